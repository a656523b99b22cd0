/- copyTree, both sides. -/
import Derived.Test.YtcdneamoemmohaaCopyN
import Derived.Deep.AppendLies
namespace Go.Proofs.Ytcdneamoemmohaa
open Go.RowKit Go.ChangeShapes Go.WideShapes
set_option linter.unusedVariables false
set_option linter.unusedSimpArgs false

/-- one more node in the copy: the node's own block stands ahead of the family, its slices behind it -/
theorem copy_push {w6 w7 w8 w9 : World} {base g q n : Nat} {v v' : Value} {KS RS : List Value} {T : List NodeD} {x : NodeD} {vk vr : Value} (hKS : KS.length = T.length) (hRS : RS.length = T.length) (hn : n = T.length)
    (hF : Fam w6 base ((xrow g (nodeL x vk vr) :: treeF v T KS RS) ++ [kidsRow vk x.kids, rulesRow vr x.rules])) (h7 : Bel w6 w7)
    (ho : w8.ownsRow base 77 64 v' (n + 1) (nodesL KS RS T ++ nodeL x vk vr)) (hg : w7.grownBy w8 v.ownBlock) (hv : v'.ownBlock = v.ownBlock ∨ v'.ownBlock = some w7.heap.size)
    (h9 : w8.grownBy w9 (some q)) (hq : q < base) : Fam w9 base (treeF v' (T ++ [x]) (KS ++ [vk]) (RS ++ [vr])) := by
  subst hn
  have h1 := hF.keep h7
  have h2 := Fam.write (i := 1) (r := ⟨77, 64, v, T.length, nodesL KS RS T⟩) h1 rfl hg ⟨77, 64, v', T.length + 1, nodesL KS RS T ++ nodeL x vk vr⟩ hv ho
  have h3 := Fam.far h2 h9 hq
  have h4 : Fam w9 base (⟨77, 64, v', T.length + 1, nodesL KS RS T ++ nodeL x vk vr⟩ :: (nodeRows KS RS T ++ [kidsRow vk x.kids, rulesRow vr x.rules])) := h3.sub (List.sublist_cons_self _ _)
  unfold treeF
  rw [nodesL_snoc _ _ _ hKS hRS, nodeRows_snoc _ _ _ hKS hRS, List.length_append]
  exact h4
/-- the rows so far, while a node is copied -/
theorem copy_x {wr w2 : World} {base : Nat} {L : List Value} {F : List Row} (hF : Fam wr base F) (H : (xrow wr.heap.size L).own w2 wr.heap.size ∧ Bel wr w2) (hs : base ≤ wr.heap.size) : Fam w2 base (xrow wr.heap.size L :: F) :=
  hF.cons1 H.2 H.1 hs
theorem copy_set {w3 w4 : World} {base g i : Nat} {L : List Value} {u : Value} {F : List Row} (hF : Fam w3 base (xrow g L :: F)) (H : (xrow g (L.set i u)).own w4 base ∧ w3.grownBy w4 (some g)) : Fam w4 base (xrow g (L.set i u) :: F) :=
  Fam.write (i := 0) (r := xrow g L) hF rfl H.2 (xrow g (L.set i u)) (.inl rfl) H.1
theorem copy_row {w2 w3 : World} {base : Nat} {r : Row} {F : List Row} (hF : Fam w2 base F) (hb : Bel w2 w3) (hr : r.own w3 w2.heap.size) (hs : base ≤ w2.heap.size) : Fam w3 base (F ++ [r]) := hF.add1 hb hr hs
theorem take_snoc {T : List NodeD} {k : Nat} (h : k < T.length) : T.take (k + 1) = T.take k ++ [node_ T k] := by rw [List.take_add_one, node_eq h]; rfl
theorem grown_set (u : World) (b : Nat) (v : Value) : u.grownBy (u.setCell ⟨b, 0, none⟩ v) (some b) := ⟨rfl, rfl, rfl, by simp [World.setCell], fun k hk hne => Below.heap_setCell _ _ _ _ (fun e => hne (by rw [e]))⟩
theorem own_pos {w : World} {base n size : Nat} {e : TypeId} {v : Value} {xs : List Value} (h : w.ownsRow base e size v (n + 1) xs) : ∃ g c, v = .slice (some ⟨g, 0, none⟩) (n + 1) c := by
  rcases h.2 with ⟨_, h0⟩ | ⟨g, c, cur, h1, _⟩
  · omega
  · exact ⟨g, c, h1⟩
set_option maxRecDepth 100000 in
set_option maxHeartbeats 8000000 in
theorem iCopyTree_c (A : Option Addr) (c : Nat) (T : List NodeD) (w : World) (h : NodesC w A T) (hn : treeSz T ≤ 1048576) :
    Calls Try.prog 56 #[treeV A T.length c] w fun e w' => ∃ A' c', e = .returned (treeV A' T.length c') ∧ TreeAt w' w.heap.size (.slice A' T.length c') T ∧ Bel w w' := by
  have hT := len_of hn
  have HKR := hid' (kr_of hn)
  clear hn
  obtain ⟨W0, hW0⟩ : ∃ W0, W0 = (w.alloc (.cells #[.slice A T.length c] 30)).alloc (.cells #[.slice none 0 0] 30) := ⟨_, rfl⟩
  have HWB : Hid (Bel w W0) := hid' (by rw [hW0]; exact ((Bel.refl w).alloc _).alloc _)
  have HS : Hid (W0.heap.size = w.heap.size + 1 + 1) := hid' (by rw [hW0]; simp)
  have HC2 : Hid (∀ u, Bel W0 u → u.cell? ⟨w.heap.size + 1, 0, none⟩ = some (.slice none 0 0) ∧ u.frozen? ⟨w.heap.size + 1, 0, none⟩ = false) := hid' (fun u hu => ⟨by rw [hu.cell _ _ (by rw [hW0]; simp), hW0]; simp, by rw [hu.frozen _ _ (by rw [hW0]; simp), hW0]; simp⟩)
  have hc3 : (W0.alloc (.cells #[.slice none 0 0] 30)).cell? ⟨w.heap.size + 1 + 1, 0, none⟩ = some (.slice none 0 0) := by rw [← HS.out]; simp
  have hf3 : (W0.alloc (.cells #[.slice none 0 0] 30)).frozen? ⟨w.heap.size + 1 + 1, 0, none⟩ = false := by rw [← HS.out]; simp
  have HC3 := hid' (And.intro hc3 hf3)
  have hb0 : Bel W0 (W0.alloc (.cells #[.slice none 0 0] 30)) := (Bel.refl W0).alloc _
  have HL0 : Hid (w.heap.size + 1 + 1 + 1 ≤ (W0.alloc (.cells #[.slice none 0 0] 30)).heap.size) := hid' (by have := HS.out; simp; omega)
  clear hc3 hf3
  go_enter Try.func56, Try.ntmps56
  go_wp2_with fail
  rw [← hW0]
  clear hW0
  go_loopw [9] (fun i wr => ∃ (k : Nat) (v : Value) (KS RS : List Value), k ≤ T.length ∧ i = .int .i64 k ∧ Hid (KS.length = k) ∧ Hid (RS.length = k) ∧ Hid (Fam wr (w.heap.size + 1 + 1 + 1) (treeF v (T.take k) KS RS)) ∧
    wr.cell? ⟨w.heap.size + 1 + 1, 0, none⟩ = some v ∧ wr.frozen? ⟨w.heap.size + 1 + 1, 0, none⟩ = false ∧ Hid (w.heap.size + 1 + 1 + 1 ≤ wr.heap.size) ∧ Bel W0 wr) (fun i _ => T.length - (intOf i).toNat)
  case atStart => exact ⟨0, .slice none 0 0, [], [], Nat.zero_le _, rfl, rfl, rfl, hid' (by rw [List.take_zero]; exact Fam.one (r := ⟨77, 64, .slice none 0 0, 0, []⟩) ⟨rfl, .inl ⟨rfl, rfl⟩⟩), HC3.out.1, HC3.out.2, HL0, hb0⟩
  case round =>
    obtain ⟨k, v, KS, RS, hk, rfl, HKS, HRS, HF, hco, hfo, HLE, hb⟩ := hrel
    clear HC3 HL0 hb0
    by_cases hlt : k < T.length
    · obtain ⟨b, o, rfl, hbl, hR⟩ := h k hlt
      obtain ⟨K, ck, R, cr, hrg, hKI, hRI, hK0, hR0, -, -⟩ := hR k hlt
      obtain ⟨hkk, hrr⟩ := HKR.out k hlt
      have HG := hid' (range_bel hrg (HWB.out.trans hb) hbl)
      have HKI := hid' (hKI.keep (HWB.out.trans hb))
      have HRI := hid' (hRI.keep (HWB.out.trans hb))
      have HK0 := Lib.hid hK0
      have HR0 := Lib.hid hR0
      have hlti : (k : Int) < (T.length : Int) := by omega
      have h64 := nodeL_length (node_ T k) (.slice K (node_ T k).kids.length ck) (.slice R (node_ T k).rules.length cr)
      have HON : Hid (∀ u ∈ nodeL (node_ T k) (.slice K (node_ T k).kids.length ck) (.slice R (node_ T k).rules.length cr), u.oneCell' = true) := hid' (nodeL_one _ rfl rfl)
      clear hR hrg hKI hRI hK0 hR0
      have hbo : w.heap.size + 1 + 1 < wr.heap.size := HLE.out
      go_wp2_with (first
        | ((with_reducible show wpList _ _ _ (Oper.mk _ (Op.load _ _) _ _ _ _ :: _) _ _); refine wpList_load_mid rfl 77 _ rfl b (o + k * 64) rfl (nodeL (node_ T k) (.slice K (node_ T k).kids.length ck) (.slice R (node_ T k).rules.length cr)) _ HG.out Try.underlying77 rfl (by rw [h64]; kernel_rfl) ?_)
        | ((with_reducible show wpList _ _ _ (Oper.mk _ (Op.alloc _) _ _ _ _ :: _) _ _); refine allocNode rfl rfl ?_; intro w1 HA)
        | ((with_reducible show wpList _ _ _ (Oper.mk _ (Op.store _ _ _) _ _ _ _ :: _) _ _); refine storeRow rfl _ _ rfl HA rfl (nodeL (node_ T k) (.slice K (node_ T k).kids.length ck) (.slice R (node_ T k).rules.length cr)) rfl h64 HON.out ?_; intro w2 H2
           have HF2 := hid' (copy_x HF.out H2.out HLE.out)
           have c1 := xrow_cell H2.out.1 (show (nodeL (node_ T k) (.slice K (node_ T k).kids.length ck) (.slice R (node_ T k).rules.length cr))[1]? = some (.slice K (node_ T k).kids.length ck) from rfl) (by decide))
        | (go_at_call 68; refine (copyInts_c _ _ _ _ (HKI.out.keep H2.out.2) HK0.out hkk).mono ?_; rintro e w3 ⟨v1, rfl, ho3, hb3⟩
           have HB3 := hid' (H2.out.2.trans hb3)
           have HF3 := hid' (copy_row HF2.out hb3 (r := kidsRow v1 (node_ T k).kids) ho3 (Nat.le_trans HLE.out H2.out.2.sz))
           have HO3 := hid' (own_keep H2.out.1 hb3)
           obtain ⟨A1, d1, rfl, -, -, -⟩ := own_openC ho3
           clear ho3 hb3 c1)
        | ((with_reducible show wpList _ _ _ (Oper.mk _ (Op.store _ _ _) _ _ _ _ :: _) _ _); refine storeOne rfl 26 _ _ rfl (i := 1) HO3.out (by decide) rfl (.slice A1 (node_ T k).kids.length d1) (.slice A1 (node_ T k).kids.length d1) rfl rfl (by kernel_rfl) rfl ?_; intro w4 H4
           have HF4 := hid' (copy_set HF3.out ⟨own_low H4.out.1 HLE.out, H4.out.2⟩)
           have HB4 := hid' (HB3.out.grown H4.out.2 (fun q e => by injection e with e; omega))
           have c63 := xrow_cell H4.out.1 (show ((nodeL (node_ T k) (.slice K (node_ T k).kids.length ck) (.slice R (node_ T k).rules.length cr)).set 1 (.slice A1 (node_ T k).kids.length d1))[63]? = some (.slice R (node_ T k).rules.length cr) from nodeL_get63 _ _ _) (by decide))
        | (go_at_call 59; refine (copyTable_c _ _ _ _ (HRI.out.keep HB4.out) HR0.out hrr).mono ?_; rintro e w5 ⟨v2, rfl, ho5, hb5⟩
           have HB5 := hid' (HB4.out.trans hb5)
           have HF5 := hid' (copy_row HF4.out hb5 (r := rulesRow v2 (node_ T k).rules) ho5 (Nat.le_trans HLE.out HB4.out.sz))
           have HO5 := hid' (own_keep H4.out.1 hb5)
           obtain ⟨A2, d2, rfl, -, -, -⟩ := own_openR (ks := k_rule) rfl ho5
           clear ho5 hb5 c63)
        | ((with_reducible show wpList _ _ _ (Oper.mk _ (Op.store _ _ _) _ _ _ _ :: _) _ _); refine storeOne rfl 45 _ _ rfl (i := 63) HO5.out (by decide) rfl (.agg #[.slice A2 (node_ T k).rules.length d2]) (.slice A2 (node_ T k).rules.length d2) rfl rfl (by kernel_rfl) rfl ?_; intro w6 H6
           have HB6 := hid' (HB5.out.grown H6.out.2 (fun q e => by injection e with e; omega))
           have HF6 := copy_set HF5.out ⟨own_low H6.out.1 HLE.out, H6.out.2⟩
           have HX6 := H6.out.1
           rw [nodeL_set1, nodeL_set63] at HF6 HX6
           replace HF6 := hid' HF6
           have h64' := nodeL_length (node_ T k) (.slice A1 (node_ T k).kids.length d1) (.slice A2 (node_ T k).rules.length d2)
           have HX := hid' (xrow_range HX6 h64')
           clear HX6
           have hc6 := (HB6.out.cell _ _ hbo).trans hco)
        | ((with_reducible show wpList _ _ _ (Oper.mk _ (Op.load _ _) _ _ _ _ :: _) _ _); refine wpList_load_mid rfl 77 _ rfl wr.heap.size 0 rfl (nodeL (node_ T k) (.slice A1 (node_ T k).kids.length d1) (.slice A2 (node_ T k).rules.length d2)) _ HX.out Try.underlying77 rfl (by rw [h64']; kernel_rfl) ?_)
        | ((with_reducible show wpList _ _ _ (Oper.mk _ (Op.buildSlice _ _ _) _ _ _ _ :: _) _ _); refine buildNode rfl _ rfl (nodeL (node_ T k) (.slice A1 (node_ T k).kids.length d1) (.slice A2 (node_ T k).rules.length d2)) h64' rfl ?_; intro w7 H7
           have HB7 : Hid (Bel w6 w7) := hid' (by rw [H7.out]; exact (Bel.refl w6).alloc _))
        | (at_builtin; refine appG rfl (.tmp 22) (.tmp 24) 28 77 rfl (.agg znode.toArray) 64 536 Try.underlying28 Try.info_node rfl (by decide) (by decide) (w.heap.size + 1 + 1 + 1) v k (nodesL KS RS (T.take k)) rfl
             (own_keep (show w6.ownsRow (w.heap.size + 1 + 1 + 1) 77 64 v k (nodesL KS RS (T.take k)) from by have := HF6.out.1 ⟨77, 64, v, (T.take k).length, nodesL KS RS (T.take k)⟩ (by simp [treeF]); rw [show (T.take k).length = k by rw [List.length_take]; omega] at this; exact this) HB7.out) w6.heap.size rfl
             (nodeL (node_ T k) (.slice A1 (node_ T k).kids.length d1) (.slice A2 (node_ T k).rules.length d2)) h64' (fun j u hj => by rw [H7.out]; exact new_cells w6 _ _ j u hj) (nodeL_one _ rfl rfl) (by omega) (Nat.le_trans HLE.out (HB6.out.trans HB7.out).sz) ?_
           intro v8 w8 ho8 hg8 hv8
           obtain ⟨g8, c8, rfl⟩ := own_pos ho8
           have HO8 := hid' ho8
           have HG8 := hid' hg8
           have HV8 := hid' hv8
           have HW : Hid (∀ q, v.ownBlock = some q → w.heap.size + 1 + 1 + 1 ≤ q) := hid' (fun q hq => (World.ownsRow.lt (HF.out.1 ⟨77, 64, v, (T.take k).length, nodesL KS RS (T.take k)⟩ (by simp [treeF])) q hq).1)
           have HB8 : Hid (Bel W0 w8) := hid' ((hb.trans (HB6.out.trans HB7.out)).grown hg8 (fun q hq => by have := HW.out q hq; have := HS.out; omega))
           have hne8 : v.ownBlock ≠ some (w.heap.size + 1 + 1) := fun e => by have := HW.out _ e; omega
           have hc8 : w8.cell? ⟨w.heap.size + 1 + 1, 0, none⟩ = some v := by rw [World.grownBy.cell_far hg8 ⟨w.heap.size + 1 + 1, 0, none⟩ (Nat.lt_of_lt_of_le hbo (HB6.out.trans HB7.out).sz) (fun e => hne8 e.symm), (HB6.out.trans HB7.out).cell _ _ hbo]; exact hco
           have hf8 : w8.frozen? ⟨w.heap.size + 1 + 1, 0, none⟩ = false := by rw [World.grownBy.frozen_far hg8 ⟨w.heap.size + 1 + 1, 0, none⟩ (Nat.lt_of_lt_of_le hbo (HB6.out.trans HB7.out).sz) (fun e => hne8 e.symm), (HB6.out.trans HB7.out).frozen _ _ hbo]; exact hfo
           clear ho8 hg8 hv8 hne8))
      go_roundw
      case rel =>
        have hlk : (T.take k).length = k := by rw [List.length_take]; omega
        refine ⟨k + 1, .slice (some ⟨g8, 0, none⟩) (k + 1) c8, KS ++ [.slice A1 (node_ T k).kids.length d1], RS ++ [.slice A2 (node_ T k).rules.length d2], by omega, by go_num, hid' (by simp [HKS.out]), hid' (by simp [HRS.out]), hid' ?_, ?_, ?_, ?_, ?_⟩
        · rw [take_snoc hlt]
          exact copy_push (n := k) (by rw [HKS.out, hlk]) (by rw [HRS.out, hlk]) hlk.symm (by have := HF6.out; simpa [List.append_assoc] using this) HB7.out HO8.out HG8.out HV8.out (grown_set _ _ _) (by omega)
        · exact World.cell?_setCell_same _ _ _ hc8
        · rw [World.frozen?_setCell]; exact hf8
        · exact hid' (by have := HB8.out.sz; have h2 := HS.out; have h3 := HLE.out; have h4 := (HB6.out.trans HB7.out).sz; have h5 := HG8.out.size; simp [World.setCell]; omega)
        · exact HB8.out.setCell (show W0.heap.size ≤ w.heap.size + 1 + 1 by rw [HS.out]; omega) _
      case measure => simp [intOf]; omega
    · obtain rfl : k = T.length := by omega
      have hc2 := (HC2.out _ hb).1
      have hf2 := (HC2.out _ hb).2
      have HT : Hid (TreeAt wr (w.heap.size + 1 + 1 + 1) v T) := hid' ⟨KS, RS, HKS.out, HRS.out, by have := HF.out; rw [List.take_length] at this; exact this⟩
      obtain ⟨A', c', rfl, -, -, -, -⟩ := HT.out.nodes
      clear HF
      go_wp2_with fail
      refine bodyPost_ret (v := .agg #[.slice A' T.length c']) (by simp [results, Try.results56, go_sem, hc2]) rfl ⟨_, _, rfl, ?_, ?_⟩
      · exact (HT.out.far (grown_set _ _ _) (by omega)).base (by omega)
      · exact (HWB.out.trans hb).setCell (show w.heap.size ≤ w.heap.size + 1 by omega) _
set_option maxRecDepth 100000 in
set_option maxHeartbeats 8000000 in
theorem sCopyTree_c (A : Option Addr) (c : Nat) (T : List NodeD) (w : World) (h : NodesC w A T) (hn : treeSz T ≤ 1048576) :
    Calls Try.prog 53 #[treeV A T.length c] w fun e w' => ∃ A' c', e = .returned (treeV A' T.length c') ∧ TreeAt w' w.heap.size (.slice A' T.length c') T ∧ Bel w w' := by
  have hT := len_of hn
  have HKR := hid' (kr_of hn)
  clear hn
  obtain ⟨W0, hW0⟩ : ∃ W0, W0 = (w.alloc (.cells #[.slice A T.length c] 30)).alloc (.cells #[.slice none 0 0] 30) := ⟨_, rfl⟩
  have HWB : Hid (Bel w W0) := hid' (by rw [hW0]; exact ((Bel.refl w).alloc _).alloc _)
  have HS : Hid (W0.heap.size = w.heap.size + 1 + 1) := hid' (by rw [hW0]; simp)
  have HC2 : Hid (∀ u, Bel W0 u → u.cell? ⟨w.heap.size + 1, 0, none⟩ = some (.slice none 0 0) ∧ u.frozen? ⟨w.heap.size + 1, 0, none⟩ = false) := hid' (fun u hu => ⟨by rw [hu.cell _ _ (by rw [hW0]; simp), hW0]; simp, by rw [hu.frozen _ _ (by rw [hW0]; simp), hW0]; simp⟩)
  have hc3 : (W0.alloc (.cells #[.slice none 0 0] 30)).cell? ⟨w.heap.size + 1 + 1, 0, none⟩ = some (.slice none 0 0) := by rw [← HS.out]; simp
  have hf3 : (W0.alloc (.cells #[.slice none 0 0] 30)).frozen? ⟨w.heap.size + 1 + 1, 0, none⟩ = false := by rw [← HS.out]; simp
  have HC3 := hid' (And.intro hc3 hf3)
  have hb0 : Bel W0 (W0.alloc (.cells #[.slice none 0 0] 30)) := (Bel.refl W0).alloc _
  have HL0 : Hid (w.heap.size + 1 + 1 + 1 ≤ (W0.alloc (.cells #[.slice none 0 0] 30)).heap.size) := hid' (by have := HS.out; simp; omega)
  have HC1 : Hid (∀ u, Bel W0 u → u.cell? ⟨w.heap.size, 0, none⟩ = some (.slice A T.length c)) := hid' (fun u hu => by rw [hu.cell _ _ (by rw [hW0]; simp; omega), hW0]; simp)
  clear hc3 hf3
  go_enter Try.func53, Try.ntmps53
  go_wp2_with fail
  rw [← hW0]
  clear hW0
  go_loopw [4] (fun i wr => ∃ (k : Nat) (v : Value) (KS RS : List Value), k ≤ T.length ∧ i = .int .i64 k ∧ Hid (KS.length = k) ∧ Hid (RS.length = k) ∧ Hid (Fam wr (w.heap.size + 1 + 1 + 1) (treeF v (T.take k) KS RS)) ∧
    wr.cell? ⟨w.heap.size + 1 + 1, 0, none⟩ = some v ∧ wr.frozen? ⟨w.heap.size + 1 + 1, 0, none⟩ = false ∧ Hid (w.heap.size + 1 + 1 + 1 ≤ wr.heap.size) ∧ Bel W0 wr) (fun i _ => T.length - (intOf i).toNat)
  case atStart => exact ⟨0, .slice none 0 0, [], [], Nat.zero_le _, rfl, rfl, rfl, hid' (by rw [List.take_zero]; exact Fam.one (r := ⟨77, 64, .slice none 0 0, 0, []⟩) ⟨rfl, .inl ⟨rfl, rfl⟩⟩), HC3.out.1, HC3.out.2, HL0, hb0⟩
  case round =>
    obtain ⟨k, v, KS, RS, hk, rfl, HKS, HRS, HF, hco, hfo, HLE, hb⟩ := hrel
    clear HC3 HL0 hb0
    have hc1 := HC1.out _ hb
    by_cases hlt : k < T.length
    · obtain ⟨b, o, rfl, hbl, hR⟩ := h k hlt
      obtain ⟨K, ck, R, cr, hrg, hKI, hRI, hK0, hR0, -, -⟩ := hR k hlt
      obtain ⟨hkk, hrr⟩ := HKR.out k hlt
      have HG := hid' (range_bel hrg (HWB.out.trans hb) hbl)
      have HKI := hid' (hKI.keep (HWB.out.trans hb))
      have HRI := hid' (hRI.keep (HWB.out.trans hb))
      have HK0 := Lib.hid hK0
      have HR0 := Lib.hid hR0
      have hlti : (k : Int) < (T.length : Int) := by omega
      have h64 := nodeL_length (node_ T k) (.slice K (node_ T k).kids.length ck) (.slice R (node_ T k).rules.length cr)
      have HON : Hid (∀ u ∈ nodeL (node_ T k) (.slice K (node_ T k).kids.length ck) (.slice R (node_ T k).rules.length cr), u.oneCell' = true) := hid' (nodeL_one _ rfl rfl)
      clear hR hrg hKI hRI hK0 hR0
      have hbo : w.heap.size + 1 + 1 < wr.heap.size := HLE.out
      go_wp2_with (first
        | ((with_reducible show wpList _ _ _ (Oper.mk _ (Op.load _ _) _ _ _ _ :: _) _ _); refine wpList_load_mid rfl 77 _ rfl b (o + k * 64) rfl (nodeL (node_ T k) (.slice K (node_ T k).kids.length ck) (.slice R (node_ T k).rules.length cr)) _ HG.out Try.underlying77 rfl (by rw [h64]; kernel_rfl) ?_)
        | ((with_reducible show wpList _ _ _ (Oper.mk _ (Op.alloc _) _ _ _ _ :: _) _ _); refine allocNode rfl rfl ?_; intro w1 HA)
        | ((with_reducible show wpList _ _ _ (Oper.mk _ (Op.store _ _ _) _ _ _ _ :: _) _ _); refine storeRow rfl _ _ rfl HA rfl (nodeL (node_ T k) (.slice K (node_ T k).kids.length ck) (.slice R (node_ T k).rules.length cr)) rfl h64 HON.out ?_; intro w2 H2
           have HF2 := hid' (copy_x HF.out H2.out HLE.out)
           have c1 := xrow_cell H2.out.1 (show (nodeL (node_ T k) (.slice K (node_ T k).kids.length ck) (.slice R (node_ T k).rules.length cr))[1]? = some (.slice K (node_ T k).kids.length ck) from rfl) (by decide)
           have c1a := (((Bel.refl w2).alloc (.cells #[] 3)).cell _ _ (World.block_lt_of_cell? _ _ c1)).trans c1)
        | (at_builtin; refine appS rfl (.tmp 19) (.tmp 21) rfl w2.heap.size (.slice (some ⟨w2.heap.size, 0, none⟩) 0 0) 0 [] rfl (World.ownsRow_lit w2 #[] 0 (Nat.le_refl _) (by unfold maxLen; omega) rfl) K ck (node_ T k).kids rfl ((HKI.out.keep H2.out.2).keep ((Bel.refl w2).alloc _)) HK0.out (by omega) (by simp) ?_; intro v1 w3 ho3 hg3
           rw [Nat.zero_add, List.nil_append] at ho3
           have hb3 : Bel w2 w3 := ((Bel.refl w2).alloc (.cells #[] 3)).grown hg3 (by simp [Value.ownBlock])
           have HB3 := hid' (H2.out.2.trans hb3)
           have HF3 := hid' (copy_row HF2.out hb3 (r := kidsRow v1 (node_ T k).kids) ho3 (Nat.le_trans HLE.out H2.out.2.sz))
           have HO3 := hid' (own_keep H2.out.1 hb3)
           obtain ⟨A1, d1, rfl, -, -, -⟩ := own_openC ho3
           clear ho3 hb3 c1 c1a)
        | ((with_reducible show wpList _ _ _ (Oper.mk _ (Op.store _ _ _) _ _ _ _ :: _) _ _); refine storeOne rfl 26 _ _ rfl (i := 1) HO3.out (by decide) rfl (.slice A1 (node_ T k).kids.length d1) (.slice A1 (node_ T k).kids.length d1) rfl rfl (by kernel_rfl) rfl ?_; intro w4 H4
           have HF4 := hid' (copy_set HF3.out ⟨own_low H4.out.1 HLE.out, H4.out.2⟩)
           have HB4 := hid' (HB3.out.grown H4.out.2 (fun q e => by injection e with e; omega))
           have c63 := xrow_cell H4.out.1 (show ((nodeL (node_ T k) (.slice K (node_ T k).kids.length ck) (.slice R (node_ T k).rules.length cr)).set 1 (.slice A1 (node_ T k).kids.length d1))[63]? = some (.slice R (node_ T k).rules.length cr) from nodeL_get63 _ _ _) (by decide)
           have c63a := (((Bel.refl w4).alloc (.cells #[] 106)).cell _ _ (World.block_lt_of_cell? _ _ c63)).trans c63)
        | (at_builtin; refine appR rfl (.tmp 24) (.tmp 27) rfl w4.heap.size (.slice (some ⟨w4.heap.size, 0, none⟩) 0 0) 0 [] rfl (World.ownsRow_lit w4 #[] 0 (Nat.le_refl _) (by unfold maxLen; omega) rfl) R cr (node_ T k).rules rfl ((HRI.out.keep HB4.out).keep ((Bel.refl w4).alloc _)) HR0.out (by omega) (by simp) ?_; intro v2 w5 ho5 hg5
           rw [Nat.zero_add, List.nil_append] at ho5
           have hb5 : Bel w4 w5 := ((Bel.refl w4).alloc (.cells #[] 106)).grown hg5 (by simp [Value.ownBlock])
           have HB5 := hid' (HB4.out.trans hb5)
           have HF5 := hid' (copy_row HF4.out hb5 (r := rulesRow v2 (node_ T k).rules) ho5 (Nat.le_trans HLE.out HB4.out.sz))
           have HO5 := hid' (own_keep H4.out.1 hb5)
           obtain ⟨A2, d2, rfl, -, -, -⟩ := own_openR (ks := k_rule) rfl ho5
           clear ho5 hb5 c63 c63a)
        | ((with_reducible show wpList _ _ _ (Oper.mk _ (Op.store _ _ _) _ _ _ _ :: _) _ _); refine storeOne rfl 45 _ _ rfl (i := 63) HO5.out (by decide) rfl (.agg #[.slice A2 (node_ T k).rules.length d2]) (.slice A2 (node_ T k).rules.length d2) rfl rfl (by kernel_rfl) rfl ?_; intro w6 H6
           have HB6 := hid' (HB5.out.grown H6.out.2 (fun q e => by injection e with e; omega))
           have HF6 := copy_set HF5.out ⟨own_low H6.out.1 HLE.out, H6.out.2⟩
           have HX6 := H6.out.1
           rw [nodeL_set1, nodeL_set63] at HF6 HX6
           replace HF6 := hid' HF6
           have h64' := nodeL_length (node_ T k) (.slice A1 (node_ T k).kids.length d1) (.slice A2 (node_ T k).rules.length d2)
           have HX := hid' (xrow_range HX6 h64')
           clear HX6
           have hc6 := (HB6.out.cell _ _ hbo).trans hco)
        | ((with_reducible show wpList _ _ _ (Oper.mk _ (Op.load _ _) _ _ _ _ :: _) _ _); refine wpList_load_mid rfl 77 _ rfl wr.heap.size 0 rfl (nodeL (node_ T k) (.slice A1 (node_ T k).kids.length d1) (.slice A2 (node_ T k).rules.length d2)) _ HX.out Try.underlying77 rfl (by rw [h64']; kernel_rfl) ?_)
        | ((with_reducible show wpList _ _ _ (Oper.mk _ (Op.buildSlice _ _ _) _ _ _ _ :: _) _ _); refine buildNode rfl _ rfl (nodeL (node_ T k) (.slice A1 (node_ T k).kids.length d1) (.slice A2 (node_ T k).rules.length d2)) h64' rfl ?_; intro w7 H7
           have HB7 : Hid (Bel w6 w7) := hid' (by rw [H7.out]; exact (Bel.refl w6).alloc _))
        | (at_builtin; refine appG rfl (.tmp 32) (.tmp 34) 28 77 rfl (.agg znode.toArray) 64 536 Try.underlying28 Try.info_node rfl (by decide) (by decide) (w.heap.size + 1 + 1 + 1) v k (nodesL KS RS (T.take k)) rfl
             (own_keep (show w6.ownsRow (w.heap.size + 1 + 1 + 1) 77 64 v k (nodesL KS RS (T.take k)) from by have := HF6.out.1 ⟨77, 64, v, (T.take k).length, nodesL KS RS (T.take k)⟩ (by simp [treeF]); rw [show (T.take k).length = k by rw [List.length_take]; omega] at this; exact this) HB7.out) w6.heap.size rfl
             (nodeL (node_ T k) (.slice A1 (node_ T k).kids.length d1) (.slice A2 (node_ T k).rules.length d2)) h64' (fun j u hj => by rw [H7.out]; exact new_cells w6 _ _ j u hj) (nodeL_one _ rfl rfl) (by omega) (Nat.le_trans HLE.out (HB6.out.trans HB7.out).sz) ?_
           intro v8 w8 ho8 hg8 hv8
           obtain ⟨g8, c8, rfl⟩ := own_pos ho8
           have HO8 := hid' ho8
           have HG8 := hid' hg8
           have HV8 := hid' hv8
           have HW : Hid (∀ q, v.ownBlock = some q → w.heap.size + 1 + 1 + 1 ≤ q) := hid' (fun q hq => (World.ownsRow.lt (HF.out.1 ⟨77, 64, v, (T.take k).length, nodesL KS RS (T.take k)⟩ (by simp [treeF])) q hq).1)
           have HB8 : Hid (Bel W0 w8) := hid' ((hb.trans (HB6.out.trans HB7.out)).grown hg8 (fun q hq => by have := HW.out q hq; have := HS.out; omega))
           have hne8 : v.ownBlock ≠ some (w.heap.size + 1 + 1) := fun e => by have := HW.out _ e; omega
           have hc8 : w8.cell? ⟨w.heap.size + 1 + 1, 0, none⟩ = some v := by rw [World.grownBy.cell_far hg8 ⟨w.heap.size + 1 + 1, 0, none⟩ (Nat.lt_of_lt_of_le hbo (HB6.out.trans HB7.out).sz) (fun e => hne8 e.symm), (HB6.out.trans HB7.out).cell _ _ hbo]; exact hco
           have hf8 : w8.frozen? ⟨w.heap.size + 1 + 1, 0, none⟩ = false := by rw [World.grownBy.frozen_far hg8 ⟨w.heap.size + 1 + 1, 0, none⟩ (Nat.lt_of_lt_of_le hbo (HB6.out.trans HB7.out).sz) (fun e => hne8 e.symm), (HB6.out.trans HB7.out).frozen _ _ hbo]; exact hfo
           clear ho8 hg8 hv8 hne8))
      go_roundw
      case rel =>
        have hlk : (T.take k).length = k := by rw [List.length_take]; omega
        refine ⟨k + 1, .slice (some ⟨g8, 0, none⟩) (k + 1) c8, KS ++ [.slice A1 (node_ T k).kids.length d1], RS ++ [.slice A2 (node_ T k).rules.length d2], by omega, by go_num, hid' (by simp [HKS.out]), hid' (by simp [HRS.out]), hid' ?_, ?_, ?_, ?_, ?_⟩
        · rw [take_snoc hlt]
          exact copy_push (n := k) (by rw [HKS.out, hlk]) (by rw [HRS.out, hlk]) hlk.symm (by have := HF6.out; simpa [List.append_assoc] using this) HB7.out HO8.out HG8.out HV8.out (grown_set _ _ _) (by omega)
        · exact World.cell?_setCell_same _ _ _ hc8
        · rw [World.frozen?_setCell]; exact hf8
        · exact hid' (by have := HB8.out.sz; have h2 := HS.out; have h3 := HLE.out; have h4 := (HB6.out.trans HB7.out).sz; have h5 := HG8.out.size; simp [World.setCell]; omega)
        · exact HB8.out.setCell (show W0.heap.size ≤ w.heap.size + 1 + 1 by rw [HS.out]; omega) _
      case measure => simp [intOf]; omega
    · obtain rfl : k = T.length := by omega
      have hc2 := (HC2.out _ hb).1
      have hf2 := (HC2.out _ hb).2
      have HT : Hid (TreeAt wr (w.heap.size + 1 + 1 + 1) v T) := hid' ⟨KS, RS, HKS.out, HRS.out, by have := HF.out; rw [List.take_length] at this; exact this⟩
      obtain ⟨A', c', rfl, -, -, -, -⟩ := HT.out.nodes
      clear HF
      go_wp2_with fail
      refine bodyPost_ret (v := .agg #[.slice A' T.length c']) (by simp [results, Try.results53, go_sem, hc2]) rfl ⟨_, _, rfl, ?_, ?_⟩
      · exact (HT.out.far (grown_set _ _ _) (by omega)).base (by omega)
      · exact (HWB.out.trans hb).setCell (show w.heap.size ≤ w.heap.size + 1 by omega) _
end Go.Proofs.Ytcdneamoemmohaa
