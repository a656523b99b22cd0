/- Slices of nodes and trees: the law's own helpers. -/
import Derived.Test.YtkoljbndbomhdaaGreatTree
namespace Go.Proofs.YtkoljbndbomhdaaGreat
open Go.RowKit Go.ChangeShapes Go.WideShapes
set_option linter.unusedVariables false
set_option linter.unusedSimpArgs false

def znode : List Value := .int .i64 0 :: .slice none 0 0 :: (zstyle ++ [.bool false, .slice none 0 0])
theorem Tryz.info_node : (Tryz.prog.info? 79).map (fun i => (i.zero, i.size, i.bytes)) = some (some (.agg znode.toArray), 64, 536) := by kernel_rfl

def nodesL : List Value → List Value → List NodeD → List Value
  | k :: ks, r :: rs, x :: T => nodeL x k r ++ nodesL ks rs T
  | _, _, _ => []
def nodeRows : List Value → List Value → List NodeD → List Row
  | k :: ks, r :: rs, x :: T => kidsRow k x.kids :: rulesRow r x.rules :: nodeRows ks rs T
  | _, _, _ => []
theorem nodesL_snoc : ∀ {KS RS : List Value} {T : List NodeD} (k r : Value) (x : NodeD), KS.length = T.length → RS.length = T.length → nodesL (KS ++ [k]) (RS ++ [r]) (T ++ [x]) = nodesL KS RS T ++ nodeL x k r
  | [], [], [], k, r, x, _, _ => by simp [nodesL]
  | a :: KS, b :: RS, y :: T, k, r, x, h1, h2 => by
    simp only [List.cons_append, nodesL, List.append_assoc]
    rw [nodesL_snoc k r x (by simpa using h1) (by simpa using h2)]
  | [], _, _ :: _, _, _, _, h, _ => by simp at h
  | _ :: _, _, [], _, _, _, h, _ => by simp at h
  | _, [], _ :: _, _, _, _, _, h => by simp at h
  | _, _ :: _, [], _, _, _, _, h => by simp at h
theorem nodeRows_snoc : ∀ {KS RS : List Value} {T : List NodeD} (k r : Value) (x : NodeD), KS.length = T.length → RS.length = T.length → nodeRows (KS ++ [k]) (RS ++ [r]) (T ++ [x]) = nodeRows KS RS T ++ [kidsRow k x.kids, rulesRow r x.rules]
  | [], [], [], k, r, x, _, _ => by simp [nodeRows]
  | a :: KS, b :: RS, y :: T, k, r, x, h1, h2 => by
    simp only [List.cons_append, nodeRows]
    rw [nodeRows_snoc k r x (by simpa using h1) (by simpa using h2)]
  | [], _, _ :: _, _, _, _, h, _ => by simp at h
  | _ :: _, _, [], _, _, _, h, _ => by simp at h
  | _, [], _ :: _, _, _, _, _, h => by simp at h
  | _, _ :: _, [], _, _, _, _, h => by simp at h
theorem nodesL_length : ∀ {KS RS : List Value} {T : List NodeD}, KS.length = T.length → RS.length = T.length → (nodesL KS RS T).length = T.length * 64
  | [], [], [], _, _ => rfl
  | a :: KS, b :: RS, y :: T, h1, h2 => by
    simp only [nodesL, List.length_append, nodeL_length, List.length_cons]
    rw [nodesL_length (by simpa using h1) (by simpa using h2)]
    omega
  | [], _, _ :: _, h, _ => by simp at h
  | _ :: _, _, [], h, _ => by simp at h
  | _, [], _ :: _, _, h => by simp at h
  | _, _ :: _, [], _, h => by simp at h
/-- the node at j, and where its own slices are -/
theorem nodesL_at : ∀ {KS RS : List Value} {T : List NodeD} {j : Nat}, KS.length = T.length → RS.length = T.length → j < T.length →
    ∃ k r, KS[j]? = some k ∧ RS[j]? = some r ∧ kidsRow k (node_ T j).kids ∈ nodeRows KS RS T ∧ rulesRow r (node_ T j).rules ∈ nodeRows KS RS T ∧ ∀ q, q < 64 → (nodesL KS RS T)[j * 64 + q]? = (nodeL (node_ T j) k r)[q]?
  | a :: KS, b :: RS, y :: T, 0, h1, h2, _ => by
    refine ⟨a, b, rfl, rfl, by simp [nodeRows, node_], by simp [nodeRows, node_], fun q hq => ?_⟩
    simp only [nodesL, Nat.zero_mul, Nat.zero_add]
    rw [List.getElem?_append_left (by rw [nodeL_length]; exact hq)]
    rfl
  | a :: KS, b :: RS, y :: T, j + 1, h1, h2, h3 => by
    obtain ⟨k, r, e1, e2, m1, m2, e3⟩ := nodesL_at (KS := KS) (RS := RS) (T := T) (j := j) (by simpa using h1) (by simpa using h2) (by simpa using h3)
    have hn : node_ (y :: T) (j + 1) = node_ T j := by simp [node_]
    rw [hn]
    refine ⟨k, r, by simpa using e1, by simpa using e2, by simp [nodeRows, m1], by simp [nodeRows, m2], fun q hq => ?_⟩
    simp only [nodesL]
    rw [List.getElem?_append_right (by rw [nodeL_length]; omega), nodeL_length, show (j + 1) * 64 + q - 64 = j * 64 + q by omega, e3 q hq]
  | [], _, _ :: _, _, h, _, _ => by simp at h
  | _, _, [], _, _, _, h => by simp at h
  | _, [], _ :: _, _, _, h, _ => by simp at h

def treeF (v : Value) (T : List NodeD) (KS RS : List Value) : List Row := ⟨79, 64, v, T.length, nodesL KS RS T⟩ :: nodeRows KS RS T
/-- the nodes v of the call's own read as T -/
def TreeAt (w : World) (base : Nat) (v : Value) (T : List NodeD) : Prop := ∃ KS RS, KS.length = T.length ∧ RS.length = T.length ∧ Fam w base (treeF v T KS RS)
theorem own_openCR {w : World} {base : Nat} {e : TypeId} {v : Value} {n : Nat} {ks : List Bool} {L : List Rec} (hn : n = L.length) (h : w.ownsRow base e ks.length v n (RV ks L)) : ∃ A c, v = .slice A L.length c ∧ L.length ≤ c ∧ c ≤ maxLen ∧ (A = none → c = 0) ∧ Recs w A ks L := by
  subst hn
  have h' := h
  rcases h.2 with ⟨rfl, h0⟩ | ⟨g, cap, cur, rfl, _, _, hnc, hcm, _⟩
  · have : L = [] := List.eq_nil_of_length_eq_zero h0
    subst this
    exact ⟨none, 0, rfl, by simp, by simp, fun _ => rfl, Recs.nil _ _ _⟩
  · exact ⟨_, _, rfl, hnc, hcm, (fun h => by cases h), Recs.of_own rfl h'⟩
/-- what a node of the call's own is -/
theorem TreeAt.node {w : World} {base : Nat} {v : Value} {T : List NodeD} {KS RS : List Value} (h1 : KS.length = T.length) (h2 : RS.length = T.length) (hF : Fam w base (treeF v T KS RS)) {j : Nat} (hj : j < T.length) :
    ∃ K ck R cr, KS[j]? = some (.slice K (node_ T j).kids.length ck) ∧ RS[j]? = some (.slice R (node_ T j).rules.length cr) ∧ Ints w K (node_ T j).kids ∧ Recs w R k_rule (node_ T j).rules ∧ (node_ T j).kids.length ≤ ck ∧ ck ≤ maxLen ∧ (K = none → ck = 0) ∧ (node_ T j).rules.length ≤ cr ∧ cr ≤ maxLen ∧ (R = none → cr = 0) ∧
      ∀ q, q < 64 → (nodesL KS RS T)[j * 64 + q]? = (nodeL (node_ T j) (.slice K (node_ T j).kids.length ck) (.slice R (node_ T j).rules.length cr))[q]? := by
  obtain ⟨k, r, e1, e2, m1, m2, e3⟩ := nodesL_at h1 h2 hj
  have o1 : w.ownsRow base 3 1 k (node_ T j).kids.length (VI (node_ T j).kids) := hF.1 _ (List.mem_cons_of_mem _ m1)
  have o2 : w.ownsRow base 112 3 r (node_ T j).rules.length (RV k_rule (node_ T j).rules) := hF.1 _ (List.mem_cons_of_mem _ m2)
  obtain ⟨K, ck, rfl, a1, a2, a3, a4⟩ := own_openC o1
  obtain ⟨R, cr, rfl, b1, b2, b3, b4⟩ := own_openCR (ks := k_rule) rfl o2
  exact ⟨K, ck, R, cr, e1, e2, a4, b4, a1, a2, a3, b1, b2, b3, e3⟩
theorem maxLen_i63 : maxLen ≤ 9223372036854775807 := by unfold maxLen; omega
theorem TreeAt.nodes {w : World} {base : Nat} {v : Value} {T : List NodeD} (h : TreeAt w base v T) : ∃ A c, v = .slice A T.length c ∧ T.length ≤ c ∧ c ≤ maxLen ∧ (A = none → c = 0) ∧ Nodes w A T := by
  obtain ⟨KS, RS, h1, h2, hF⟩ := h
  have h0 : w.ownsRow base 79 64 v T.length (nodesL KS RS T) := hF.1 ⟨79, 64, v, T.length, nodesL KS RS T⟩ (by simp [treeF])
  rcases h0.2 with ⟨rfl, h00⟩ | ⟨g, cap, cur, rfl, _, _, hnc, hcm, _⟩
  · have : T = [] := List.eq_nil_of_length_eq_zero h00
    subst this
    exact ⟨none, 0, rfl, by simp, by simp, fun _ => rfl, fun i hi => absurd hi (Nat.not_lt_zero _)⟩
  · refine ⟨_, _, rfl, hnc, hcm, (fun h => by cases h), fun i hi => ⟨g, 0, rfl, (h0.lt g rfl).2, fun j hj => ?_⟩⟩
    obtain ⟨K, ck, R, cr, e1, e2, c1, c2, d1, d2, d3, d4, d5, d6, e3⟩ := TreeAt.node h1 h2 hF hj
    have hm := maxLen_i63
    refine ⟨_, ⟨K, ck, R, cr, rfl, c1, c2, by omega, by omega⟩, fun q u hq => ?_⟩
    have hq64 : q < 64 := by have := lt_of_get hq; rw [nodeL_length] at this; exact this
    rw [Nat.zero_add, h0.cellAt _ (by omega), e3 q hq64, hq]
theorem TreeAt.keep {w w' : World} {base : Nat} {v : Value} {T : List NodeD} (h : TreeAt w base v T) (hb : Bel w w') : TreeAt w' base v T := by
  obtain ⟨KS, RS, h1, h2, h3⟩ := h
  exact ⟨KS, RS, h1, h2, h3.keep hb⟩
theorem TreeAt.base {w : World} {base base' : Nat} {v : Value} {T : List NodeD} (h : TreeAt w base v T) (hb : base' ≤ base) : TreeAt w base' v T := by
  obtain ⟨KS, RS, h1, h2, h3⟩ := h
  exact ⟨KS, RS, h1, h2, h3.base hb⟩
theorem TreeAt.far {w w' : World} {base g : Nat} {v : Value} {T : List NodeD} (h : TreeAt w base v T) (hg : w.grownBy w' (some g)) (hb : g < base) : TreeAt w' base v T := by
  obtain ⟨KS, RS, h1, h2, h3⟩ := h
  exact ⟨KS, RS, h1, h2, h3.far hg hb⟩

/-- many cells stored in a row of the call's own -/
theorem own_run {base size b n c : Nat} {e : TypeId} : ∀ (vs : List Value) (o : Nat) (xs : List Value) (w : World), w.ownsRow base e size (.slice (some ⟨b, 0, none⟩) n c) n xs → (w.setCells b o vs).ownsRow base e size (.slice (some ⟨b, 0, none⟩) n c) n (setRun xs o vs)
  | [], _, _, _, h => h
  | v :: vs, o, xs, w, h => own_run vs (o + 1) _ _ (h.stored o v).1
theorem setRun_take : ∀ (vs xs : List Value) (p : Nat), p + vs.length ≤ xs.length → (setRun xs p vs).take (p + vs.length) = xs.take p ++ vs := fun vs xs p h => by
  apply List.ext_getElem?
  intro i
  rw [List.getElem?_take]
  by_cases hi : i < p
  · rw [if_pos (by omega), setRun_before _ _ _ _ hi, List.getElem?_append_left (by rw [List.length_take]; omega), List.getElem?_take, if_pos hi]
  · by_cases hi2 : i < p + vs.length
    · rw [if_pos hi2, List.getElem?_append_right (by rw [List.length_take]; omega)]
      obtain ⟨j, rfl⟩ : ∃ j, i = p + j := ⟨i - p, by omega⟩
      rw [setRun_in _ _ _ _ h (by omega)]
      congr 1
      rw [List.length_take]; omega
    · rw [if_neg hi2, List.getElem?_eq_none (by simp; omega)]

theorem nodes_push {wr w2 : World} {base n c g : Nat} {xs KS RS : List Value} {T : List NodeD} {x : NodeD} {k : Nat} {vk vr : Value} (hKS : KS.length = T.length) (hRS : RS.length = T.length) (hxs : xs.take (k * 64) = nodesL KS RS T) (hlen : xs.length = n * 64) (hlt : k < n)
    (hF : Fam wr base (⟨79, 64, .slice (some ⟨g, 0, none⟩) n c, n, xs⟩ :: nodeRows KS RS T)) (hb : Bel wr w2) (hF2 : Fam w2 wr.heap.size [kidsRow vk x.kids, rulesRow vr x.rules]) (hs : base ≤ wr.heap.size) :
    ∃ xs', xs'.take ((k + 1) * 64) = nodesL (KS ++ [vk]) (RS ++ [vr]) (T ++ [x]) ∧ Fam (w2.setCells g (k * 64) (nodeL x vk vr)) base (⟨79, 64, .slice (some ⟨g, 0, none⟩) n c, n, xs'⟩ :: nodeRows (KS ++ [vk]) (RS ++ [vr]) (T ++ [x])) ∧ w2.grownBy (w2.setCells g (k * 64) (nodeL x vk vr)) (some g) := by
  have h64 := nodeL_length x vk vr
  rw [nodesL_snoc _ _ _ hKS hRS, nodeRows_snoc _ _ _ hKS hRS]
  obtain ⟨vs, hvs⟩ : ∃ vs, nodeL x vk vr = vs := ⟨_, rfl⟩
  rw [hvs] at h64 ⊢
  clear hvs
  obtain ⟨p, hp⟩ : ∃ p, k * 64 = p := ⟨_, rfl⟩
  have hp2 : (k + 1) * 64 = p + 64 := by omega
  have hpl : p + 64 ≤ n * 64 := by omega
  rw [hp] at hxs ⊢
  rw [hp2]
  clear hp hp2
  have ho : wr.ownsRow base 79 64 (.slice (some ⟨g, 0, none⟩) n c) n xs := hF.1 ⟨79, 64, .slice (some ⟨g, 0, none⟩) n c, n, xs⟩ List.mem_cons_self
  have ho3 := own_run vs p xs w2 (own_keep ho hb)
  have hg2 := setCells_gb g vs p w2
  have h1 := hF.add hb hF2 hs
  have h2 := Fam.write (i := 0) (r := ⟨79, 64, .slice (some ⟨g, 0, none⟩) n c, n, xs⟩) h1 rfl hg2 ⟨79, 64, .slice (some ⟨g, 0, none⟩) n c, n, setRun xs p vs⟩ (.inl rfl) ho3
  have h3 := setRun_take vs xs p (by omega)
  rw [h64, hxs] at h3
  exact ⟨setRun xs p vs, h3, h2, hg2⟩
theorem storeNode {w : World} {ops : Array Oper} {rest : List Oper} {op : Oper} {a : Act} {Q : Exit → Act → World → Prop} (hgd : op.guard = none) (x y : Operand) (ho : op.op = .store 79 x y) (b o : Nat) (hx : a.eval x = .pointer (some ⟨b, o, none⟩)) (z : NodeD) (K R : Value)
    (hy : a.eval y = .agg (nodeL z K R).toArray) (hK : K.oneCell' = true) (hR : R.oneCell' = true) (ht : Hid (w.there b o 64)) (h : wpList Tryz.prog ops Q rest (a.put op.dst undef) (w.setCells b o (nodeL z K R))) : wpList Tryz.prog ops Q (op :: rest) a w :=
  wpList_store_any hgd 79 x y ho b o (.agg (nodeL z K R).toArray) hx hy (by simpa [Value.cells, nodeL_length] using ht.out) (by simp only [Value.cells, List.size_toArray, nodeL_length]; kernel_rfl) (by simpa [Value.cells] using nodeL_one z hK hR) (by simpa [Value.cells] using h)
theorem own_there {w : World} {base size b n c o m : Nat} {e : TypeId} {xs : List Value} (h : w.ownsRow base e size (.slice (some ⟨b, 0, none⟩) n c) n xs) (hl : o + m ≤ n * size) : w.there b o m := fun j hj =>
  ⟨by rw [h.cellAt _ (by omega), List.getElem?_eq_getElem (by have := h.1; omega)]; rfl, h.frozenAt _⟩
set_option maxRecDepth 100000 in
set_option maxHeartbeats 4000000 in
theorem toNodeS_c (A : Option Addr) (c : Nat) (T : List NodeD) (w : World) (h : Nodes w A T) (hn : treeSz T ≤ 1048576) :
    Calls Tryz.prog 17 #[.slice A T.length c] w fun e w' => e = .returned (.slice (some ⟨w.heap.size, 0, none⟩) T.length T.length) ∧ TreeAt w' w.heap.size (.slice (some ⟨w.heap.size, 0, none⟩) T.length T.length) T ∧ Bel w w' := by
  obtain ⟨i0, hi, hz0, hz1, hz2⟩ := info_parts Tryz.info_node
  have hT : T.length ≤ 1048576 := by unfold treeSz at hn; omega
  have HN := Lib.hid hn
  clear hn
  go_enter Tryz.func17, Tryz.ntmps17
  go_wp2_with (at_make; refine wpList_make_full w rfl (.tmp 6) (.tmp 6) 30 rfl w.heap.size 79 i0 (.agg znode.toArray) 64 Tryz.underlying30 hi hz0 hz1 .i64 .i64 T.length T.length T.length rfl rfl rfl rfl (by rw [hz2]; omega) (by unfold maxLen; omega) (Nat.le_refl _) ?_; intro w1 hown hg)
  have hb1 : Bel w w1 := (Bel.refl w).grown hg (by simp)
  obtain ⟨xs0, hx0⟩ : ∃ xs0, w1.ownsRow w.heap.size 79 64 (.slice (some ⟨w.heap.size, 0, none⟩) T.length T.length) T.length xs0 := ⟨_, hown⟩
  clear hown
  go_loopw [4] (fun i wr => ∃ (k : Nat) (xs KS RS : List Value), k ≤ T.length ∧ i = .int .i64 k ∧ KS.length = k ∧ RS.length = k ∧ xs.take (k * 64) = nodesL KS RS (T.take k) ∧
    Fam wr w.heap.size (⟨79, 64, .slice (some ⟨w.heap.size, 0, none⟩) T.length T.length, T.length, xs⟩ :: nodeRows KS RS (T.take k)) ∧ Bel w wr) (fun i _ => T.length - (intOf i).toNat)
  case atStart => exact ⟨0, xs0, [], [], Nat.zero_le _, rfl, rfl, rfl, by simp [nodesL], Fam.one (r := ⟨79, 64, .slice (some ⟨w.heap.size, 0, none⟩) T.length T.length, T.length, xs0⟩) hx0, hb1⟩
  case round =>
    obtain ⟨k, xs, KS, RS, hk, rfl, hKS, hRS, hxs, hF, hb⟩ := hrel
    have ho : wr.ownsRow w.heap.size 79 64 (.slice (some ⟨w.heap.size, 0, none⟩) T.length T.length) T.length xs := hF.1 ⟨79, 64, .slice (some ⟨w.heap.size, 0, none⟩) T.length T.length, T.length, xs⟩ (by simp)
    have hxl : xs.length = T.length * 64 := ho.1
    have HX := Lib.hid hxl
    have HF := Lib.hid hF
    have HXS := Lib.hid hxs
    have HO := Lib.hid ho
    have HKS := Lib.hid hKS
    have HRS := Lib.hid hRS
    clear hF hxl hxs ho hKS hRS
    by_cases hlt : k < T.length
    · obtain ⟨b, o, rfl, hbl, hR⟩ := h k hlt
      obtain ⟨L, hL, hrg⟩ := hR k hlt
      have hsz := nodeSz_le hlt
      have hln : nodeSz (node_ T k) ≤ 1048576 := Nat.le_trans hsz HN.out
      have hk1 : (node_ T k).kids.length ≤ 1048576 := by unfold nodeSz at hln; omega
      have hk2 : (node_ T k).rules.length ≤ 1048576 := by unfold nodeSz at hln; omega
      have HL := hid' (hL.keep hb)
      have HG := hid' (range_bel hrg hb hbl)
      have hL64 : L.length = 64 := by obtain ⟨_, _, _, _, rfl, _⟩ := hL; exact nodeL_length _ _ _
      have H64 := Lib.hid hL64
      clear hR hL hrg hsz hln hL64
      go_wp2_with (first
        | ((with_reducible show wpList _ _ _ (Oper.mk _ (Op.load _ _) _ _ _ _ :: _) _ _); refine wpList_load_mid rfl 71 _ rfl b (o + k * 64) rfl L _ HG.out Tryz.underlying71 rfl (by rw [H64.out]; kernel_rfl) ?_)
        | (go_at_call 31; refine (toNode_c _ _ _ HL.out hk1 hk2).mono ?_; rintro e w2 ⟨gk, gr, rfl, hF2, hb2⟩; have HF2 := Lib.hid hF2; clear hF2; have ho2 := own_keep HO.out hb2; have HO2 := Lib.hid ho2; have HT := hid' (hid' (own_there (o := k * 64) (m := 64) ho2 (by omega))); clear ho2)
        | ((with_reducible show wpList _ _ _ (Oper.mk _ (Op.store _ _ _) _ _ _ _ :: _) _ _); refine storeNode rfl _ _ rfl w.heap.size (k * 64) rfl (node_ T k) _ _ rfl rfl rfl HT.out ?_))
      go_roundw
      case rel =>
        have hkT : (T.take k).length = k := by rw [List.length_take]; omega
        have hTk : T.take (k + 1) = T.take k ++ [node_ T k] := by rw [List.take_add_one, node_eq hlt]; rfl
        obtain ⟨xs', q1, q2, q3⟩ := nodes_push (x := node_ T k) (by rw [HKS.out, hkT]) (by rw [HRS.out, hkT]) HXS.out HX.out hlt HF.out hb2 HF2.out hb.sz
        exact ⟨k + 1, xs', KS ++ [.slice (some ⟨gk, 0, none⟩) (node_ T k).kids.length (node_ T k).kids.length], RS ++ [.slice (some ⟨gr, 0, none⟩) (node_ T k).rules.length (node_ T k).rules.length], by omega, by go_num, by simp [HKS.out], by simp [HRS.out], by rw [hTk]; exact q1, by rw [hTk]; exact q2, (hb.trans hb2).grown q3 (fun q e => by injection e with e; omega)⟩
      case measure => simp [intOf]; omega
    · obtain rfl : k = T.length := by omega
      go_wp2_with fail
      go_ret
      refine ⟨rfl, ⟨KS, RS, HKS.out, HRS.out, ?_⟩, hb⟩
      have e1 := HXS.out
      rw [List.take_of_length_le (by rw [HX.out]; exact Nat.le_refl _), List.take_length] at e1
      have := HF.out
      rw [List.take_length, e1] at this
      exact this
/-- a wide load where the order is open -/
theorem still_load {ops : Array Oper} {w : World} {Q : Act → Prop} {a : Act} {o : Oper} {rest : List Oper} (hgd : o.guard = none) (ty : TypeId) (x : Operand) (ho : o.op = .load ty x) (b off : Nat) (hx : a.eval x = .pointer (some ⟨b, off, none⟩)) (cs : List Value) (d : TypeDesc) (hc : w.rangeAt b off cs)
    (hu : Tryz.prog.underlying ty = some d) (hd : d.isRow = true) (hi : (Tryz.prog.info? ty).map (·.size) = some cs.length) (h : wpStill Tryz.prog ops w Q rest (a.put o.dst (.agg cs.toArray))) : wpStill Tryz.prog ops w Q (o :: rest) a := by
  refine wpStill_step (fun K hK => ?_)
  have hw : Region.wanted o (yielded ops a.tmps) = true := by simp [Region.wanted, hgd]
  rw [if_pos hw]
  unfold Oper.still execOp
  simp only [ho, hx, Instr.loadAt, Instr.sureAddr, Sem.run_bind, Sem.run_pure, Result.andThen_ok, run_loadVar_mid w b off ty cs d hc hu hd hi, Oper.stillUpon_value]
  exact hK _ h
set_option maxRecDepth 100000 in
set_option maxHeartbeats 1000000 in
theorem toTree_c (A : Option Addr) (c : Nat) (T : List NodeD) (w : World) (h : Nodes w A T) (hn : treeSz T ≤ 1048576) :
    Calls Tryz.prog 7 #[.agg #[.slice A T.length c]] w fun e w' => ∃ g, e = .returned (.agg #[.slice (some ⟨g, 0, none⟩) T.length T.length]) ∧ TreeAt w' w.heap.size (.slice (some ⟨g, 0, none⟩) T.length T.length) T ∧ Bel w w' := by
  go_enter Tryz.func7, Tryz.ntmps7
  go_wp2_with fail
  refine (toNodeS_c _ _ _ _ (h.keep ?_) hn).mono ?_
  · repeat (first | exact Bel.refl _ | assumption | refine Bel.alloc ?_ _ | refine Bel.drew ?_ | refine Bel.drewN ?_ _ | refine Bel.trans ?_ (by assumption) | refine Bel.setCell ?_ (by first | (simp; done) | (simp; omega) | (simp at *; omega)) _)
  rintro e w1 ⟨rfl, ho, hb1⟩
  obtain ⟨hc1, hf1, hz1⟩ := hb1.open_
  have hl1 : w.heap.size < w1.heap.size := by (try simp at hz1); omega
  have hl2 : w.heap.size + 1 < w1.heap.size := by (try simp at hz1); omega
  have hl3 : w.heap.size + 1 + 1 < w1.heap.size := by (try simp at hz1); omega
  have HO := Lib.hid ho
  clear ho
  go_wp2
  refine bodyPost_ret (v := .agg #[.slice (some ⟨w.heap.size + 1 + 1 + 1, 0, none⟩) T.length T.length]) (by simp [results, Tryz.results7, go_sem, hc1]) rfl ⟨_, rfl, ?_, ?_⟩
  · have h1 := HO.out
    simp at h1
    have g1 : ∀ (u : World) (b : Nat) (v : Value), u.grownBy (u.setCell ⟨b, 0, none⟩ v) (some b) := fun u b v => ⟨rfl, rfl, rfl, by simp [World.setCell], fun k hk hne => Below.heap_setCell _ _ _ _ (fun e => hne (by rw [e]))⟩
    exact ((h1.far (g1 _ _ _) (by omega)).far (g1 _ _ _) (by omega)).base (by omega)
  · repeat (first | exact Bel.refl _ | assumption | refine Bel.alloc ?_ _ | refine Bel.drew ?_ | refine Bel.drewN ?_ _ | refine Bel.trans ?_ (by assumption) | refine Bel.setCell ?_ (by first | (simp; done) | (simp; omega) | (simp at *; omega)) _)
set_option maxRecDepth 100000 in
set_option maxHeartbeats 4000000 in
theorem eqNodeS_c (A B : Option Addr) (c d : Nat) (T : List NodeD) (w : World) (ha : Nodes w A T) (hb : Nodes w B T) (hn : treeSz T ≤ 1048576) :
    Calls Tryz.prog 20 #[.slice A T.length c, .slice B T.length d] w fun e w' => e = .returned (.bool true) ∧ Bel w w' := by
  have hT : T.length ≤ 1048576 := by unfold treeSz at hn; omega
  have HN := Lib.hid hn
  clear hn
  go_enter Tryz.func20, Tryz.ntmps20
  go_wp2_with fail
  go_loopw [5] (fun i wr => ∃ (k : Nat), k ≤ T.length ∧ i = .int .i64 k ∧ Bel w wr) (fun i _ => T.length - (intOf i).toNat)
  case atStart => exact ⟨0, Nat.zero_le _, rfl, Bel.refl w⟩
  case round =>
    obtain ⟨k, hk, rfl, hbw⟩ := hrel
    by_cases hlt : k < T.length
    · obtain ⟨b, o, rfl, hbl, hR⟩ := ha k hlt
      obtain ⟨b2, o2, rfl, hbl2, hR2⟩ := hb k hlt
      obtain ⟨L, hL, hrg⟩ := hR k hlt
      obtain ⟨M, hM, hrg2⟩ := hR2 k hlt
      have hln : nodeSz (node_ T k) ≤ 1048576 := Nat.le_trans (nodeSz_le hlt) HN.out
      have hk1 : (node_ T k).kids.length ≤ 1048576 := by unfold nodeSz at hln; omega
      have hk2 : (node_ T k).rules.length ≤ 1048576 := by unfold nodeSz at hln; omega
      have hL64 : L.length = 64 := by obtain ⟨_, _, _, _, rfl, _⟩ := hL; exact nodeL_length _ _ _
      have hM64 : M.length = 64 := by obtain ⟨_, _, _, _, rfl, _⟩ := hM; exact nodeL_length _ _ _
      have R1 := hid' (range_bel hrg hbw hbl)
      have R2 := hid' (range_bel hrg2 hbw hbl2)
      have HL6 := Lib.hid hL64
      have HM6 := Lib.hid hM64
      have HL := hid' (hL.keep hbw)
      have HM := hid' (hM.keep hbw)
      have hlti : (k : Int) < (T.length : Int) := by omega
      clear hR hR2 hL hM hrg hrg2 hln hL64 hM64
      go_wp2_with fail
      refine wp_region_still_tail 8 (by kernel_rfl) (by kernel_rfl) ?_
      simp only [List.take_succ_cons, List.take_zero, List.drop_succ_cons, List.drop_zero]
      still_step
      still_step
      still_step
      refine still_load rfl 79 _ rfl b (o + k * 64) rfl L _ R1.out Tryz.underlying79 rfl (by rw [HL6.out]; kernel_rfl) ?_
      still_step
      still_step
      still_step
      refine still_load rfl 79 _ rfl b2 (o2 + k * 64) rfl M _ R2.out Tryz.underlying79 rfl (by rw [HM6.out]; kernel_rfl) ?_
      refine wpStill_nil ?_
      change wpList _ _ _ _ _ wr.drew
      have hbw2 := hbw.drew
      have HL2 := hid' (HL.out.keep ((Bel.refl wr).drew))
      have HM2 := hid' (HM.out.keep ((Bel.refl wr).drew))
      generalize wr.drew = w2 at hbw2 HL2 HM2
      go_wp2_with fail
      refine (eqNode_c _ _ _ _ HL2.out HM2.out hk1 hk2).mono ?_; rintro e w3 ⟨rfl, hb3⟩
      go_wp2_with fail
      go_roundw
      case rel => exact ⟨k + 1, by omega, by go_num, hbw2.trans hb3⟩
      case measure => simp [intOf]; omega
    · go_wp2
      go_ret
      exact ⟨rfl, hbw⟩
set_option maxRecDepth 100000 in
set_option maxHeartbeats 1000000 in
theorem eqTree_c (A B : Option Addr) (c d : Nat) (T : List NodeD) (w : World) (ha : Nodes w A T) (hb : Nodes w B T) (hn : treeSz T ≤ 1048576) :
    Calls Tryz.prog 11 #[.agg #[.slice A T.length c], .agg #[.slice B T.length d]] w fun e w' => e = .returned (.bool true) ∧ Bel w w' := by
  go_enter Tryz.func11, Tryz.ntmps11
  go_wp2_with fail
  refine (eqNodeS_c _ _ _ _ _ _ (ha.keep ?_) (hb.keep ?_) hn).mono ?_
  · repeat (first | exact Bel.refl _ | assumption | refine Bel.alloc ?_ _ | refine Bel.drew ?_ | refine Bel.drewN ?_ _ | refine Bel.trans ?_ (by assumption) | refine Bel.setCell ?_ (by first | (simp; done) | (simp; omega) | (simp at *; omega)) _)
  · repeat (first | exact Bel.refl _ | assumption | refine Bel.alloc ?_ _ | refine Bel.drew ?_ | refine Bel.drewN ?_ _ | refine Bel.trans ?_ (by assumption) | refine Bel.setCell ?_ (by first | (simp; done) | (simp; omega) | (simp at *; omega)) _)
  rintro e w1 ⟨rfl, hb1⟩
  go_wp2
  go_ret
  refine ⟨rfl, ?_⟩
  repeat (first | exact Bel.refl _ | assumption | refine Bel.alloc ?_ _ | refine Bel.drew ?_ | refine Bel.drewN ?_ _ | refine Bel.trans ?_ (by assumption) | refine Bel.setCell ?_ (by first | (simp; done) | (simp; omega) | (simp at *; omega)) _)
set_option maxRecDepth 100000 in
set_option maxHeartbeats 2000000 in
theorem szNodeS_c (A : Option Addr) (c : Nat) (T : List NodeD) (m : Int) (w : World) (h : Nodes w A T) (hm : 0 ≤ m ∧ m ≤ 1048576) (hn : T.length ≤ 9223372036854775807) :
    Calls Tryz.prog 14 #[.slice A T.length c, .int .i64 m] w fun e w' => e = .returned (.int .i64 (if (treeSz T : Int) ≤ m then m - (treeSz T : Int) else -1)) ∧ Bel w w' := by
  have hno : ¬ (treeSz T : Int) ≤ m → (if (treeSz T : Int) ≤ m then m - (treeSz T : Int) else -1) = -1 := fun h => if_neg h
  have hyes : (treeSz T : Int) ≤ m → (if (treeSz T : Int) ≤ m then m - (treeSz T : Int) else -1) = m - (treeSz T : Int) := fun h => if_pos h
  generalize (if (treeSz T : Int) ≤ m then m - (treeSz T : Int) else -1) = res at hno hyes ⊢
  have htz : (treeSz T : Int) = (T.length : Int) + (szTo T T.length : Int) := by rw [szTo_all]; unfold treeSz; omega
  rw [htz] at hno hyes
  have HNO := Lib.hid hno
  have HY := Lib.hid hyes
  clear hno hyes htz
  by_cases h0 : (T.length : Int) ≤ m
  · go_enter Tryz.func14, Tryz.ntmps14
    go_wp2
    go_loopw [1, 5] (fun s i wr => ∃ (k : Nat), k ≤ T.length ∧ i = .int .i64 k ∧ s = .int .i64 (m - (T.length : Int) - (szTo T k : Int)) ∧ (szTo T k : Int) ≤ m - (T.length : Int) ∧ Bel w wr) (fun _ i _ => T.length - (intOf i).toNat)
    case atStart => exact ⟨0, Nat.zero_le _, by go_num, by simp [szTo], by simp [szTo]; omega, Bel.refl w⟩
    case round =>
      obtain ⟨k, hk, rfl, rfl, hle, hb⟩ := hrel
      by_cases hlt : k < T.length
      · obtain ⟨b, o, rfl, hbl, hR⟩ := h k hlt
        obtain ⟨L, hL, hrg⟩ := hR k hlt
        have hts := szTo_succ hlt
        have hle2 : szTo T (k + 1) ≤ szTo T T.length := by rw [szTo_all]; exact szTo_le _ _
        have hL64 : L.length = 64 := by obtain ⟨_, _, _, _, rfl, _⟩ := hL; exact nodeL_length _ _ _
        have H64 := Lib.hid hL64
        have HL := hid' (hL.keep hb)
        have HG := hid' (range_bel hrg hb hbl)
        have HT := Lib.hid hts
        have HLE := Lib.hid hle2
        clear hts hR hL hrg hL64 hle2
        go_wp2_with ((with_reducible show wpList _ _ _ (Oper.mk _ (Op.load _ _) _ _ _ _ :: _) _ _); refine wpList_load_mid rfl 71 _ rfl b (o + k * 64) rfl L _ HG.out Tryz.underlying71 rfl (by rw [H64.out]; kernel_rfl) ?_)
        refine (szNode_c _ _ _ _ HL.out (by omega)).mono ?_; rintro e w1 ⟨rfl, hb1⟩
        by_cases hfit : (nodeSz (node_ T k) : Int) ≤ m - (T.length : Int) - (szTo T k : Int)
        · rw [if_pos hfit]
          go_wp2_with fail
          go_roundw
          case rel => exact ⟨k + 1, by omega, by go_num, by (rw [HT.out]; refine congrArg (Value.int .i64) ?_; omega), by rw [HT.out]; omega, hb.trans hb1⟩
          case measure => simp [intOf]; omega
        · rw [if_neg hfit]
          have HR : Hid (res = -1) := hid' (HNO.out (by have := HT.out; have := HLE.out; omega))
          go_wp2_with fail
          go_ret
          exact ⟨by (rw [HR.out]; try rfl), hb.trans hb1⟩
      · obtain rfl : k = T.length := by omega
        have HR : Hid (res = m - (T.length : Int) - (szTo T T.length : Int)) := hid' (by rw [HY.out (by omega)]; omega)
        go_wp2
        go_ret
        exact ⟨by (rw [HR.out]; try rfl), hb⟩
  · have HR : Hid (res = -1) := hid' (HNO.out (by omega))
    go_enter Tryz.func14, Tryz.ntmps14
    go_wp2
    go_ret
    exact ⟨by (rw [HR.out]; try rfl), Bel.refl w⟩
set_option maxRecDepth 100000 in
set_option maxHeartbeats 1000000 in
theorem szTree_c (A : Option Addr) (c : Nat) (T : List NodeD) (m : Int) (w : World) (h : Nodes w A T) (hm : 0 ≤ m ∧ m ≤ 1048576) (hn : T.length ≤ 9223372036854775807) :
    Calls Tryz.prog 5 #[.agg #[.slice A T.length c], .int .i64 m] w fun e w' => e = .returned (.int .i64 (if (treeSz T : Int) ≤ m then m - (treeSz T : Int) else -1)) ∧ Bel w w' := by
  by_cases h0 : (treeSz T : Int) ≤ m
  · rw [if_pos h0]
    go_enter Tryz.func5, Tryz.ntmps5
    go_wp2_with fail
    refine (szNodeS_c _ _ _ _ _ (h.keep ?_) hm hn).mono ?_
    · repeat (first | exact Bel.refl _ | assumption | refine Bel.alloc ?_ _ | refine Bel.drew ?_ | refine Bel.drewN ?_ _ | refine Bel.trans ?_ (by assumption) | refine Bel.setCell ?_ (by first | (simp; done) | (simp; omega) | (simp at *; omega)) _)
    rintro e w1 ⟨rfl, hb1⟩
    rw [if_pos h0]
    go_wp2
    go_ret
    refine ⟨rfl, ?_⟩
    repeat (first | exact Bel.refl _ | assumption | refine Bel.alloc ?_ _ | refine Bel.drew ?_ | refine Bel.drewN ?_ _ | refine Bel.trans ?_ (by assumption) | refine Bel.setCell ?_ (by first | (simp; done) | (simp; omega) | (simp at *; omega)) _)
  · rw [if_neg h0]
    go_enter Tryz.func5, Tryz.ntmps5
    go_wp2_with fail
    refine (szNodeS_c _ _ _ _ _ (h.keep ?_) hm hn).mono ?_
    · repeat (first | exact Bel.refl _ | assumption | refine Bel.alloc ?_ _ | refine Bel.drew ?_ | refine Bel.drewN ?_ _ | refine Bel.trans ?_ (by assumption) | refine Bel.setCell ?_ (by first | (simp; done) | (simp; omega) | (simp at *; omega)) _)
    rintro e w1 ⟨rfl, hb1⟩
    rw [if_neg (by omega)]
    go_wp2
    go_ret
    refine ⟨rfl, ?_⟩
    repeat (first | exact Bel.refl _ | assumption | refine Bel.alloc ?_ _ | refine Bel.drew ?_ | refine Bel.drewN ?_ _ | refine Bel.trans ?_ (by assumption) | refine Bel.setCell ?_ (by first | (simp; done) | (simp; omega) | (simp at *; omega)) _)
end Go.Proofs.YtkoljbndbomhdaaGreat
