/- InsertKid, the program's text. -/
import Derived.Test.YtcdneamoemmohaaJoin
import Derived.Test.YtcdneamoemmohaaInsT
namespace Go.Proofs.Ytcdneamoemmohaa
open Go.RowKit Go.ChangeShapes Go.WideShapes
set_option linter.unusedVariables false
set_option linter.unusedSimpArgs false

/-- the nodes at A read as T; a slice of children has room for its children -/
def NodesK (w : World) (A : Option Addr) (T : List NodeD) : Prop :=
  NodesC w A T ∧ ∀ j, j < T.length → ∃ b o K ck R cr, A = some ⟨b, o, none⟩ ∧ b < w.heap.size ∧ w.rangeAt b (o + j * 64) (nodeL (node_ T j) (.slice K (node_ T j).kids.length ck) (.slice R (node_ T j).rules.length cr)) ∧
    Ints w K (node_ T j).kids ∧ (K = none → ck = 0) ∧ (node_ T j).kids.length ≤ ck ∧ ck ≤ maxLen
theorem NodesK.keep {w w' : World} {A : Option Addr} {T : List NodeD} (h : NodesK w A T) (hb : Bel w w') : NodesK w' A T := ⟨h.1.keep hb, fun j hj => by
  obtain ⟨b, o, K, ck, R, cr, h1, h2, h3, h4, h5⟩ := h.2 j hj
  exact ⟨b, o, K, ck, R, cr, h1, Nat.lt_of_lt_of_le h2 hb.sz, range_bel h3 hb h2, h4.keep hb, h5⟩⟩
theorem NodesK.nodes {w : World} {A : Option Addr} {T : List NodeD} (h : NodesK w A T) : Nodes w A T := h.1.nodes
theorem TreeAt.nodesK {w : World} {base g n c : Nat} {T : List NodeD} (h : TreeAt w base (.slice (some ⟨g, 0, none⟩) n c) T) : NodesK w (some ⟨g, 0, none⟩) T := ⟨h.nodesC, fun j hj => by
  obtain ⟨KS, RS, h1, h2, hF⟩ := h
  have h0 : w.ownsRow base 77 64 (.slice (some ⟨g, 0, none⟩) n c) T.length (nodesL KS RS T) := hF.1 ⟨77, 64, .slice (some ⟨g, 0, none⟩) n c, T.length, nodesL KS RS T⟩ (by simp [treeF])
  have hn : n = T.length := by
    rcases h0.2 with ⟨e, _⟩ | ⟨_, _, _, e, _⟩
    · cases e
    · cases e; rfl
  subst hn
  obtain ⟨K, ck, R, cr, e1, e2, c1, c2, d1, d2, d3, d4, d5, d6, e3⟩ := TreeAt.node h1 h2 hF hj
  refine ⟨g, 0, K, ck, R, cr, rfl, (h0.lt g rfl).2, fun q v hq => ?_, c1, d3, d1, d2⟩
  have hq' := lt_of_get hq
  rw [nodeL_length] at hq'
  rw [Nat.zero_add, h0.cellAt _ (by have := Nat.mul_le_mul_right 64 hj; omega), e3 q hq']
  exact hq⟩
theorem treeF_nodesK {w : World} {base g n c : Nat} {T : List NodeD} {KS RS : List Value} {R : List Row} (h1 : KS.length = T.length) (h2 : RS.length = T.length) (h : Fam w base (treeF (.slice (some ⟨g, 0, none⟩) n c) T KS RS ++ R)) : NodesK w (some ⟨g, 0, none⟩) T :=
  (show TreeAt w base (.slice (some ⟨g, 0, none⟩) n c) T from ⟨KS, RS, h1, h2, h.left⟩).nodesK
theorem field_meas (x : NodeD) (K R : Value) (w : World) : (Instr.field 77 (.agg (nodeL x K R).toArray) 3).run Try.prog w = .ok (.bool x.meas) w := by
  have hagg : (isAgg 4).run Try.prog w = .ok false w := by
    unfold isAgg
    rw [Sem.run_bind, run_underlying Try.underlying4 w]
    rfl
  have h0 : (nodeL x K R).toArray[62]? = some (.bool x.meas) := rfl
  obtain ⟨cs, hcs⟩ : ∃ cs, (nodeL x K R).toArray = cs := ⟨_, rfl⟩
  rw [hcs] at h0 ⊢
  unfold Instr.field
  rw [Sem.run_bind, run_underlying Try.underlying77 w]
  simp only [Result.andThen_ok]
  show (asAgg (.agg cs) >>= fun z => part 4 z 62).run Try.prog w = _
  simp [asAgg, part, Sem.run_bind, hagg, h0]
theorem Ed.kcell {w : World} {base g n c j : Nat} {T : List NodeD} {KS RS : List Value} (h : Ed w base g n c T KS RS) (hj : j < T.length) : ∃ x, w.cell? ⟨g, j * 64 + 1, none⟩ = some x ∧ w.frozen? ⟨g, j * 64 + 1, none⟩ = false := by
  obtain ⟨h1, h2⟩ := h.there (o := j * 64 + 1) (m := 1) (by omega) 0 (by omega)
  simp only [Nat.add_zero] at h1 h2
  obtain ⟨x, hx⟩ := Option.isSome_iff_exists.1 h1
  exact ⟨x, hx, h2⟩
/-- the first at of them -/
theorem cut_take {w : World} {K : Option Addr} {l : List Int} (h : Ints w K l) (a : Nat) : Ints w K (l.take a) := fun i hi => by
  rw [List.length_take] at hi
  obtain ⟨b, o, e, hb, hc⟩ := h i (by omega)
  refine ⟨b, o, e, hb, fun j hj => ?_⟩
  rw [List.length_take] at hj
  rw [hc j (by omega)]
  congr 2
  unfold at_ List.getD
  rw [List.getElem?_take_of_lt (by omega)]
def addO (K : Option Addr) (a : Nat) : Option Addr := K.map (·.add a)
theorem cut_drop {w : World} {K : Option Addr} {l : List Int} (h : Ints w K l) (a : Nat) : Ints w (addO K a) (l.drop a) := fun i hi => by
  rw [List.length_drop] at hi
  obtain ⟨b, o, e, hb, hc⟩ := h i (by omega)
  have ea : addO K a = some ⟨b, o + a, none⟩ := by
    rw [e]
    unfold addO Addr.add
    simp only [Option.map_some]
    split
    · rename_i h0; subst h0; rfl
    · rfl
  refine ⟨b, o + a, ea, hb, fun j hj => ?_⟩
  rw [List.length_drop] at hj
  rw [Nat.add_assoc, hc (a + j) (by omega)]
  congr 2
  unfold at_ List.getD
  rw [List.getElem?_drop]
theorem run_cutH (t : TypeId) (ht : Try.prog.underlying t = some (.slice (Try.prog.elem t))) (hs : ∀ w, (sizeOf (Try.prog.elem t)).run Try.prog w = .ok 1 w) (K : Option Addr) (n ck a : Nat) (ha : a ≤ n) (hn : n ≤ ck) (w : World) :
    (Instr.slice t (.slice K n ck) none (some (.int .i64 (a : Int))) none).run Try.prog w = .ok (.slice K a ck) w := by
  rw [run_slice_h w t K n ck ht .i64 (a : Int) (by omega) (by omega), hs, Result.andThen_ok]
  have e : (if ck = 0 then K else K.map (·.add (0 * 1))) = K := by
    split
    · rfl
    · rcases K with _ | ad
      · rfl
      · simp [Addr.add]
  unfold sliced
  rw [e, Int.toNat_natCast, Nat.sub_zero, Nat.sub_zero]
def cutO (K : Option Addr) (a ck : Nat) : Option Addr := if ck = a then K else addO K a
theorem run_cutL (t : TypeId) (ht : Try.prog.underlying t = some (.slice (Try.prog.elem t))) (hs : ∀ w, (sizeOf (Try.prog.elem t)).run Try.prog w = .ok 1 w) (K : Option Addr) (n ck a : Nat) (ha : a ≤ n) (w : World) :
    (Instr.slice t (.slice K n ck) (some (.int .i64 (a : Int))) none none).run Try.prog w = .ok (.slice (cutO K a ck) (n - a) (ck - a)) w := by
  rw [run_slice_l w t K n ck ht .i64 (a : Int) (by omega) (by omega), hs, Result.andThen_ok]
  unfold sliced cutO addO
  rw [Int.toNat_natCast, Nat.mul_one]
theorem cut_dropO {w : World} {K : Option Addr} {l : List Int} {ck a : Nat} (h : Ints w K l) (hn : l.length ≤ ck) : Ints w (cutO K a ck) (l.drop a) := by
  unfold cutO
  split
  · rename_i e
    have : l.drop a = [] := List.drop_of_length_le (by omega)
    rw [this]
    exact Ints.nil _ _
  · exact cut_drop h a
theorem cut_none {K : Option Addr} {ck a : Nat} (h : K = none → ck = 0) : cutO K a ck = none → ck - a = 0 := by
  unfold cutO addO
  split
  · intro; omega
  · rcases K with _ | ad
    · intro; have := h rfl; omega
    · intro e; cases e
theorem size_int (w : World) : (sizeOf (Try.prog.elem 26)).run Try.prog w = .ok 1 w := by
  have he : Try.prog.elem 26 = 3 := by kernel_rfl
  rw [he]
  obtain ⟨i0, hi, hz0, hz1, hz2⟩ := info_parts Try.info_int
  simp [sizeOf, typeInfo, hi, hz1]
theorem elem_ints : Try.prog.underlying 26 = some (.slice (Try.prog.elem 26)) := by kernel_rfl
theorem insL_parts (l : List Int) (a : Nat) (x : Int) : insL l a x = l.take a ++ [x] ++ l.drop a := rfl
theorem set_up (T1 : List NodeD) (k : Nat) (u : Int) : T1.set k { node_ T1 k with up := u } = T1.set k { node_ T1 k with up := u } := rfl
theorem ins_join {w u : World} {base g n c j : Nat} {T : List NodeD} {KS RS : List Value} {v : Value} {l : List Int} (E : Ed w base g n c T KS RS) (hb : Bel w u) (ho : u.ownsRow w.heap.size 3 1 v l.length (VI l)) (hs : base ≤ w.heap.size) (hj : j < T.length) :
    ∃ KS', Ed (u.setCell ⟨g, j * 64 + 1, none⟩ v) base g n c (T.set j { node_ T j with kids := l }) KS' RS :=
  ⟨KS.set j v, ((E.keep hb).kids hj (copy_row E.fam hb (r := kidsRow v l) ho hs)).1⟩
theorem ins_row {w : World} {b : Nat} {v : Value} {L la lb : List Int} {z : Int} (e : L = la ++ [z] ++ lb) (h : w.ownsRow b 3 1 v (la.length + [z].length + lb.length) (VI L)) : w.ownsRow b 3 1 v L.length (VI L) := by
  have e2 : la.length + [z].length + lb.length = L.length := by rw [e, List.length_append, List.length_append]
  rw [← e2]
  exact h
theorem ints_one {w : World} {b : Nat} {z : Int} (h : w.cell? ⟨b, 0, none⟩ = some (.int .i64 z)) (hb : b < w.heap.size) : Ints w (some ⟨b, 0, none⟩) [z] := fun i hi => ⟨b, 0, rfl, hb, fun q hq => by
  obtain rfl : q = 0 := by simpa using hq
  exact h⟩
set_option maxRecDepth 100000 in
set_option maxHeartbeats 8000000 in
theorem iInsertKid_c (A : Option Addr) (c : Nat) (T : List NodeD) (n kid p : Int) (w : World) (h : NodesK w A T) (hn : treeSz T ≤ 1048576) :
    Calls Try.prog 34 #[treeV A T.length c, .int .i64 n, .int .i64 kid, .int .i64 p] w fun e w' => ∃ A' c', e = .returned (.tuple #[treeV A' (insertKidT T n kid p).1.length c', .int .i64 (insertKidT T n kid p).2]) ∧ TreeAt w' w.heap.size (.slice A' (insertKidT T n kid p).1.length c') (insertKidT T n kid p).1 ∧ Bel w w' := by
  have HKN := Lib.hid h
  have h := h.1
  have hT := len_of hn
  have HKR := hid' (kr_of hn)
  have HN := Lib.hid hn
  clear hn
  obtain ⟨W0, hW0⟩ : ∃ W0, W0 = (w.alloc (.cells #[.slice A T.length c] 30)).alloc (.cells #[.slice none 0 0] 30) := ⟨_, rfl⟩
  have HWB : Hid (Bel w W0) := hid' (by rw [hW0]; exact ((Bel.refl w).alloc _).alloc _)
  have HS : Hid (W0.heap.size = w.heap.size + 1 + 1) := hid' (by rw [hW0]; simp)
  have HK1 : Hid (∀ u, Bel W0 u → u.cell? ⟨w.heap.size, 0, none⟩ = some (.slice A T.length c)) := hid' (fun u hu => by
    have hb : Bel (w.alloc (.cells #[.slice A T.length c] 30)) W0 := by rw [hW0]; exact (Bel.refl _).alloc _
    exact ((hb.trans hu).cell _ _ (by simp)).trans (by simp))
  have HK3 : Hid (∀ u, Bel W0 u → u.cell? ⟨w.heap.size + 1, 0, none⟩ = some (.slice none 0 0) ∧ u.frozen? ⟨w.heap.size + 1, 0, none⟩ = false) := hid' (fun u hu => by
    have hz : (w.alloc (.cells #[.slice A T.length c] 30)).heap.size = w.heap.size + 1 := by simp
    rw [hW0] at hu
    rw [← hz]
    exact ⟨(hu.cell _ _ (by simp)).trans (new_cell1 _ _ _).1, (hu.frozen _ _ (by simp)).trans (new_cell1 _ _ _).2⟩)
  go_enter Try.func34, Try.ntmps34
  go_wp2_with fail
  rw [← hW0]
  clear hW0
  refine (iCopyTree_c _ _ _ _ (h.keep HWB.out) HN.out).mono ?_; rintro e w1 ⟨A1, c1, rfl, ht1, hb1⟩
  have HT1 := Lib.hid ht1
  clear ht1
  have hcA := HK1.out _ (hb1.alloc (.cells #[.slice A1 T.length c1] 30))
  have hlb1 : w.heap.size + 1 < w1.heap.size := by have := hb1.sz; rw [HS.out] at this; omega
  have HB1 := Lib.hid hb1
  go_wp2_with fail
  obtain ⟨w2, hw2⟩ : ∃ w2, w2 = w1.alloc (.cells #[.slice A1 T.length c1] 30) := ⟨_, rfl⟩
  rw [← hw2] at hcA ⊢
  have HOC : Hid (∀ u, Bel w2 u → u.cell? ⟨w1.heap.size, 0, none⟩ = some (.slice A1 T.length c1)) := hid' (fun u hu => by rw [hu.cell _ _ (by rw [hw2]; simp), hw2]; simp)
  have HB2 : Hid (Bel w1 w2) := hid' (by rw [hw2]; exact (Bel.refl w1).alloc _)
  have HL2 : Hid (w1.heap.size < w2.heap.size) := hid' (by rw [hw2]; simp)
  clear hw2 hcA hb1
  have HB02 := hid' (HB1.out.trans HB2.out)
  refine (iTreeOk_c _ _ _ _ (h.nodes.keep (HWB.out.trans HB02.out)) hT HKR.out).mono ?_; rintro e w3 ⟨rfl, hb3⟩
  have HB03 := hid' (HB02.out.trans hb3)
  have HB23 := Lib.hid hb3
  clear hb3
  have hc1 := HK1.out _ HB03.out
  have hc3 := (HK3.out _ HB03.out).1
  have hf3 := (HK3.out _ HB03.out).2
  have hco := HOC.out _ HB23.out
  have HT3 := hid' (HT1.out.keep (HB2.out.trans HB23.out))
  replace h := HKN.out
  clear HKN
  cases ht : treeOk T
  · have HR : Hid (insertKidT T n kid p = (T, 1)) := hid' (by simp [insertKidT, ht])
    go_wp2_with fail
    refine bodyPost_ret (v := .tuple #[.agg #[.slice A1 T.length c1], .int .i64 1]) (by simp [results, Try.results34, go_sem, *]) rfl ⟨_, _, by (rw [HR.out]; try (first | rfl | (rw [← HLS.out]))), ?_, ?_⟩
    · rw [HR.out]
      exact (TreeAt.far HT3.out (grown_set _ _ _) (by rw [HS.out]; omega)).base (by rw [HS.out]; omega)
    · exact (HWB.out.trans HB03.out).setCell (show w.heap.size ≤ w.heap.size + 1 by omega) _
  · have HTO := Lib.hid ht
    clear ht
    go_wp2_with fail
    refine (iIsNode_c _ _ _ _ _).mono ?_
    rintro e w4 ⟨rfl, hb4⟩
    have HB04 := hid' (HB03.out.trans hb4)
    have HB24 := hid' (HB23.out.trans hb4)
    clear hc1 hc3 hf3 hco hb4
    have hc1 := HK1.out _ HB04.out
    have hc3 := (HK3.out _ HB04.out).1
    have hf3 := (HK3.out _ HB04.out).2
    have hco := HOC.out _ HB24.out
    have HT4 := hid' (HT1.out.keep (HB2.out.trans HB24.out))
    cases hnn : isNodeB T n
    · have HR : Hid (insertKidT T n kid p = (T, 1)) := hid' (by simp [insertKidT, hnn])
      go_wp2_with fail
      refine bodyPost_ret (v := .tuple #[.agg #[.slice A1 T.length c1], .int .i64 1]) (by simp [results, Try.results34, go_sem, *]) rfl ⟨_, _, by (rw [HR.out]; try (first | rfl | (rw [← HLS.out]))), ?_, ?_⟩
      · rw [HR.out]
        exact (TreeAt.far HT4.out (grown_set _ _ _) (by rw [HS.out]; omega)).base (by rw [HS.out]; omega)
      · exact (HWB.out.trans HB04.out).setCell (show w.heap.size ≤ w.heap.size + 1 by omega) _
    · have HNN := Lib.hid hnn
      clear hnn
      go_wp2_with fail
      refine (iIsNode_c _ _ _ _ _).mono ?_
      rintro e w5 ⟨rfl, hb5⟩
      have HB05 := hid' (HB04.out.trans hb5)
      have HB25 := hid' (HB24.out.trans hb5)
      clear hc1 hc3 hf3 hco hb5
      have hc1 := HK1.out _ HB05.out
      have hc3 := (HK3.out _ HB05.out).1
      have hf3 := (HK3.out _ HB05.out).2
      have hco := HOC.out _ HB25.out
      have HT5 := hid' (HT1.out.keep (HB2.out.trans HB25.out))
      cases hkk : isNodeB T kid
      · have HR : Hid (insertKidT T n kid p = (T, 1)) := hid' (by simp [insertKidT, hkk])
        go_wp2_with fail
        refine bodyPost_ret (v := .tuple #[.agg #[.slice A1 T.length c1], .int .i64 1]) (by simp [results, Try.results34, go_sem, *]) rfl ⟨_, _, by (rw [HR.out]; try (first | rfl | (rw [← HLS.out]))), ?_, ?_⟩
        · rw [HR.out]
          exact (TreeAt.far HT5.out (grown_set _ _ _) (by rw [HS.out]; omega)).base (by rw [HS.out]; omega)
        · exact (HWB.out.trans HB05.out).setCell (show w.heap.size ≤ w.heap.size + 1 by omega) _
      · obtain ⟨j, rfl, hj⟩ := isNode_split HNN.out
        obtain ⟨k, rfl, hk⟩ := isNode_split hkk
        have HKK := Lib.hid hkk
        clear hkk
        have h12 := treeOk_len HTO.out
        have hk12 := kids_few HTO.out hj
        by_cases hjk : k = j
        · have hbe : ((k : Int) + 1 == (j : Int) + 1) = true := by simp [hjk]
          have HR : Hid (insertKidT T ((j : Int) + 1) ((k : Int) + 1) p = (T, 2)) := hid' (by simp [insertKidT, HTO.out, HNN.out, HKK.out, hjk])
          clear hjk
          go_wp2_with fail
          refine bodyPost_ret (v := .tuple #[.agg #[.slice A1 T.length c1], .int .i64 2]) (by simp [results, Try.results34, go_sem, *]) rfl ⟨_, _, by (rw [HR.out]; try (first | rfl | (rw [← HLS.out]))), ?_, ?_⟩
          · rw [HR.out]
            exact (TreeAt.far HT5.out (grown_set _ _ _) (by rw [HS.out]; omega)).base (by rw [HS.out]; omega)
          · exact (HWB.out.trans HB05.out).setCell (show w.heap.size ≤ w.heap.size + 1 by omega) _
        · have hbe : ((k : Int) + 1 == (j : Int) + 1) = false := by simp; omega
          have HJK := Lib.hid hjk
          clear hjk
          have hbi : Hid (¬ (k : Int) + 1 = (j : Int) + 1) := hid' (by have := HJK.out; omega)
          go_wp2_with fail
          refine (iIsUnder_c _ _ _ _ _ _ (h.1.nodes.keep (HWB.out.trans HB05.out)) hT).mono ?_
          rintro e w6 ⟨rfl, hb6⟩
          have HB06 := hid' (HB05.out.trans hb6)
          have HB26 := hid' (HB25.out.trans hb6)
          clear hc1 hc3 hf3 hco hb6
          have hc1 := HK1.out _ HB06.out
          have hc3 := (HK3.out _ HB06.out).1
          have hf3 := (HK3.out _ HB06.out).2
          have hco := HOC.out _ HB26.out
          have HT6 := hid' (HT1.out.keep (HB2.out.trans HB26.out))
          clear hbe
          cases hun : isUnder T ((j : Int) + 1) ((k : Int) + 1)
          · have HUN := Lib.hid hun
            clear hun
            have HUP : Hid (upOf T ((k : Int) + 1) = (node_ T k).up) := hid' (upOf_eq T k)
            have HND : Hid (nd T ((j : Int) + 1) = node_ T j) := hid' (nd_eq T j)
            obtain ⟨b, o, K, ck, R, cr, rfl, hbl, hrg, hKI, hK0, hck1, hck2⟩ := h.2 j hj
            obtain ⟨b', o', K2, ck2, R2, cr2, hA2, hbl2, hrg2, -⟩ := h.2 k hk
            obtain ⟨rfl, rfl⟩ : b = b' ∧ o = o' := by cases hA2; exact ⟨rfl, rfl⟩
            have HRG := Lib.hid hrg
            have HRG2 := Lib.hid hrg2
            have HKI := Lib.hid hKI
            have HK0 := Lib.hid hK0
            have HCK := hid' (And.intro hck1 hck2)
            clear hrg hrg2 hKI hK0 hA2 hck1 hck2
            go_wp2_with fail
            refine (iNode_at b o c T k K2 _ ck2 R2 _ cr2 _ (Nat.lt_of_lt_of_le hbl (HWB.out.trans HB06.out).sz) (range_bel HRG2.out (HWB.out.trans HB06.out) hbl) hk hT).mono ?_
            rintro e w7 ⟨rfl, hb7⟩
            have HB07 := hid' (HB06.out.trans hb7)
            have HB27 := hid' (HB26.out.trans hb7)
            clear hc1 hc3 hf3 hco hb7
            have hc1 := HK1.out _ HB07.out
            have hc3 := (HK3.out _ HB07.out).1
            have hf3 := (HK3.out _ HB07.out).2
            have hco := HOC.out _ HB27.out
            have HT7 := hid' (HT1.out.keep (HB2.out.trans HB27.out))
            have hfu := field_up (node_ T k) (.slice K2 (node_ T k).kids.length ck2) (.slice R2 (node_ T k).rules.length cr2) w7
            by_cases hup : (node_ T k).up = 0
            · have hne0 : ((node_ T k).up != 0) = false := by simp [hup]
              have HUP0 := Lib.hid hup
              clear hup
              obtain ⟨nk, hnk⟩ : ∃ nk, (node_ T j).kids.length = nk := ⟨_, rfl⟩
              have HNK := Lib.hid hnk
              rw [hnk] at hk12 HRG HCK
              clear hnk
              go_wp2_with fail
              clear hfu hne0
              refine (iNode_at b o c T j K nk ck R _ cr _ (Nat.lt_of_lt_of_le hbl (HWB.out.trans HB07.out).sz) (range_bel HRG.out (HWB.out.trans HB07.out) hbl) hj hT).mono ?_
              rintro e w8 ⟨rfl, hb8⟩
              have HB08 := hid' (HB07.out.trans hb8)
              have HB28 := hid' (HB27.out.trans hb8)
              clear hc1 hc3 hf3 hco hb8
              have hc1 := HK1.out _ HB08.out
              have hc3 := (HK3.out _ HB08.out).1
              have hf3 := (HK3.out _ HB08.out).2
              have hco := HOC.out _ HB28.out
              have HT8 := hid' (HT1.out.keep (HB2.out.trans HB28.out))
              have hfu := field_kids (node_ T j) (.slice K nk ck) (.slice R (node_ T j).rules.length cr) w8
              cases hin : inB p 0 (nk : Int)
              · have HR : Hid (insertKidT T ((j : Int) + 1) ((k : Int) + 1) p = (T, 3)) := hid' (by simp [insertKidT, HTO.out, HNN.out, HKK.out, HUN.out, hbi.out, HUP.out, HUP0.out, HND.out, HNK.out, hin])
                go_wp2_with ((go_at_call 67; refine (in_c _ _ _ _).mono ?_; rintro e w' ⟨rfl, rfl⟩; rw [hin]))
                refine bodyPost_ret (v := .tuple #[.agg #[.slice A1 T.length c1], .int .i64 3]) (by simp [results, Try.results34, go_sem, *]) rfl ⟨_, _, by (rw [HR.out]; try (first | rfl | (rw [← HLS.out]))), ?_, ?_⟩
                · rw [HR.out]
                  exact (TreeAt.far HT8.out (grown_set _ _ _) (by rw [HS.out]; omega)).base (by rw [HS.out]; omega)
                · exact (HWB.out.trans HB08.out).setCell (show w.heap.size ≤ w.heap.size + 1 by omega) _
              · obtain ⟨a, rfl, ha⟩ : ∃ a : Nat, p = (a : Int) ∧ a ≤ nk := by
                  unfold inB at hin
                  simp only [Bool.and_eq_true, decide_eq_true_eq] at hin
                  exact ⟨p.toNat, by omega, by omega⟩
                have HIN := Lib.hid hin
                go_wp2_with ((go_at_call 67; refine (in_c _ _ _ _).mono ?_; rintro e w' ⟨rfl, rfl⟩; rw [hin]))
                clear hfu hin
                refine (iNode_at b o c T j K nk ck R _ cr _ (Nat.lt_of_lt_of_le hbl (HWB.out.trans HB08.out).sz) (range_bel HRG.out (HWB.out.trans HB08.out) hbl) hj hT).mono ?_
                rintro e w9 ⟨rfl, hb9⟩
                have HB09 := hid' (HB08.out.trans hb9)
                have HB29 := hid' (HB28.out.trans hb9)
                clear hc1 hc3 hf3 hco hb9
                have hc1 := HK1.out _ HB09.out
                have hc3 := (HK3.out _ HB09.out).1
                have hf3 := (HK3.out _ HB09.out).2
                have hco := HOC.out _ HB29.out
                have HT9 := hid' (HT1.out.keep (HB2.out.trans HB29.out))
                have hfu := field_meas (node_ T j) (.slice K nk ck) (.slice R (node_ T j).rules.length cr) w9
                cases hms : (node_ T j).meas
                · have HMS := Lib.hid hms
                  rw [hms] at hfu
                  clear hms
                  go_wp2_with fail
                  clear hfu
                  refine (iNode_at b o c T j K nk ck R _ cr _ (Nat.lt_of_lt_of_le hbl (HWB.out.trans HB09.out).sz) (range_bel HRG.out (HWB.out.trans HB09.out) hbl) hj hT).mono ?_
                  rintro e w10 ⟨rfl, hb10⟩
                  have HB010 := hid' (HB09.out.trans hb10)
                  have HB210 := hid' (HB29.out.trans hb10)
                  clear hc1 hc3 hf3 hco hb10
                  have hc1 := HK1.out _ HB010.out
                  have hc3 := (HK3.out _ HB010.out).1
                  have hf3 := (HK3.out _ HB010.out).2
                  have hco := HOC.out _ HB210.out
                  have HT10 := hid' (HT1.out.keep (HB2.out.trans HB210.out))
                  have hfu := field_kids (node_ T j) (.slice K nk ck) (.slice R (node_ T j).rules.length cr) w10
                  go_wp2_with fail
                  clear hfu
                  obtain ⟨g, KS, RS, rfl, hE⟩ := Ed.of_tree HT10.out (by omega)
                  have hgl := (Ed.of_tree HT1.out (by omega)).elim fun g' h => h.elim fun KS' h => h.elim fun RS' h => (by have e := h.1; injection e with e; injection e with e; rw [e]; exact h.2.lo : W0.heap.size ≤ g ∧ g < w1.heap.size)
                  have HE := Lib.hid hE
                  obtain ⟨la, hla⟩ : ∃ la, (node_ T j).kids.take a = la := ⟨_, rfl⟩
                  obtain ⟨lb, hlb⟩ : ∃ lb, (node_ T j).kids.drop a = lb := ⟨_, rfl⟩
                  have HLA : Hid (la.length = a) := hid' (by rw [← hla, List.length_take, HNK.out]; omega)
                  have HLB : Hid (lb.length = nk - a) := hid' (by rw [← hlb, List.length_drop, HNK.out])
                  have HIA : Hid (Ints w10 K la) := hid' (by rw [← hla]; exact cut_take (HKI.out.keep (HWB.out.trans HB010.out)) a)
                  have HIB : Hid (Ints w10 (cutO K a ck) lb) := hid' (by rw [← hlb]; exact cut_dropO (HKI.out.keep (HWB.out.trans HB010.out)) (by rw [HNK.out]; exact HCK.out.1))
                  have HIL : Hid (insL (node_ T j).kids a ((k : Int) + 1) = la ++ [(k : Int) + 1] ++ lb) := hid' (by rw [← hla, ← hlb]; rfl)
                  have hs1 : ∀ u, (Instr.slice 26 (.slice K nk ck) none (some (.int .i64 (a : Int))) none).run Try.prog u = .ok (.slice K la.length ck) u := fun u => by rw [HLA.out]; exact run_cutH 26 elem_ints size_int K nk ck a ha HCK.out.1 u
                  have hs2 : ∀ u, (Instr.slice 26 (.slice K nk ck) (some (.int .i64 (a : Int))) none none).run Try.prog u = .ok (.slice (cutO K a ck) lb.length (ck - a)) u := fun u => by rw [HLB.out]; exact run_cutL 26 elem_ints size_int K nk ck a ha u
                  have HL20 : Hid (la.length ≤ 12 ∧ lb.length ≤ 12) := hid' ⟨by rw [HLA.out]; omega, by rw [HLB.out]; omega⟩
                  have HCO : Hid (∀ u, Bel w10 u → u.cell? ⟨w1.heap.size, 0, none⟩ = some (.slice (some ⟨g, 0, none⟩) T.length c1)) := hid' (fun u hu => HOC.out _ (HB210.out.trans hu))
                  have hjt : (j : Int) < (T.length : Int) := by omega
                  have hkt : (k : Int) < (T.length : Int) := by omega
                  have hwj : IntKind.i64.wrap ((j : Int) + 1 - 1) = (j : Int) := by rw [IntWalk.i64_in _ (by omega)]; omega
                  have hwj2 : IntKind.i64.wrap (j : Int) = (j : Int) := IntWalk.i64_in _ (by omega)
                  have hj0 : (0 : Int) ≤ (j : Int) := Int.natCast_nonneg j
                  have hd0 : Bel w10 w10.drew := (Bel.refl w10).drew
                  have HW1 : Hid (w1.heap.size < w10.heap.size) := hid' (World.block_lt_of_cell? _ _ hco)
                  clear hE hla hlb hc1 hc3 hf3 hco
                  have hX1 : Bel w10 (w10.alloc (.cells #[.int .i64 ((k : Int) + 1)] 3)).drew := ((Bel.refl w10).alloc _).drew
                  refine wp_join [70, 71, 72, 73, 74, 75, 76, 77, 78, 79, 80, 81, 82, 83, 84, 85, 86] (fun _ u => Hid (∃ KS', Ed u W0.heap.size g T.length c1 (T.set j { node_ T j with kids := insL (node_ T j).kids a ((k : Int) + 1) }) KS' RS) ∧ Bel W0 u ∧ u.cell? ⟨w1.heap.size, 0, none⟩ = some (.slice (some ⟨g, 0, none⟩) T.length c1)) ?_ ?_
                  · go_region_held3 (fun u => u.cell? ⟨w1.heap.size, 0, none⟩ = some (.slice (some ⟨g, 0, none⟩) T.length c1))
                      ((with_reducible first | exact hst | exact HCO.out _ h84 | exact HCO.out _ h80 | exact HCO.out _ h79 | exact HCO.out _ h77 | exact HCO.out _ hX1 | exact HCO.out _ hd0))
                      (first
                        | (go_at_call 68; refine (copyInts_c K ck la _ (HIA.out.keep hd0) HK0.out (by have := HL20.out; omega)).mono ?_; rintro e u1 ⟨v1, rfl, ho1, hb1⟩
                           have h77 : Bel w10 u1 := hd0.trans hb1
                           have HO1 : Hid (u1.ownsRow w10.heap.size 3 1 v1 la.length (VI la)) := hid' (own_low ho1 hd0.sz)
                           have h79 : Bel w10 (u1.alloc (.cells #[.int .i64 ((k : Int) + 1)] 3)) := h77.alloc _
                           have x79 : Hid ((u1.alloc (.cells #[.int .i64 ((k : Int) + 1)] 3)).cell? ⟨u1.heap.size, 0, none⟩ = some (.int .i64 ((k : Int) + 1))) := hid' (new_cell1 _ _ _).1
                           clear ho1 hb1)
                        | (go_at_call 68; refine (copyInts_c K ck la _ (HIA.out.keep hX1) HK0.out (by have := HL20.out; omega)).mono ?_; rintro e u1 ⟨v1, rfl, ho1, hb1⟩
                           have h77 : Bel w10 u1 := hX1.trans hb1
                           have HO1 : Hid (u1.ownsRow w10.heap.size 3 1 v1 la.length (VI la)) := hid' (own_low ho1 hX1.sz)
                           have y79 : Hid (u1.cell? ⟨w10.heap.size, 0, none⟩ = some (.int .i64 ((k : Int) + 1))) := hid' ((hb1.cell _ _ (by simp)).trans (new_cell1 w10 _ _).1)
                           clear ho1 hb1)
                        | (refine step_appS rfl (.tmp 77) (.tmp 79) rfl w10.heap.size _ _ _ rfl (own_keep HO1.out ((Bel.refl u1).alloc _)) (some ⟨u1.heap.size, 0, none⟩) 1 [(k : Int) + 1] rfl (ints_one x79.out (by simp)) (fun h => by cases h) (by have := HL20.out; simp; omega) h79.sz ?_; intro v2 u2 ho2 hg2
                           have h80 : Bel w10 u2 := h79.own (Nat.le_refl _) (own_keep HO1.out ((Bel.refl u1).alloc _)) hg2
                           have HO2 := Lib.hid ho2
                           clear ho2 hg2)
                        | (refine step_appS rfl (.tmp 77) (.tmp 79) rfl w10.heap.size _ _ _ rfl HO1.out (some ⟨w10.heap.size, 0, none⟩) 1 [(k : Int) + 1] rfl (ints_one y79.out (World.block_lt_of_cell? _ _ y79.out)) (fun h => by cases h) (by have := HL20.out; simp; omega) h77.sz ?_; intro v2 u2 ho2 hg2
                           have h80 : Bel w10 u2 := h77.own (Nat.le_refl _) HO1.out hg2
                           have HO2 := Lib.hid ho2
                           clear ho2 hg2)
                        |
                          (refine step_appS rfl (.tmp 80) (.tmp 83) rfl w10.heap.size _ _ _ rfl HO2.out (cutO K a ck) (ck - a) lb rfl (HIB.out.keep h80) (cut_none HK0.out) (by have := HL20.out; simp; omega) h80.sz ?_; intro v3 u3 ho3 hg3
                           have h84 : Bel w10 u3 := h80.own (Nat.le_refl _) HO2.out hg3
                           rw [VI_app, VI_app, ← HIL.out] at ho3
                           have HO3 : Hid (u3.ownsRow w10.heap.size 3 1 v3 (insL (node_ T j).kids a ((k : Int) + 1)).length (VI (insL (node_ T j).kids a ((k : Int) + 1)))) := hid' (ins_row HIL.out ho3)
                           obtain ⟨A3, c3, rfl, -, -, -, -⟩ := own_openC HO3.out
                           obtain ⟨xk, hck3, hfk3⟩ := (HE.out.keep h84).kcell hj
                           have hJ := ins_join HE.out h84 HO3.out HB010.out.sz hj
                           have HJ := Lib.hid hJ
                           have hst : (u3.setCell ⟨g, j * 64 + 1, none⟩ (.slice A3 (insL (node_ T j).kids a ((k : Int) + 1)).length c3)).cell? ⟨w1.heap.size, 0, none⟩ = some (.slice (some ⟨g, 0, none⟩) T.length c1) := by
                             rw [World.cell?_setCell_other _ _ _ _ (by intro e; injection e with e; omega)]; exact HCO.out _ h84
                           have hBst : Bel W0 (u3.setCell ⟨g, j * 64 + 1, none⟩ (.slice A3 (insL (node_ T j).kids a ((k : Int) + 1)).length c3)) := (HB010.out.trans h84).setCell hgl.1 _
                           clear ho3 hg3 hJ)
                        )
                    all_goals exact join_here (by kernel_rfl) ⟨HJ, hBst, hst⟩
                  rintro y w11 ⟨HE1, hB11, hco11⟩
                  obtain ⟨KS', hE1⟩ := HE1.out
                  replace HE1 := Lib.hid hE1
                  clear hE1 hd0 hX1 hs1 hs2
                  simp only [setAll, List.foldl_cons, List.foldl_nil, List.setIfInBounds_toArray, List.set_cons_zero, List.set_cons_succ]
                  go_wp2_with (first
                    | ((with_reducible show wpList _ _ _ (Oper.mk _ (Op.store _ _ _) _ _ _ _ :: _) _ _); refine HE1.out.storeUp (j := k) (by rw [List.length_set]; exact hk) rfl _ _ rfl rfl rfl ?_; intro w12 H12
                       have HB12 := hid' (hB11.grown H12.out.2 (fun q e => by injection e with e; omega))
                       have hc1 := HK1.out _ HB12.out
                       have hc3 := (HK3.out _ HB12.out).1
                       have hf3 := (HK3.out _ HB12.out).2
                       have hco12 : w12.cell? ⟨w1.heap.size, 0, none⟩ = some (.slice (some ⟨g, 0, none⟩) T.length c1) := (World.grownBy.cell_far H12.out.2 ⟨w1.heap.size, 0, none⟩ (World.block_lt_of_cell? _ _ hco11) (fun e => by injection e with e; have h1 : w1.heap.size = g := e; omega)).trans hco11
                       have HT12 : Hid (TreeAt w12 W0.heap.size (.slice (some ⟨g, 0, none⟩) T.length c1) (insT T j k a)) := hid' H12.out.1.tree
                       have HCO12 : Hid (∀ u, Bel w12 u → u.cell? ⟨w1.heap.size, 0, none⟩ = some (.slice (some ⟨g, 0, none⟩) T.length c1)) := hid' (fun u hu => (hu.cell _ _ (World.block_lt_of_cell? _ _ hco12)).trans hco12)))
                  have hnk : (a : Int) ≤ (nk : Int) := by omega
                  have HDN : Hid (insertKidT T ((j : Int) + 1) ((k : Int) + 1) (a : Int) = if depthsOk (insT T j k a) = true then (insT T j k a, 0) else (T, 7)) := hid' (by simp [insertKidT, HTO.out, HNN.out, HKK.out, HUN.out, hbi.out, HUP.out, HUP0.out, HND.out, HNK.out, HIN.out, HMS.out])
                  have HIL2 : Hid ((insT T j k a).length = T.length) := hid' (insT_length T j k a)
                  clear hc1 hc3 hf3 hco12 hco11
                  go_loopw [97] (fun i wr => ∃ (q : Nat), q ≤ T.length ∧ i = .int .i64 q ∧ Hid (∀ i, i < q → depthOf (insT T j k a) ((i : Int) + 1) ≤ 4) ∧ Bel w12 wr) (fun i _ => T.length - (intOf i).toNat)
                  case atStart => exact ⟨0, Nat.zero_le _, rfl, hid' (fun i hi => absurd hi (Nat.not_lt_zero _)), Bel.refl w12⟩
                  case round =>
                    obtain ⟨q, hq, rfl, HQ, hb⟩ := hrel
                    have hco := HCO12.out _ hb
                    have hc1 := HK1.out _ (HB12.out.trans hb)
                    have hc3 := (HK3.out _ (HB12.out.trans hb)).1
                    have hf3 := (HK3.out _ (HB12.out.trans hb)).2
                    by_cases hql : q < T.length
                    · have hqi : (q : Int) < (T.length : Int) := by omega
                      go_wp2_with fail
                      have hD := iDepthOf_c (some ⟨g, 0, none⟩) c1 (insT T j k a) ((q : Int) + 1) wr (HT12.out.nodesC.nodes.keep hb) (by rw [HIL2.out]; exact hT)
                      rw [HIL2.out] at hD
                      refine hD.mono ?_; rintro e w13 ⟨rfl, hb13⟩
                      clear hD
                      have hbb := hb.trans hb13
                      have hco' := HCO12.out _ hbb
                      have hc1' := HK1.out _ (HB12.out.trans hbb)
                      have hc3' := (HK3.out _ (HB12.out.trans hbb)).1
                      have hf3' := (HK3.out _ (HB12.out.trans hbb)).2
                      clear hco hc1 hc3 hf3
                      by_cases hdp : depthOf (insT T j k a) ((q : Int) + 1) ≤ 4
                      · have HDP := Lib.hid hdp
                        go_wp2_with fail
                        go_roundw
                        case rel => exact ⟨q + 1, by omega, by go_num, hid' (fun i hi => by rcases Nat.lt_succ_iff_lt_or_eq.1 hi with h | h; exact HQ.out i h; subst h; exact HDP.out), hbb⟩
                        case measure => simp [intOf]; omega
                      · have HR : Hid (insertKidT T ((j : Int) + 1) ((k : Int) + 1) (a : Int) = (T, 7)) := hid' (by rw [HDN.out, depthsOk_no (by rw [HIL2.out]; exact hql) hdp]; rfl)
                        have hdp' : 4 < depthOf (insT T j k a) ((q : Int) + 1) := by omega
                        clear hdp
                        go_wp2_with fail
                        refine (iCopyTree_c _ _ _ _ (h.1.keep (HWB.out.trans (HB12.out.trans hbb))) HN.out).mono ?_; rintro e w14 ⟨A14, c14, rfl, ht14, hb14⟩
                        have HT14 := hid' (ht14.base (HB12.out.trans hbb).sz)
                        have HB14 := hid' ((HB12.out.trans hbb).trans hb14)
                        have hc3'' := (HK3.out _ HB14.out).1
                        have hf3'' := (HK3.out _ HB14.out).2
                        clear ht14 hco' hc1' hc3' hf3'
                        go_wp2_with fail
                        refine bodyPost_ret (v := .tuple #[.agg #[.slice A14 T.length c14], .int .i64 7]) (by simp [results, Try.results34, go_sem, *]) rfl ⟨_, _, by (rw [HR.out]; try (first | rfl | (rw [← HLS.out]))), ?_, ?_⟩
                        · rw [HR.out]
                          exact (TreeAt.far HT14.out (grown_set _ _ _) (by rw [HS.out]; omega)).base (by rw [HS.out]; omega)
                        · exact (HWB.out.trans HB14.out).setCell (show w.heap.size ≤ w.heap.size + 1 by omega) _
                    · obtain rfl : q = T.length := by omega
                      have HR : Hid (insertKidT T ((j : Int) + 1) ((k : Int) + 1) (a : Int) = (insT T j k a, 0)) := hid' (by rw [HDN.out, depthsOk_yes (by rw [HIL2.out]; exact HQ.out)]; rfl)
                      have HLS : Hid (T.length = (insT T j k a).length) := hid' HIL2.out.symm
                      have HTW : Hid (TreeAt wr W0.heap.size (.slice (some ⟨g, 0, none⟩) (insT T j k a).length c1) (insT T j k a)) := hid' (by rw [HIL2.out]; exact HT12.out.keep hb)
                      go_wp2_with fail
                      refine bodyPost_ret (v := .tuple #[.agg #[.slice (some ⟨g, 0, none⟩) T.length c1], .int .i64 0]) (by simp [results, Try.results34, go_sem, *]) rfl ⟨_, _, by (rw [HR.out]; try (first | rfl | (rw [← HLS.out]))), ?_, ?_⟩
                      · rw [HR.out]
                        exact (TreeAt.far HTW.out (grown_set _ _ _) (by rw [HS.out]; omega)).base (by rw [HS.out]; omega)
                      · exact (HWB.out.trans (HB12.out.trans hb)).setCell (show w.heap.size ≤ w.heap.size + 1 by omega) _
                · have HR : Hid (insertKidT T ((j : Int) + 1) ((k : Int) + 1) (a : Int) = (T, 6)) := hid' (by simp [insertKidT, HTO.out, HNN.out, HKK.out, HUN.out, hbi.out, HUP.out, HUP0.out, HND.out, HNK.out, HIN.out, hms])
                  rw [hms] at hfu
                  clear hms
                  go_wp2_with fail
                  refine bodyPost_ret (v := .tuple #[.agg #[.slice A1 T.length c1], .int .i64 6]) (by simp [results, Try.results34, go_sem, *]) rfl ⟨_, _, by (rw [HR.out]; try (first | rfl | (rw [← HLS.out]))), ?_, ?_⟩
                  · rw [HR.out]
                    exact (TreeAt.far HT9.out (grown_set _ _ _) (by rw [HS.out]; omega)).base (by rw [HS.out]; omega)
                  · exact (HWB.out.trans HB09.out).setCell (show w.heap.size ≤ w.heap.size + 1 by omega) _
            · have hne0 : ((node_ T k).up != 0) = true := by simp [hup]
              have HR : Hid (insertKidT T ((j : Int) + 1) ((k : Int) + 1) p = (T, 3)) := hid' (by simp [insertKidT, HTO.out, HNN.out, HKK.out, HUN.out, hbi.out, HUP.out, hup])
              clear hup
              go_wp2_with fail
              refine bodyPost_ret (v := .tuple #[.agg #[.slice A1 T.length c1], .int .i64 3]) (by simp [results, Try.results34, go_sem, *]) rfl ⟨_, _, by (rw [HR.out]; try (first | rfl | (rw [← HLS.out]))), ?_, ?_⟩
              · rw [HR.out]
                exact (TreeAt.far HT7.out (grown_set _ _ _) (by rw [HS.out]; omega)).base (by rw [HS.out]; omega)
              · exact (HWB.out.trans HB07.out).setCell (show w.heap.size ≤ w.heap.size + 1 by omega) _
          · have HR : Hid (insertKidT T ((j : Int) + 1) ((k : Int) + 1) p = (T, 2)) := hid' (by simp [insertKidT, HTO.out, HNN.out, HKK.out, hun])
            clear hun
            go_wp2_with fail
            refine bodyPost_ret (v := .tuple #[.agg #[.slice A1 T.length c1], .int .i64 2]) (by simp [results, Try.results34, go_sem, *]) rfl ⟨_, _, by (rw [HR.out]; try (first | rfl | (rw [← HLS.out]))), ?_, ?_⟩
            · rw [HR.out]
              exact (TreeAt.far HT6.out (grown_set _ _ _) (by rw [HS.out]; omega)).base (by rw [HS.out]; omega)
            · exact (HWB.out.trans HB06.out).setCell (show w.heap.size ≤ w.heap.size + 1 by omega) _
set_option maxRecDepth 100000 in
set_option maxHeartbeats 8000000 in
theorem sInsertKid_c (A : Option Addr) (c : Nat) (T : List NodeD) (n kid p : Int) (w : World) (h : NodesK w A T) (hn : treeSz T ≤ 1048576) :
    Calls Try.prog 33 #[treeV A T.length c, .int .i64 n, .int .i64 kid, .int .i64 p] w fun e w' => ∃ A' c', e = .returned (.tuple #[treeV A' (insertKidT T n kid p).1.length c', .int .i64 (insertKidT T n kid p).2]) ∧ TreeAt w' w.heap.size (.slice A' (insertKidT T n kid p).1.length c') (insertKidT T n kid p).1 ∧ Bel w w' := by
  have HKN := Lib.hid h
  have h := h.1
  have hT := len_of hn
  have HKR := hid' (kr_of hn)
  have HN := Lib.hid hn
  clear hn
  obtain ⟨W0, hW0⟩ : ∃ W0, W0 = (w.alloc (.cells #[.slice A T.length c] 30)).alloc (.cells #[.slice none 0 0] 30) := ⟨_, rfl⟩
  have HWB : Hid (Bel w W0) := hid' (by rw [hW0]; exact ((Bel.refl w).alloc _).alloc _)
  have HS : Hid (W0.heap.size = w.heap.size + 1 + 1) := hid' (by rw [hW0]; simp)
  have HK1 : Hid (∀ u, Bel W0 u → u.cell? ⟨w.heap.size, 0, none⟩ = some (.slice A T.length c)) := hid' (fun u hu => by
    have hb : Bel (w.alloc (.cells #[.slice A T.length c] 30)) W0 := by rw [hW0]; exact (Bel.refl _).alloc _
    exact ((hb.trans hu).cell _ _ (by simp)).trans (by simp))
  have HK3 : Hid (∀ u, Bel W0 u → u.cell? ⟨w.heap.size + 1, 0, none⟩ = some (.slice none 0 0) ∧ u.frozen? ⟨w.heap.size + 1, 0, none⟩ = false) := hid' (fun u hu => by
    have hz : (w.alloc (.cells #[.slice A T.length c] 30)).heap.size = w.heap.size + 1 := by simp
    rw [hW0] at hu
    rw [← hz]
    exact ⟨(hu.cell _ _ (by simp)).trans (new_cell1 _ _ _).1, (hu.frozen _ _ (by simp)).trans (new_cell1 _ _ _).2⟩)
  go_enter Try.func33, Try.ntmps33
  go_wp2_with fail
  rw [← hW0]
  clear hW0
  refine (sCopyTree_c _ _ _ _ (h.keep HWB.out) HN.out).mono ?_; rintro e w1 ⟨A1, c1, rfl, ht1, hb1⟩
  have HT1 := Lib.hid ht1
  clear ht1
  have hcA := HK1.out _ (hb1.alloc (.cells #[.slice A1 T.length c1] 30))
  have hlb1 : w.heap.size + 1 < w1.heap.size := by have := hb1.sz; rw [HS.out] at this; omega
  have HB1 := Lib.hid hb1
  go_wp2_with fail
  obtain ⟨w2, hw2⟩ : ∃ w2, w2 = w1.alloc (.cells #[.slice A1 T.length c1] 30) := ⟨_, rfl⟩
  rw [← hw2] at hcA ⊢
  have HOC : Hid (∀ u, Bel w2 u → u.cell? ⟨w1.heap.size, 0, none⟩ = some (.slice A1 T.length c1)) := hid' (fun u hu => by rw [hu.cell _ _ (by rw [hw2]; simp), hw2]; simp)
  have HB2 : Hid (Bel w1 w2) := hid' (by rw [hw2]; exact (Bel.refl w1).alloc _)
  have HL2 : Hid (w1.heap.size < w2.heap.size) := hid' (by rw [hw2]; simp)
  clear hw2 hcA hb1
  have HB02 := hid' (HB1.out.trans HB2.out)
  refine (sTreeOk_c _ _ _ _ (h.nodes.keep (HWB.out.trans HB02.out)) hT HKR.out).mono ?_; rintro e w3 ⟨rfl, hb3⟩
  have HB03 := hid' (HB02.out.trans hb3)
  have HB23 := Lib.hid hb3
  clear hb3
  have hc1 := HK1.out _ HB03.out
  have hc3 := (HK3.out _ HB03.out).1
  have hf3 := (HK3.out _ HB03.out).2
  have hco := HOC.out _ HB23.out
  have HT3 := hid' (HT1.out.keep (HB2.out.trans HB23.out))
  replace h := HKN.out
  clear HKN
  cases ht : treeOk T
  · have HR : Hid (insertKidT T n kid p = (T, 1)) := hid' (by simp [insertKidT, ht])
    go_wp2_with fail
    refine bodyPost_ret (v := .tuple #[.agg #[.slice A1 T.length c1], .int .i64 1]) (by simp [results, Try.results33, go_sem, *]) rfl ⟨_, _, by (rw [HR.out]; try (first | rfl | (rw [← HLS.out]))), ?_, ?_⟩
    · rw [HR.out]
      exact (TreeAt.far HT3.out (grown_set _ _ _) (by rw [HS.out]; omega)).base (by rw [HS.out]; omega)
    · exact (HWB.out.trans HB03.out).setCell (show w.heap.size ≤ w.heap.size + 1 by omega) _
  · have HTO := Lib.hid ht
    clear ht
    go_wp2_with fail
    refine (sIsNode_c _ _ _ _ _).mono ?_
    rintro e w4 ⟨rfl, hb4⟩
    have HB04 := hid' (HB03.out.trans hb4)
    have HB24 := hid' (HB23.out.trans hb4)
    clear hc1 hc3 hf3 hco hb4
    have hc1 := HK1.out _ HB04.out
    have hc3 := (HK3.out _ HB04.out).1
    have hf3 := (HK3.out _ HB04.out).2
    have hco := HOC.out _ HB24.out
    have HT4 := hid' (HT1.out.keep (HB2.out.trans HB24.out))
    cases hnn : isNodeB T n
    · have HR : Hid (insertKidT T n kid p = (T, 1)) := hid' (by simp [insertKidT, hnn])
      go_wp2_with fail
      refine bodyPost_ret (v := .tuple #[.agg #[.slice A1 T.length c1], .int .i64 1]) (by simp [results, Try.results33, go_sem, *]) rfl ⟨_, _, by (rw [HR.out]; try (first | rfl | (rw [← HLS.out]))), ?_, ?_⟩
      · rw [HR.out]
        exact (TreeAt.far HT4.out (grown_set _ _ _) (by rw [HS.out]; omega)).base (by rw [HS.out]; omega)
      · exact (HWB.out.trans HB04.out).setCell (show w.heap.size ≤ w.heap.size + 1 by omega) _
    · have HNN := Lib.hid hnn
      clear hnn
      go_wp2_with fail
      refine (sIsNode_c _ _ _ _ _).mono ?_
      rintro e w5 ⟨rfl, hb5⟩
      have HB05 := hid' (HB04.out.trans hb5)
      have HB25 := hid' (HB24.out.trans hb5)
      clear hc1 hc3 hf3 hco hb5
      have hc1 := HK1.out _ HB05.out
      have hc3 := (HK3.out _ HB05.out).1
      have hf3 := (HK3.out _ HB05.out).2
      have hco := HOC.out _ HB25.out
      have HT5 := hid' (HT1.out.keep (HB2.out.trans HB25.out))
      cases hkk : isNodeB T kid
      · have HR : Hid (insertKidT T n kid p = (T, 1)) := hid' (by simp [insertKidT, hkk])
        go_wp2_with fail
        refine bodyPost_ret (v := .tuple #[.agg #[.slice A1 T.length c1], .int .i64 1]) (by simp [results, Try.results33, go_sem, *]) rfl ⟨_, _, by (rw [HR.out]; try (first | rfl | (rw [← HLS.out]))), ?_, ?_⟩
        · rw [HR.out]
          exact (TreeAt.far HT5.out (grown_set _ _ _) (by rw [HS.out]; omega)).base (by rw [HS.out]; omega)
        · exact (HWB.out.trans HB05.out).setCell (show w.heap.size ≤ w.heap.size + 1 by omega) _
      · obtain ⟨j, rfl, hj⟩ := isNode_split HNN.out
        obtain ⟨k, rfl, hk⟩ := isNode_split hkk
        have HKK := Lib.hid hkk
        clear hkk
        have h12 := treeOk_len HTO.out
        have hk12 := kids_few HTO.out hj
        by_cases hjk : k = j
        · have hbe : ((k : Int) + 1 == (j : Int) + 1) = true := by simp [hjk]
          have HR : Hid (insertKidT T ((j : Int) + 1) ((k : Int) + 1) p = (T, 2)) := hid' (by simp [insertKidT, HTO.out, HNN.out, HKK.out, hjk])
          clear hjk
          go_wp2_with fail
          refine bodyPost_ret (v := .tuple #[.agg #[.slice A1 T.length c1], .int .i64 2]) (by simp [results, Try.results33, go_sem, *]) rfl ⟨_, _, by (rw [HR.out]; try (first | rfl | (rw [← HLS.out]))), ?_, ?_⟩
          · rw [HR.out]
            exact (TreeAt.far HT5.out (grown_set _ _ _) (by rw [HS.out]; omega)).base (by rw [HS.out]; omega)
          · exact (HWB.out.trans HB05.out).setCell (show w.heap.size ≤ w.heap.size + 1 by omega) _
        · have hbe : ((k : Int) + 1 == (j : Int) + 1) = false := by simp; omega
          have HJK := Lib.hid hjk
          clear hjk
          have hbi : Hid (¬ (k : Int) + 1 = (j : Int) + 1) := hid' (by have := HJK.out; omega)
          go_wp2_with fail
          refine (sIsUnder_c _ _ _ _ _ _ (h.1.nodes.keep (HWB.out.trans HB05.out)) hT).mono ?_
          rintro e w6 ⟨rfl, hb6⟩
          have HB06 := hid' (HB05.out.trans hb6)
          have HB26 := hid' (HB25.out.trans hb6)
          clear hc1 hc3 hf3 hco hb6
          have hc1 := HK1.out _ HB06.out
          have hc3 := (HK3.out _ HB06.out).1
          have hf3 := (HK3.out _ HB06.out).2
          have hco := HOC.out _ HB26.out
          have HT6 := hid' (HT1.out.keep (HB2.out.trans HB26.out))
          clear hbe
          cases hun : isUnder T ((j : Int) + 1) ((k : Int) + 1)
          · have HUN := Lib.hid hun
            clear hun
            have HUP : Hid (upOf T ((k : Int) + 1) = (node_ T k).up) := hid' (upOf_eq T k)
            have HND : Hid (nd T ((j : Int) + 1) = node_ T j) := hid' (nd_eq T j)
            obtain ⟨b, o, K, ck, R, cr, rfl, hbl, hrg, hKI, hK0, hck1, hck2⟩ := h.2 j hj
            obtain ⟨b', o', K2, ck2, R2, cr2, hA2, hbl2, hrg2, -⟩ := h.2 k hk
            obtain ⟨rfl, rfl⟩ : b = b' ∧ o = o' := by cases hA2; exact ⟨rfl, rfl⟩
            have HRG := Lib.hid hrg
            have HRG2 := Lib.hid hrg2
            have HKI := Lib.hid hKI
            have HK0 := Lib.hid hK0
            have HCK := hid' (And.intro hck1 hck2)
            clear hrg hrg2 hKI hK0 hA2 hck1 hck2
            go_wp2_with fail
            refine (sNode_at b o c T k K2 _ ck2 R2 _ cr2 _ (Nat.lt_of_lt_of_le hbl (HWB.out.trans HB06.out).sz) (range_bel HRG2.out (HWB.out.trans HB06.out) hbl) hk hT).mono ?_
            rintro e w7 ⟨rfl, hb7⟩
            have HB07 := hid' (HB06.out.trans hb7)
            have HB27 := hid' (HB26.out.trans hb7)
            clear hc1 hc3 hf3 hco hb7
            have hc1 := HK1.out _ HB07.out
            have hc3 := (HK3.out _ HB07.out).1
            have hf3 := (HK3.out _ HB07.out).2
            have hco := HOC.out _ HB27.out
            have HT7 := hid' (HT1.out.keep (HB2.out.trans HB27.out))
            have hfu := field_up (node_ T k) (.slice K2 (node_ T k).kids.length ck2) (.slice R2 (node_ T k).rules.length cr2) w7
            by_cases hup : (node_ T k).up = 0
            · have hne0 : ((node_ T k).up != 0) = false := by simp [hup]
              have HUP0 := Lib.hid hup
              clear hup
              obtain ⟨nk, hnk⟩ : ∃ nk, (node_ T j).kids.length = nk := ⟨_, rfl⟩
              have HNK := Lib.hid hnk
              rw [hnk] at hk12 HRG HCK
              clear hnk
              go_wp2_with fail
              clear hfu hne0
              refine (sNode_at b o c T j K nk ck R _ cr _ (Nat.lt_of_lt_of_le hbl (HWB.out.trans HB07.out).sz) (range_bel HRG.out (HWB.out.trans HB07.out) hbl) hj hT).mono ?_
              rintro e w8 ⟨rfl, hb8⟩
              have HB08 := hid' (HB07.out.trans hb8)
              have HB28 := hid' (HB27.out.trans hb8)
              clear hc1 hc3 hf3 hco hb8
              have hc1 := HK1.out _ HB08.out
              have hc3 := (HK3.out _ HB08.out).1
              have hf3 := (HK3.out _ HB08.out).2
              have hco := HOC.out _ HB28.out
              have HT8 := hid' (HT1.out.keep (HB2.out.trans HB28.out))
              have hfu := field_kids (node_ T j) (.slice K nk ck) (.slice R (node_ T j).rules.length cr) w8
              cases hin : inB p 0 (nk : Int)
              · have HR : Hid (insertKidT T ((j : Int) + 1) ((k : Int) + 1) p = (T, 3)) := hid' (by simp [insertKidT, HTO.out, HNN.out, HKK.out, HUN.out, hbi.out, HUP.out, HUP0.out, HND.out, HNK.out, hin])
                go_wp2_with ((go_at_call 65; refine (l01In_c _ _ _ _).mono ?_; rintro e w' ⟨rfl, rfl⟩; rw [hin]))
                refine bodyPost_ret (v := .tuple #[.agg #[.slice A1 T.length c1], .int .i64 3]) (by simp [results, Try.results33, go_sem, *]) rfl ⟨_, _, by (rw [HR.out]; try (first | rfl | (rw [← HLS.out]))), ?_, ?_⟩
                · rw [HR.out]
                  exact (TreeAt.far HT8.out (grown_set _ _ _) (by rw [HS.out]; omega)).base (by rw [HS.out]; omega)
                · exact (HWB.out.trans HB08.out).setCell (show w.heap.size ≤ w.heap.size + 1 by omega) _
              · obtain ⟨a, rfl, ha⟩ : ∃ a : Nat, p = (a : Int) ∧ a ≤ nk := by
                  unfold inB at hin
                  simp only [Bool.and_eq_true, decide_eq_true_eq] at hin
                  exact ⟨p.toNat, by omega, by omega⟩
                have HIN := Lib.hid hin
                go_wp2_with ((go_at_call 65; refine (l01In_c _ _ _ _).mono ?_; rintro e w' ⟨rfl, rfl⟩; rw [hin]))
                clear hfu hin
                refine (sNode_at b o c T j K nk ck R _ cr _ (Nat.lt_of_lt_of_le hbl (HWB.out.trans HB08.out).sz) (range_bel HRG.out (HWB.out.trans HB08.out) hbl) hj hT).mono ?_
                rintro e w9 ⟨rfl, hb9⟩
                have HB09 := hid' (HB08.out.trans hb9)
                have HB29 := hid' (HB28.out.trans hb9)
                clear hc1 hc3 hf3 hco hb9
                have hc1 := HK1.out _ HB09.out
                have hc3 := (HK3.out _ HB09.out).1
                have hf3 := (HK3.out _ HB09.out).2
                have hco := HOC.out _ HB29.out
                have HT9 := hid' (HT1.out.keep (HB2.out.trans HB29.out))
                have hfu := field_meas (node_ T j) (.slice K nk ck) (.slice R (node_ T j).rules.length cr) w9
                cases hms : (node_ T j).meas
                · have HMS := Lib.hid hms
                  rw [hms] at hfu
                  clear hms
                  go_wp2_with fail
                  clear hfu
                  refine (sNode_at b o c T j K nk ck R _ cr _ (Nat.lt_of_lt_of_le hbl (HWB.out.trans HB09.out).sz) (range_bel HRG.out (HWB.out.trans HB09.out) hbl) hj hT).mono ?_
                  rintro e w10 ⟨rfl, hb10⟩
                  have HB010 := hid' (HB09.out.trans hb10)
                  have HB210 := hid' (HB29.out.trans hb10)
                  clear hc1 hc3 hf3 hco hb10
                  have hc1 := HK1.out _ HB010.out
                  have hc3 := (HK3.out _ HB010.out).1
                  have hf3 := (HK3.out _ HB010.out).2
                  have hco := HOC.out _ HB210.out
                  have HT10 := hid' (HT1.out.keep (HB2.out.trans HB210.out))
                  have hfu := field_kids (node_ T j) (.slice K nk ck) (.slice R (node_ T j).rules.length cr) w10
                  go_wp2_with fail
                  clear hfu
                  obtain ⟨g, KS, RS, rfl, hE⟩ := Ed.of_tree HT10.out (by omega)
                  have hgl := (Ed.of_tree HT1.out (by omega)).elim fun g' h => h.elim fun KS' h => h.elim fun RS' h => (by have e := h.1; injection e with e; injection e with e; rw [e]; exact h.2.lo : W0.heap.size ≤ g ∧ g < w1.heap.size)
                  have HE := Lib.hid hE
                  obtain ⟨la, hla⟩ : ∃ la, (node_ T j).kids.take a = la := ⟨_, rfl⟩
                  obtain ⟨lb, hlb⟩ : ∃ lb, (node_ T j).kids.drop a = lb := ⟨_, rfl⟩
                  have HLA : Hid (la.length = a) := hid' (by rw [← hla, List.length_take, HNK.out]; omega)
                  have HLB : Hid (lb.length = nk - a) := hid' (by rw [← hlb, List.length_drop, HNK.out])
                  have HIA : Hid (Ints w10 K la) := hid' (by rw [← hla]; exact cut_take (HKI.out.keep (HWB.out.trans HB010.out)) a)
                  have HIB : Hid (Ints w10 (cutO K a ck) lb) := hid' (by rw [← hlb]; exact cut_dropO (HKI.out.keep (HWB.out.trans HB010.out)) (by rw [HNK.out]; exact HCK.out.1))
                  have HIL : Hid (insL (node_ T j).kids a ((k : Int) + 1) = la ++ [(k : Int) + 1] ++ lb) := hid' (by rw [← hla, ← hlb]; rfl)
                  have hs1 : ∀ u, (Instr.slice 26 (.slice K nk ck) none (some (.int .i64 (a : Int))) none).run Try.prog u = .ok (.slice K la.length ck) u := fun u => by rw [HLA.out]; exact run_cutH 26 elem_ints size_int K nk ck a ha HCK.out.1 u
                  have hs2 : ∀ u, (Instr.slice 26 (.slice K nk ck) (some (.int .i64 (a : Int))) none none).run Try.prog u = .ok (.slice (cutO K a ck) lb.length (ck - a)) u := fun u => by rw [HLB.out]; exact run_cutL 26 elem_ints size_int K nk ck a ha u
                  have HL20 : Hid (la.length ≤ 12 ∧ lb.length ≤ 12) := hid' ⟨by rw [HLA.out]; omega, by rw [HLB.out]; omega⟩
                  have HCO : Hid (∀ u, Bel w10 u → u.cell? ⟨w1.heap.size, 0, none⟩ = some (.slice (some ⟨g, 0, none⟩) T.length c1)) := hid' (fun u hu => HOC.out _ (HB210.out.trans hu))
                  have hjt : (j : Int) < (T.length : Int) := by omega
                  have hkt : (k : Int) < (T.length : Int) := by omega
                  have hwj : IntKind.i64.wrap ((j : Int) + 1 - 1) = (j : Int) := by rw [IntWalk.i64_in _ (by omega)]; omega
                  have hwj2 : IntKind.i64.wrap (j : Int) = (j : Int) := IntWalk.i64_in _ (by omega)
                  have hj0 : (0 : Int) ≤ (j : Int) := Int.natCast_nonneg j
                  have hd0 : Bel w10 w10.drew := (Bel.refl w10).drew
                  have HW1 : Hid (w1.heap.size < w10.heap.size) := hid' (World.block_lt_of_cell? _ _ hco)
                  clear hE hla hlb hc1 hc3 hf3 hco
                  have hX1 : Bel w10 (w10.alloc (.cells #[.int .i64 ((k : Int) + 1)] 3)).drew := ((Bel.refl w10).alloc _).drew
                  have hE1 : Bel w10 (w10.alloc (.cells #[] 3)).drew := ((Bel.refl w10).alloc _).drew
                  have hEX : Bel w10 ((w10.alloc (.cells #[] 3)).alloc (.cells #[.int .i64 ((k : Int) + 1)] 3)).drew := (((Bel.refl w10).alloc _).alloc _).drew
                  have hXE : Bel w10 ((w10.alloc (.cells #[.int .i64 ((k : Int) + 1)] 3)).alloc (.cells #[] 3)).drew := (((Bel.refl w10).alloc _).alloc _).drew
                  have OL : Hid ((w10.alloc (.cells #[] 3)).ownsRow w10.heap.size 3 1 (.slice (some ⟨w10.heap.size, 0, none⟩) 0 0) 0 []) := hid' (World.ownsRow_lit (e := 3) w10 #[] 0 (Nat.le_refl _) (by unfold maxLen; omega) rfl)
                  have OE1 := hid' (own_keep OL.out ((Bel.refl _).drew))
                  have OEX := hid' (own_keep OL.out (((Bel.refl _).alloc (.cells #[.int .i64 ((k : Int) + 1)] 3)).drew))
                  have OXE : Hid (((w10.alloc (.cells #[.int .i64 ((k : Int) + 1)] 3)).alloc (.cells #[] 3)).drew.ownsRow w10.heap.size 3 1 (.slice (some ⟨w10.heap.size + 1, 0, none⟩) 0 0) 0 []) := hid' (by
                    have h0 := World.ownsRow_lit (e := 3) (size := 1) (w10.alloc (.cells #[.int .i64 ((k : Int) + 1)] 3)) #[] 0 (Nat.le_refl _) (by unfold maxLen; omega) rfl
                    have hz : (w10.alloc (.cells #[.int .i64 ((k : Int) + 1)] 3)).heap.size = w10.heap.size + 1 := by simp
                    rw [hz] at h0
                    exact own_low (own_keep h0 ((Bel.refl _).drew)) (by omega))
                  have CEX : Hid (((w10.alloc (.cells #[] 3)).alloc (.cells #[.int .i64 ((k : Int) + 1)] 3)).drew.cell? ⟨w10.heap.size + 1, 0, none⟩ = some (.int .i64 ((k : Int) + 1))) := hid' (by
                    have h0 := (new_cell1 (w10.alloc (.cells #[] 3)) (.int .i64 ((k : Int) + 1)) 3).1
                    have hz : (w10.alloc (.cells #[] 3)).heap.size = w10.heap.size + 1 := by simp
                    rw [hz] at h0
                    exact h0)
                  have CXE : Hid (((w10.alloc (.cells #[.int .i64 ((k : Int) + 1)] 3)).alloc (.cells #[] 3)).drew.cell? ⟨w10.heap.size, 0, none⟩ = some (.int .i64 ((k : Int) + 1))) := hid' (by
                    have h0 := (new_cell1 w10 (.int .i64 ((k : Int) + 1)) 3).1
                    exact ((((Bel.refl (w10.alloc (.cells #[.int .i64 ((k : Int) + 1)] 3))).alloc (.cells #[] 3)).drew).cell _ _ (by simp)).trans h0)
                  refine wp_join [69, 70, 71, 72, 73, 74, 75, 76, 77, 78, 79, 80, 81, 82, 83, 84, 85, 86] (fun _ u => Hid (∃ KS', Ed u W0.heap.size g T.length c1 (T.set j { node_ T j with kids := insL (node_ T j).kids a ((k : Int) + 1) }) KS' RS) ∧ Bel W0 u ∧ u.cell? ⟨w1.heap.size, 0, none⟩ = some (.slice (some ⟨g, 0, none⟩) T.length c1)) ?_ ?_
                  · go_region_held3 (fun u => u.cell? ⟨w1.heap.size, 0, none⟩ = some (.slice (some ⟨g, 0, none⟩) T.length c1))
                      ((with_reducible first | exact hst | exact HCO.out _ h84 | exact HCO.out _ h80 | exact HCO.out _ h79 | exact HCO.out _ h77 | exact HCO.out _ hEX | exact HCO.out _ hXE | exact HCO.out _ hE1 | exact HCO.out _ hX1 | exact HCO.out _ hd0))
                      (first
                        | (refine step_appS rfl (.tmp 73) (.tmp 76) rfl w10.heap.size _ 0 [] rfl OE1.out K ck la rfl (HIA.out.keep hE1) HK0.out (by have := HL20.out; omega) hE1.sz ?_; intro v1 u1 ho1 hg1
                           have h77 : Bel w10 u1 := hE1.own (Nat.le_refl _) OE1.out hg1
                           rw [Nat.zero_add, List.nil_append] at ho1
                           have HO1 : Hid (u1.ownsRow w10.heap.size 3 1 v1 la.length (VI la)) := hid' ho1
                           have h79 : Bel w10 (u1.alloc (.cells #[.int .i64 ((k : Int) + 1)] 3)) := h77.alloc _
                           have x79 : Hid ((u1.alloc (.cells #[.int .i64 ((k : Int) + 1)] 3)).cell? ⟨u1.heap.size, 0, none⟩ = some (.int .i64 ((k : Int) + 1))) := hid' (new_cell1 _ _ _).1
                           clear ho1 hg1)
                        | (refine step_appS rfl (.tmp 73) (.tmp 76) rfl w10.heap.size _ 0 [] rfl OEX.out K ck la rfl (HIA.out.keep hEX) HK0.out (by have := HL20.out; omega) hEX.sz ?_; intro v1 u1 ho1 hg1
                           have h77 : Bel w10 u1 := hEX.own (Nat.le_refl _) OEX.out hg1
                           rw [Nat.zero_add, List.nil_append] at ho1
                           have HO1 : Hid (u1.ownsRow w10.heap.size 3 1 v1 la.length (VI la)) := hid' ho1
                           have z79 : Hid (u1.cell? ⟨w10.heap.size + 1, 0, none⟩ = some (.int .i64 ((k : Int) + 1))) := hid' ((World.grownBy.cell_far hg1 ⟨w10.heap.size + 1, 0, none⟩ (World.block_lt_of_cell? _ _ CEX.out) (fun e => by have e2 : w10.heap.size + 1 = w10.heap.size := Option.some.inj e; omega)).trans CEX.out)
                           clear ho1 hg1)
                        | (refine step_appS rfl (.tmp 73) (.tmp 76) rfl w10.heap.size _ 0 [] rfl OXE.out K ck la rfl (HIA.out.keep hXE) HK0.out (by have := HL20.out; omega) hXE.sz ?_; intro v1 u1 ho1 hg1
                           have h77 : Bel w10 u1 := hXE.own (Nat.le_refl _) OXE.out hg1
                           rw [Nat.zero_add, List.nil_append] at ho1
                           have HO1 : Hid (u1.ownsRow w10.heap.size 3 1 v1 la.length (VI la)) := hid' ho1
                           have y79 : Hid (u1.cell? ⟨w10.heap.size, 0, none⟩ = some (.int .i64 ((k : Int) + 1))) := hid' ((World.grownBy.cell_far hg1 ⟨w10.heap.size, 0, none⟩ (World.block_lt_of_cell? _ _ CXE.out) (fun e => by have e2 : w10.heap.size = w10.heap.size + 1 := Option.some.inj e; omega)).trans CXE.out)
                           clear ho1 hg1)
                        | (refine step_appS rfl (.tmp 77) (.tmp 79) rfl w10.heap.size _ _ _ rfl (own_keep HO1.out ((Bel.refl u1).alloc _)) (some ⟨u1.heap.size, 0, none⟩) 1 [(k : Int) + 1] rfl (ints_one x79.out (by simp)) (fun h => by cases h) (by have := HL20.out; simp; omega) h79.sz ?_; intro v2 u2 ho2 hg2
                           have h80 : Bel w10 u2 := h79.own (Nat.le_refl _) (own_keep HO1.out ((Bel.refl u1).alloc _)) hg2
                           have HO2 := Lib.hid ho2
                           clear ho2 hg2)
                        | (refine step_appS rfl (.tmp 77) (.tmp 79) rfl w10.heap.size _ _ _ rfl HO1.out (some ⟨w10.heap.size, 0, none⟩) 1 [(k : Int) + 1] rfl (ints_one y79.out (World.block_lt_of_cell? _ _ y79.out)) (fun h => by cases h) (by have := HL20.out; simp; omega) h77.sz ?_; intro v2 u2 ho2 hg2
                           have h80 : Bel w10 u2 := h77.own (Nat.le_refl _) HO1.out hg2
                           have HO2 := Lib.hid ho2
                           clear ho2 hg2)
                        | (refine step_appS rfl (.tmp 77) (.tmp 79) rfl w10.heap.size _ _ _ rfl HO1.out (some ⟨w10.heap.size + 1, 0, none⟩) 1 [(k : Int) + 1] rfl (ints_one z79.out (World.block_lt_of_cell? _ _ z79.out)) (fun h => by cases h) (by have := HL20.out; simp; omega) h77.sz ?_; intro v2 u2 ho2 hg2
                           have h80 : Bel w10 u2 := h77.own (Nat.le_refl _) HO1.out hg2
                           have HO2 := Lib.hid ho2
                           clear ho2 hg2)
                        |
                          (refine step_appS rfl (.tmp 80) (.tmp 83) rfl w10.heap.size _ _ _ rfl HO2.out (cutO K a ck) (ck - a) lb rfl (HIB.out.keep h80) (cut_none HK0.out) (by have := HL20.out; simp; omega) h80.sz ?_; intro v3 u3 ho3 hg3
                           have h84 : Bel w10 u3 := h80.own (Nat.le_refl _) HO2.out hg3
                           rw [VI_app, VI_app, ← HIL.out] at ho3
                           have HO3 : Hid (u3.ownsRow w10.heap.size 3 1 v3 (insL (node_ T j).kids a ((k : Int) + 1)).length (VI (insL (node_ T j).kids a ((k : Int) + 1)))) := hid' (ins_row HIL.out ho3)
                           obtain ⟨A3, c3, rfl, -, -, -, -⟩ := own_openC HO3.out
                           obtain ⟨xk, hck3, hfk3⟩ := (HE.out.keep h84).kcell hj
                           have hJ := ins_join HE.out h84 HO3.out HB010.out.sz hj
                           have HJ := Lib.hid hJ
                           have hst : (u3.setCell ⟨g, j * 64 + 1, none⟩ (.slice A3 (insL (node_ T j).kids a ((k : Int) + 1)).length c3)).cell? ⟨w1.heap.size, 0, none⟩ = some (.slice (some ⟨g, 0, none⟩) T.length c1) := by
                             rw [World.cell?_setCell_other _ _ _ _ (by intro e; injection e with e; omega)]; exact HCO.out _ h84
                           have hBst : Bel W0 (u3.setCell ⟨g, j * 64 + 1, none⟩ (.slice A3 (insL (node_ T j).kids a ((k : Int) + 1)).length c3)) := (HB010.out.trans h84).setCell hgl.1 _
                           clear ho3 hg3 hJ)
                        )
                    all_goals exact join_here (by kernel_rfl) ⟨HJ, hBst, hst⟩
                  rintro y w11 ⟨HE1, hB11, hco11⟩
                  obtain ⟨KS', hE1'⟩ := HE1.out
                  replace HE1 := Lib.hid hE1'
                  clear hE1' hd0 hX1 hE1 hEX hXE hs1 hs2
                  simp only [setAll, List.foldl_cons, List.foldl_nil, List.setIfInBounds_toArray, List.set_cons_zero, List.set_cons_succ]
                  go_wp2_with (first
                    | ((with_reducible show wpList _ _ _ (Oper.mk _ (Op.store _ _ _) _ _ _ _ :: _) _ _); refine HE1.out.storeUp (j := k) (by rw [List.length_set]; exact hk) rfl _ _ rfl rfl rfl ?_; intro w12 H12
                       have HB12 := hid' (hB11.grown H12.out.2 (fun q e => by injection e with e; omega))
                       have hc1 := HK1.out _ HB12.out
                       have hc3 := (HK3.out _ HB12.out).1
                       have hf3 := (HK3.out _ HB12.out).2
                       have hco12 : w12.cell? ⟨w1.heap.size, 0, none⟩ = some (.slice (some ⟨g, 0, none⟩) T.length c1) := (World.grownBy.cell_far H12.out.2 ⟨w1.heap.size, 0, none⟩ (World.block_lt_of_cell? _ _ hco11) (fun e => by injection e with e; have h1 : w1.heap.size = g := e; omega)).trans hco11
                       have HT12 : Hid (TreeAt w12 W0.heap.size (.slice (some ⟨g, 0, none⟩) T.length c1) (insT T j k a)) := hid' H12.out.1.tree
                       have HCO12 : Hid (∀ u, Bel w12 u → u.cell? ⟨w1.heap.size, 0, none⟩ = some (.slice (some ⟨g, 0, none⟩) T.length c1)) := hid' (fun u hu => (hu.cell _ _ (World.block_lt_of_cell? _ _ hco12)).trans hco12)))
                  have hnk : (a : Int) ≤ (nk : Int) := by omega
                  have HDN : Hid (insertKidT T ((j : Int) + 1) ((k : Int) + 1) (a : Int) = if depthsOk (insT T j k a) = true then (insT T j k a, 0) else (T, 7)) := hid' (by simp [insertKidT, HTO.out, HNN.out, HKK.out, HUN.out, hbi.out, HUP.out, HUP0.out, HND.out, HNK.out, HIN.out, HMS.out])
                  have HIL2 : Hid ((insT T j k a).length = T.length) := hid' (insT_length T j k a)
                  clear hco11
                  have hD := sTreeOk_c (some ⟨g, 0, none⟩) c1 (insT T j k a) w12 HT12.out.nodesC.nodes (by rw [HIL2.out]; exact hT) (fun i hi => by
                    have := insT_small (a := a) HTO.out hj hk (fun e => HJK.out e.symm) (by rw [HNK.out]; omega) i hi
                    omega)
                  rw [HIL2.out, insT_ok HTO.out hj hk (fun e => HJK.out e.symm) HUN.out HUP0.out HMS.out] at hD
                  refine hD.mono ?_; rintro e w13 ⟨rfl, hb⟩
                  clear hD hc1 hc3 hf3 hco12
                  have hco := HCO12.out _ hb
                  have hc1 := HK1.out _ (HB12.out.trans hb)
                  have hc3 := (HK3.out _ (HB12.out.trans hb)).1
                  have hf3 := (HK3.out _ (HB12.out.trans hb)).2
                  cases hdo : depthsOk (insT T j k a)
                  · have HR : Hid (insertKidT T ((j : Int) + 1) ((k : Int) + 1) (a : Int) = (T, 7)) := hid' (by rw [HDN.out, hdo]; rfl)
                    clear hdo
                    go_wp2_with fail
                    refine (sCopyTree_c _ _ _ _ (h.1.keep (HWB.out.trans (HB12.out.trans hb))) HN.out).mono ?_; rintro e w14 ⟨A14, c14, rfl, ht14, hb14⟩
                    have HT14 := hid' (ht14.base (HB12.out.trans hb).sz)
                    have HB14 := hid' ((HB12.out.trans hb).trans hb14)
                    have hc3'' := (HK3.out _ HB14.out).1
                    have hf3'' := (HK3.out _ HB14.out).2
                    clear ht14 hco hc1 hc3 hf3
                    go_wp2_with fail
                    refine bodyPost_ret (v := .tuple #[.agg #[.slice A14 T.length c14], .int .i64 7]) (by simp [results, Try.results33, go_sem, *]) rfl ⟨_, _, by (rw [HR.out]; try (first | rfl | (rw [← HLS.out]))), ?_, ?_⟩
                    · rw [HR.out]
                      exact (TreeAt.far HT14.out (grown_set _ _ _) (by rw [HS.out]; omega)).base (by rw [HS.out]; omega)
                    · exact (HWB.out.trans HB14.out).setCell (show w.heap.size ≤ w.heap.size + 1 by omega) _
                  · have HR : Hid (insertKidT T ((j : Int) + 1) ((k : Int) + 1) (a : Int) = (insT T j k a, 0)) := hid' (by rw [HDN.out, hdo]; rfl)
                    clear hdo
                    have HLS : Hid (T.length = (insT T j k a).length) := hid' HIL2.out.symm
                    have HTW : Hid (TreeAt w13 W0.heap.size (.slice (some ⟨g, 0, none⟩) (insT T j k a).length c1) (insT T j k a)) := hid' (by rw [HIL2.out]; exact HT12.out.keep hb)
                    go_wp2_with fail
                    refine bodyPost_ret (v := .tuple #[.agg #[.slice (some ⟨g, 0, none⟩) T.length c1], .int .i64 0]) (by simp [results, Try.results33, go_sem, *]) rfl ⟨_, _, by (rw [HR.out]; try (first | rfl | (rw [← HLS.out]))), ?_, ?_⟩
                    · rw [HR.out]
                      exact (TreeAt.far HTW.out (grown_set _ _ _) (by rw [HS.out]; omega)).base (by rw [HS.out]; omega)
                    · exact (HWB.out.trans (HB12.out.trans hb)).setCell (show w.heap.size ≤ w.heap.size + 1 by omega) _
                · have HR : Hid (insertKidT T ((j : Int) + 1) ((k : Int) + 1) (a : Int) = (T, 6)) := hid' (by simp [insertKidT, HTO.out, HNN.out, HKK.out, HUN.out, hbi.out, HUP.out, HUP0.out, HND.out, HNK.out, HIN.out, hms])
                  rw [hms] at hfu
                  clear hms
                  go_wp2_with fail
                  refine bodyPost_ret (v := .tuple #[.agg #[.slice A1 T.length c1], .int .i64 6]) (by simp [results, Try.results33, go_sem, *]) rfl ⟨_, _, by (rw [HR.out]; try (first | rfl | (rw [← HLS.out]))), ?_, ?_⟩
                  · rw [HR.out]
                    exact (TreeAt.far HT9.out (grown_set _ _ _) (by rw [HS.out]; omega)).base (by rw [HS.out]; omega)
                  · exact (HWB.out.trans HB09.out).setCell (show w.heap.size ≤ w.heap.size + 1 by omega) _
            · have hne0 : ((node_ T k).up != 0) = true := by simp [hup]
              have HR : Hid (insertKidT T ((j : Int) + 1) ((k : Int) + 1) p = (T, 3)) := hid' (by simp [insertKidT, HTO.out, HNN.out, HKK.out, HUN.out, hbi.out, HUP.out, hup])
              clear hup
              go_wp2_with fail
              refine bodyPost_ret (v := .tuple #[.agg #[.slice A1 T.length c1], .int .i64 3]) (by simp [results, Try.results33, go_sem, *]) rfl ⟨_, _, by (rw [HR.out]; try (first | rfl | (rw [← HLS.out]))), ?_, ?_⟩
              · rw [HR.out]
                exact (TreeAt.far HT7.out (grown_set _ _ _) (by rw [HS.out]; omega)).base (by rw [HS.out]; omega)
              · exact (HWB.out.trans HB07.out).setCell (show w.heap.size ≤ w.heap.size + 1 by omega) _
          · have HR : Hid (insertKidT T ((j : Int) + 1) ((k : Int) + 1) p = (T, 2)) := hid' (by simp [insertKidT, HTO.out, HNN.out, HKK.out, hun])
            clear hun
            go_wp2_with fail
            refine bodyPost_ret (v := .tuple #[.agg #[.slice A1 T.length c1], .int .i64 2]) (by simp [results, Try.results33, go_sem, *]) rfl ⟨_, _, by (rw [HR.out]; try (first | rfl | (rw [← HLS.out]))), ?_, ?_⟩
            · rw [HR.out]
              exact (TreeAt.far HT6.out (grown_set _ _ _) (by rw [HS.out]; omega)).base (by rw [HS.out]; omega)
            · exact (HWB.out.trans HB06.out).setCell (show w.heap.size ≤ w.heap.size + 1 by omega) _
end Go.Proofs.Ytcdneamoemmohaa
