/- SetStyle, both sides. -/
import Derived.Test.YtcdneamoemmohaaEdit
namespace Go.Proofs.Ytcdneamoemmohaa
open Go.RowKit Go.ChangeShapes Go.WideShapes
set_option linter.unusedVariables false
set_option linter.unusedSimpArgs false

def setStyleT (T : List NodeD) (n : Int) (s : Rec) : List NodeD × Int :=
  if treeOk T = true ∧ isNodeB T n = true then (if styleOk s = true then (T.set (n - 1).toNat { nd T n with style := s }, 0) else (T, 4)) else (T, 1)
theorem Ed.of_tree {w : World} {base c : Nat} {A : Option Addr} {T : List NodeD} (h : TreeAt w base (.slice A T.length c) T) (hp : 0 < T.length) : ∃ g KS RS, A = some ⟨g, 0, none⟩ ∧ Ed w base g T.length c T KS RS := by
  obtain ⟨KS, RS, h1, h2, hF⟩ := h
  have h0 : w.ownsRow base 77 64 (.slice A T.length c) T.length (nodesL KS RS T) := hF.1 ⟨77, 64, .slice A T.length c, T.length, nodesL KS RS T⟩ (by simp [treeF])
  rcases h0.2 with ⟨_, e⟩ | ⟨g, cap, cur, e, _⟩
  · omega
  · cases e
    exact ⟨g, KS, RS, rfl, h1, h2, hF⟩
theorem Ed.storeStyle {w : World} {ops : Array Oper} {rest : List Oper} {op : Oper} {a : Act} {Q : Exit → Act → World → Prop} {base g n c j : Nat} {T : List NodeD} {KS RS : List Value} (E : Ed w base g n c T KS RS) (hj : j < T.length) (hgd : op.guard = none) (x y : Operand) (ho : op.op = .store 68 x y)
    (hx : a.eval x = .pointer (some ⟨g, j * 64 + 2, none⟩)) (s : Rec) (hy : a.eval y = styleV s)
    (h : ∀ w', Hid (Ed w' base g n c (T.set j { node_ T j with style := s }) KS RS ∧ w.grownBy w' (some g)) → wpList Try.prog ops Q rest (a.put op.dst undef) w') : wpList Try.prog ops Q (op :: rest) a w := by
  have hl := styleL_length s
  refine wpList_store_any hgd 68 x y ho g (j * 64 + 2) (styleV s) hx hy (by have := E.there (o := j * 64 + 2) (m := 60) (by omega); simpa [styleV, Value.cells, hl] using this) (by simp only [styleV, Value.cells, List.size_toArray, hl]; kernel_rfl) (by simp only [styleV, Value.cells, List.toList_toArray]; exact rcells_one _ _) (h _ (hid' ?_))
  have h1 := E.run (off := 2) (vs := styleL s) hj { node_ T j with style := s } (by omega) (fun K R => nodeL_setStyle _ _ _ _) rfl rfl
  have h2 := setCells_gb g (styleL s) (j * 64 + 2) w
  simp only [styleV, Value.cells, List.toList_toArray]
  exact ⟨h1, h2⟩
theorem new_cell1 (w : World) (v : Value) (t : TypeId) : (w.alloc (.cells #[v] t)).cell? ⟨w.heap.size, 0, none⟩ = some v ∧ (w.alloc (.cells #[v] t)).frozen? ⟨w.heap.size, 0, none⟩ = false := by
  constructor <;> simp
set_option maxRecDepth 100000 in
set_option maxHeartbeats 4000000 in
theorem iSetStyle_c (A : Option Addr) (c : Nat) (T : List NodeD) (n : Int) (s : Rec) (w : World) (h : NodesC w A T) (hn : treeSz T ≤ 1048576) :
    Calls Try.prog 39 #[treeV A T.length c, .int .i64 n, styleV s] w fun e w' => ∃ A' c', e = .returned (.tuple #[treeV A' (setStyleT T n s).1.length c', .int .i64 (setStyleT T n s).2]) ∧ TreeAt w' w.heap.size (.slice A' (setStyleT T n s).1.length c') (setStyleT T n s).1 ∧ Bel w w' := by
  have hT := len_of hn
  have HKR := hid' (kr_of hn)
  have HN := Lib.hid hn
  clear hn
  have hl60 := styleL_length s
  obtain ⟨W0, hW0⟩ : ∃ W0, W0 = ((w.alloc (.cells #[.slice A T.length c] 30)).alloc (.cells (styleL s).toArray 68)).alloc (.cells #[.slice none 0 0] 30) := ⟨_, rfl⟩
  have HWB : Hid (Bel w W0) := hid' (by rw [hW0]; exact (((Bel.refl w).alloc _).alloc _).alloc _)
  have HS : Hid (W0.heap.size = w.heap.size + 1 + 1 + 1) := hid' (by rw [hW0]; simp)
  have HK1 : Hid (∀ u, Bel W0 u → u.cell? ⟨w.heap.size, 0, none⟩ = some (.slice A T.length c)) := hid' (fun u hu => by
    have hb : Bel (w.alloc (.cells #[.slice A T.length c] 30)) W0 := by rw [hW0]; exact ((Bel.refl _).alloc _).alloc _
    exact ((hb.trans hu).cell _ _ (by simp)).trans (by simp))
  have HK2 : Hid (∀ u, Bel W0 u → u.rangeAt (w.heap.size + 1) 0 (styleL s)) := hid' (fun u hu q v hq => by
    have hq60 := lt_of_get hq
    have hb : Bel (w.alloc (.cells #[.slice A T.length c] 30)) W0 := by rw [hW0]; exact ((Bel.refl _).alloc _).alloc _
    have hb1 : Bel ((w.alloc (.cells #[.slice A T.length c] 30)).alloc (.cells (styleL s).toArray 68)) u := by
      have : Bel ((w.alloc (.cells #[.slice A T.length c] 30)).alloc (.cells (styleL s).toArray 68)) W0 := by rw [hW0]; exact (Bel.refl _).alloc _
      exact this.trans hu
    have hz : (w.alloc (.cells #[.slice A T.length c] 30)).heap.size = w.heap.size + 1 := by simp
    rw [hb1.cell _ _ (by simp), Nat.zero_add, ← hz]
    exact new_cells _ _ _ q v hq)
  have HK3 : Hid (∀ u, Bel W0 u → u.cell? ⟨w.heap.size + 1 + 1, 0, none⟩ = some (.slice none 0 0) ∧ u.frozen? ⟨w.heap.size + 1 + 1, 0, none⟩ = false) := hid' (fun u hu => by
    have hz : ((w.alloc (.cells #[.slice A T.length c] 30)).alloc (.cells (styleL s).toArray 68)).heap.size = w.heap.size + 1 + 1 := by simp
    rw [hW0] at hu
    rw [← hz]
    exact ⟨(hu.cell _ _ (by simp)).trans (new_cell1 _ _ _).1, (hu.frozen _ _ (by simp)).trans (new_cell1 _ _ _).2⟩)
  go_enter Try.func39, Try.ntmps39
  unfold styleV
  go_wp2_with fail
  rw [← hW0]
  clear hW0
  refine (iCopyTree_c _ _ _ _ (h.keep HWB.out) HN.out).mono ?_; rintro e w1 ⟨A1, c1, rfl, ht1, hb1⟩
  have HT1 := Lib.hid ht1
  clear ht1
  have hcA := HK1.out _ (hb1.alloc (.cells #[.slice A1 T.length c1] 30))
  have hlb1 : w.heap.size + 1 + 1 < w1.heap.size := by have := hb1.sz; rw [HS.out] at this; omega
  have HB1 := Lib.hid hb1
  go_wp2_with fail
  obtain ⟨w2, hw2⟩ : ∃ w2, w2 = w1.alloc (.cells #[.slice A1 T.length c1] 30) := ⟨_, rfl⟩
  rw [← hw2] at hcA ⊢
  have HOC : Hid (∀ u, Bel w2 u → u.cell? ⟨w1.heap.size, 0, none⟩ = some (.slice A1 T.length c1)) := hid' (fun u hu => by rw [hu.cell _ _ (by rw [hw2]; simp), hw2]; simp)
  have HB2 : Hid (Bel w1 w2) := hid' (by rw [hw2]; exact (Bel.refl w1).alloc _)
  clear hw2 hcA hb1
  have HB02 := hid' (HB1.out.trans HB2.out)
  refine (iTreeOk_c _ _ _ _ (h.nodes.keep (HWB.out.trans HB02.out)) hT HKR.out).mono ?_; rintro e w3 ⟨rfl, hb3⟩
  have HB03 := hid' (HB02.out.trans hb3)
  have hc1 := HK1.out _ HB03.out
  have hc3 := (HK3.out _ HB03.out).1
  have hf3 := (HK3.out _ HB03.out).2
  have hco := HOC.out _ hb3
  have HT3 := hid' (HT1.out.keep (HB2.out.trans hb3))
  cases ht : treeOk T
  · have HR : Hid (setStyleT T n s = (T, 1)) := hid' (by simp [setStyleT, ht])
    go_wp2_with fail
    refine bodyPost_ret (v := .tuple #[.agg #[.slice A1 T.length c1], .int .i64 1]) (by simp [results, Try.results39, go_sem, *]) rfl ⟨_, _, by (rw [HR.out]; try (first | rfl | (rw [← HLS.out]))), ?_, ?_⟩
    · rw [HR.out]
      exact (TreeAt.far HT3.out (grown_set _ _ _) (by rw [HS.out]; omega)).base (by rw [HS.out]; omega)
    · exact (HWB.out.trans HB03.out).setCell (show w.heap.size ≤ w.heap.size + 1 + 1 by omega) _
  · have HTO := Lib.hid ht
    clear ht
    go_wp2_with fail
    refine (iIsNode_c _ _ _ _ _).mono ?_; rintro e w4 ⟨rfl, hb4⟩
    have HB04 := hid' (HB03.out.trans hb4)
    have HB24 := hid' (hb3.trans hb4)
    clear hc1 hc3 hf3 hco
    have hc1 := HK1.out _ HB04.out
    have hc3 := (HK3.out _ HB04.out).1
    have hf3 := (HK3.out _ HB04.out).2
    have hco := HOC.out _ HB24.out
    have HT4 := hid' (HT3.out.keep hb4)
    cases hnn : isNodeB T n
    · have HR : Hid (setStyleT T n s = (T, 1)) := hid' (by simp [setStyleT, hnn])
      go_wp2_with fail
      refine bodyPost_ret (v := .tuple #[.agg #[.slice A1 T.length c1], .int .i64 1]) (by simp [results, Try.results39, go_sem, *]) rfl ⟨_, _, by (rw [HR.out]; try (first | rfl | (rw [← HLS.out]))), ?_, ?_⟩
      · rw [HR.out]
        exact (TreeAt.far HT4.out (grown_set _ _ _) (by rw [HS.out]; omega)).base (by rw [HS.out]; omega)
      · exact (HWB.out.trans HB04.out).setCell (show w.heap.size ≤ w.heap.size + 1 + 1 by omega) _
    · obtain ⟨j, rfl, hj⟩ := isNode_split hnn
      have HSR := HK2.out _ HB04.out
      go_wp2_with ((with_reducible show wpList _ _ _ (Oper.mk _ (Op.load _ _) _ _ _ _ :: _) _ _); refine wpList_load_mid rfl 68 _ rfl (w.heap.size + 1) 0 rfl (styleL s) _ HSR Try.underlying68 rfl (by rw [hl60]; kernel_rfl) ?_)
      refine (iStyleOk_c s _).mono ?_; rintro e w5 ⟨rfl, hb5⟩
      have HB05 := hid' (HB04.out.trans hb5)
      have HB25 := hid' (HB24.out.trans hb5)
      clear hc1 hc3 hf3 hco HSR
      have hc3 := (HK3.out _ HB05.out).1
      have hf3 := (HK3.out _ HB05.out).2
      have hco := HOC.out _ HB25.out
      have HT5 := hid' (HT4.out.keep hb5)
      cases hs : styleOk s
      · have HR : Hid (setStyleT T ((j : Int) + 1) s = (T, 4)) := hid' (by simp [setStyleT, hnn, HTO.out, hs])
        clear hnn
        go_wp2_with fail
        refine bodyPost_ret (v := .tuple #[.agg #[.slice A1 T.length c1], .int .i64 4]) (by simp [results, Try.results39, go_sem, *]) rfl ⟨_, _, by (rw [HR.out]; try (first | rfl | (rw [← HLS.out]))), ?_, ?_⟩
        · rw [HR.out]
          exact (TreeAt.far HT5.out (grown_set _ _ _) (by rw [HS.out]; omega)).base (by rw [HS.out]; omega)
        · exact (HWB.out.trans HB05.out).setCell (show w.heap.size ≤ w.heap.size + 1 + 1 by omega) _
      · have HR : Hid (setStyleT T ((j : Int) + 1) s = (T.set j { node_ T j with style := s }, 0)) := hid' (by simp [setStyleT, hnn, HTO.out, hs, nd_eq])
        clear hnn
        have HSR := HK2.out _ HB05.out
        obtain ⟨g, KS, RS, rfl, hE⟩ := Ed.of_tree HT5.out (by omega)
        have hgl := (Ed.of_tree HT1.out (by omega)).elim fun g' h => h.elim fun KS' h => h.elim fun RS' h => (by have e := h.1; injection e with e; injection e with e; rw [e]; exact h.2.lo : W0.heap.size ≤ g ∧ g < w1.heap.size)
        have HE := Lib.hid hE
        have hjt : (j : Int) < (T.length : Int) := by omega
        clear hE
        go_wp2_with (first
          | ((with_reducible show wpList _ _ _ (Oper.mk _ (Op.load _ _) _ _ _ _ :: _) _ _); refine wpList_load_mid rfl 68 _ rfl (w.heap.size + 1) 0 rfl (styleL s) _ HSR Try.underlying68 rfl (by rw [hl60]; kernel_rfl) ?_)
          | ((with_reducible show wpList _ _ _ (Oper.mk _ (Op.store _ _ _) _ _ _ _ :: _) _ _); refine HE.out.storeStyle hj rfl _ _ rfl rfl s rfl ?_; intro w6 H6
             have HB06 := hid' (HB05.out.grown H6.out.2 (fun q e => by injection e with e; omega))
             have hc6 := (HK3.out _ HB06.out).1
             have hf6 := (HK3.out _ HB06.out).2
             have hco6 : w6.cell? ⟨w1.heap.size, 0, none⟩ = some (.slice (some ⟨g, 0, none⟩) T.length c1) := (World.grownBy.cell_far H6.out.2 ⟨w1.heap.size, 0, none⟩ (World.block_lt_of_cell? _ _ hco) (fun e => by injection e with e; have h1 : w1.heap.size = g := e; omega)).trans hco
             clear hc3 hf3))
        have HT6 : Hid (TreeAt w6 W0.heap.size (.slice (some ⟨g, 0, none⟩) (T.set j { node_ T j with style := s }).length c1) (T.set j { node_ T j with style := s })) := hid' (by rw [List.length_set]; exact H6.out.1.tree)
        have HLS : Hid (T.length = (T.set j { node_ T j with style := s }).length) := hid' (by simp)
        refine bodyPost_ret (v := .tuple #[.agg #[.slice (some ⟨g, 0, none⟩) T.length c1], .int .i64 0]) (by simp [results, Try.results39, go_sem, *]) rfl ⟨_, _, by (rw [HR.out]; try (first | rfl | (rw [← HLS.out]))), ?_, ?_⟩
        · rw [HR.out]
          exact (TreeAt.far HT6.out (grown_set _ _ _) (by rw [HS.out]; omega)).base (by rw [HS.out]; omega)
        · exact (HWB.out.trans HB06.out).setCell (show w.heap.size ≤ w.heap.size + 1 + 1 by omega) _
set_option maxRecDepth 100000 in
set_option maxHeartbeats 4000000 in
theorem sSetStyle_c (A : Option Addr) (c : Nat) (T : List NodeD) (n : Int) (s : Rec) (w : World) (h : NodesC w A T) (hn : treeSz T ≤ 1048576) :
    Calls Try.prog 38 #[treeV A T.length c, .int .i64 n, styleV s] w fun e w' => ∃ A' c', e = .returned (.tuple #[treeV A' (setStyleT T n s).1.length c', .int .i64 (setStyleT T n s).2]) ∧ TreeAt w' w.heap.size (.slice A' (setStyleT T n s).1.length c') (setStyleT T n s).1 ∧ Bel w w' := by
  have hT := len_of hn
  have HKR := hid' (kr_of hn)
  have HN := Lib.hid hn
  clear hn
  have hl60 := styleL_length s
  obtain ⟨W0, hW0⟩ : ∃ W0, W0 = ((w.alloc (.cells #[.slice A T.length c] 30)).alloc (.cells (styleL s).toArray 68)).alloc (.cells #[.slice none 0 0] 30) := ⟨_, rfl⟩
  have HWB : Hid (Bel w W0) := hid' (by rw [hW0]; exact (((Bel.refl w).alloc _).alloc _).alloc _)
  have HS : Hid (W0.heap.size = w.heap.size + 1 + 1 + 1) := hid' (by rw [hW0]; simp)
  have HK1 : Hid (∀ u, Bel W0 u → u.cell? ⟨w.heap.size, 0, none⟩ = some (.slice A T.length c)) := hid' (fun u hu => by
    have hb : Bel (w.alloc (.cells #[.slice A T.length c] 30)) W0 := by rw [hW0]; exact ((Bel.refl _).alloc _).alloc _
    exact ((hb.trans hu).cell _ _ (by simp)).trans (by simp))
  have HK2 : Hid (∀ u, Bel W0 u → u.rangeAt (w.heap.size + 1) 0 (styleL s)) := hid' (fun u hu q v hq => by
    have hq60 := lt_of_get hq
    have hb : Bel (w.alloc (.cells #[.slice A T.length c] 30)) W0 := by rw [hW0]; exact ((Bel.refl _).alloc _).alloc _
    have hb1 : Bel ((w.alloc (.cells #[.slice A T.length c] 30)).alloc (.cells (styleL s).toArray 68)) u := by
      have : Bel ((w.alloc (.cells #[.slice A T.length c] 30)).alloc (.cells (styleL s).toArray 68)) W0 := by rw [hW0]; exact (Bel.refl _).alloc _
      exact this.trans hu
    have hz : (w.alloc (.cells #[.slice A T.length c] 30)).heap.size = w.heap.size + 1 := by simp
    rw [hb1.cell _ _ (by simp), Nat.zero_add, ← hz]
    exact new_cells _ _ _ q v hq)
  have HK3 : Hid (∀ u, Bel W0 u → u.cell? ⟨w.heap.size + 1 + 1, 0, none⟩ = some (.slice none 0 0) ∧ u.frozen? ⟨w.heap.size + 1 + 1, 0, none⟩ = false) := hid' (fun u hu => by
    have hz : ((w.alloc (.cells #[.slice A T.length c] 30)).alloc (.cells (styleL s).toArray 68)).heap.size = w.heap.size + 1 + 1 := by simp
    rw [hW0] at hu
    rw [← hz]
    exact ⟨(hu.cell _ _ (by simp)).trans (new_cell1 _ _ _).1, (hu.frozen _ _ (by simp)).trans (new_cell1 _ _ _).2⟩)
  go_enter Try.func38, Try.ntmps38
  unfold styleV
  go_wp2_with fail
  rw [← hW0]
  clear hW0
  refine (sCopyTree_c _ _ _ _ (h.keep HWB.out) HN.out).mono ?_; rintro e w1 ⟨A1, c1, rfl, ht1, hb1⟩
  have HT1 := Lib.hid ht1
  clear ht1
  have hcA := HK1.out _ (hb1.alloc (.cells #[.slice A1 T.length c1] 30))
  have hlb1 : w.heap.size + 1 + 1 < w1.heap.size := by have := hb1.sz; rw [HS.out] at this; omega
  have HB1 := Lib.hid hb1
  go_wp2_with fail
  obtain ⟨w2, hw2⟩ : ∃ w2, w2 = w1.alloc (.cells #[.slice A1 T.length c1] 30) := ⟨_, rfl⟩
  rw [← hw2] at hcA ⊢
  have HOC : Hid (∀ u, Bel w2 u → u.cell? ⟨w1.heap.size, 0, none⟩ = some (.slice A1 T.length c1)) := hid' (fun u hu => by rw [hu.cell _ _ (by rw [hw2]; simp), hw2]; simp)
  have HB2 : Hid (Bel w1 w2) := hid' (by rw [hw2]; exact (Bel.refl w1).alloc _)
  clear hw2 hcA hb1
  have HB02 := hid' (HB1.out.trans HB2.out)
  refine (sTreeOk_c _ _ _ _ (h.nodes.keep (HWB.out.trans HB02.out)) hT HKR.out).mono ?_; rintro e w3 ⟨rfl, hb3⟩
  have HB03 := hid' (HB02.out.trans hb3)
  have hc1 := HK1.out _ HB03.out
  have hc3 := (HK3.out _ HB03.out).1
  have hf3 := (HK3.out _ HB03.out).2
  have hco := HOC.out _ hb3
  have HT3 := hid' (HT1.out.keep (HB2.out.trans hb3))
  cases ht : treeOk T
  · have HR : Hid (setStyleT T n s = (T, 1)) := hid' (by simp [setStyleT, ht])
    go_wp2_with fail
    refine bodyPost_ret (v := .tuple #[.agg #[.slice A1 T.length c1], .int .i64 1]) (by simp [results, Try.results38, go_sem, *]) rfl ⟨_, _, by (rw [HR.out]; try (first | rfl | (rw [← HLS.out]))), ?_, ?_⟩
    · rw [HR.out]
      exact (TreeAt.far HT3.out (grown_set _ _ _) (by rw [HS.out]; omega)).base (by rw [HS.out]; omega)
    · exact (HWB.out.trans HB03.out).setCell (show w.heap.size ≤ w.heap.size + 1 + 1 by omega) _
  · have HTO := Lib.hid ht
    clear ht
    go_wp2_with fail
    refine (sIsNode_c _ _ _ _ _).mono ?_; rintro e w4 ⟨rfl, hb4⟩
    have HB04 := hid' (HB03.out.trans hb4)
    have HB24 := hid' (hb3.trans hb4)
    clear hc1 hc3 hf3 hco
    have hc1 := HK1.out _ HB04.out
    have hc3 := (HK3.out _ HB04.out).1
    have hf3 := (HK3.out _ HB04.out).2
    have hco := HOC.out _ HB24.out
    have HT4 := hid' (HT3.out.keep hb4)
    cases hnn : isNodeB T n
    · have HR : Hid (setStyleT T n s = (T, 1)) := hid' (by simp [setStyleT, hnn])
      go_wp2_with fail
      refine bodyPost_ret (v := .tuple #[.agg #[.slice A1 T.length c1], .int .i64 1]) (by simp [results, Try.results38, go_sem, *]) rfl ⟨_, _, by (rw [HR.out]; try (first | rfl | (rw [← HLS.out]))), ?_, ?_⟩
      · rw [HR.out]
        exact (TreeAt.far HT4.out (grown_set _ _ _) (by rw [HS.out]; omega)).base (by rw [HS.out]; omega)
      · exact (HWB.out.trans HB04.out).setCell (show w.heap.size ≤ w.heap.size + 1 + 1 by omega) _
    · obtain ⟨j, rfl, hj⟩ := isNode_split hnn
      have HSR := HK2.out _ HB04.out
      go_wp2_with ((with_reducible show wpList _ _ _ (Oper.mk _ (Op.load _ _) _ _ _ _ :: _) _ _); refine wpList_load_mid rfl 68 _ rfl (w.heap.size + 1) 0 rfl (styleL s) _ HSR Try.underlying68 rfl (by rw [hl60]; kernel_rfl) ?_)
      refine (sStyleOk_c s _).mono ?_; rintro e w5 ⟨rfl, hb5⟩
      have HB05 := hid' (HB04.out.trans hb5)
      have HB25 := hid' (HB24.out.trans hb5)
      clear hc1 hc3 hf3 hco HSR
      have hc3 := (HK3.out _ HB05.out).1
      have hf3 := (HK3.out _ HB05.out).2
      have hco := HOC.out _ HB25.out
      have HT5 := hid' (HT4.out.keep hb5)
      cases hs : styleOk s
      · have HR : Hid (setStyleT T ((j : Int) + 1) s = (T, 4)) := hid' (by simp [setStyleT, hnn, HTO.out, hs])
        clear hnn
        go_wp2_with fail
        refine bodyPost_ret (v := .tuple #[.agg #[.slice A1 T.length c1], .int .i64 4]) (by simp [results, Try.results38, go_sem, *]) rfl ⟨_, _, by (rw [HR.out]; try (first | rfl | (rw [← HLS.out]))), ?_, ?_⟩
        · rw [HR.out]
          exact (TreeAt.far HT5.out (grown_set _ _ _) (by rw [HS.out]; omega)).base (by rw [HS.out]; omega)
        · exact (HWB.out.trans HB05.out).setCell (show w.heap.size ≤ w.heap.size + 1 + 1 by omega) _
      · have HR : Hid (setStyleT T ((j : Int) + 1) s = (T.set j { node_ T j with style := s }, 0)) := hid' (by simp [setStyleT, hnn, HTO.out, hs, nd_eq])
        clear hnn
        have HSR := HK2.out _ HB05.out
        obtain ⟨g, KS, RS, rfl, hE⟩ := Ed.of_tree HT5.out (by omega)
        have hgl := (Ed.of_tree HT1.out (by omega)).elim fun g' h => h.elim fun KS' h => h.elim fun RS' h => (by have e := h.1; injection e with e; injection e with e; rw [e]; exact h.2.lo : W0.heap.size ≤ g ∧ g < w1.heap.size)
        have HE := Lib.hid hE
        have hjt : (j : Int) < (T.length : Int) := by omega
        clear hE
        go_wp2_with (first
          | ((with_reducible show wpList _ _ _ (Oper.mk _ (Op.load _ _) _ _ _ _ :: _) _ _); refine wpList_load_mid rfl 68 _ rfl (w.heap.size + 1) 0 rfl (styleL s) _ HSR Try.underlying68 rfl (by rw [hl60]; kernel_rfl) ?_)
          | ((with_reducible show wpList _ _ _ (Oper.mk _ (Op.store _ _ _) _ _ _ _ :: _) _ _); refine HE.out.storeStyle hj rfl _ _ rfl rfl s rfl ?_; intro w6 H6
             have HB06 := hid' (HB05.out.grown H6.out.2 (fun q e => by injection e with e; omega))
             have hc6 := (HK3.out _ HB06.out).1
             have hf6 := (HK3.out _ HB06.out).2
             have hco6 : w6.cell? ⟨w1.heap.size, 0, none⟩ = some (.slice (some ⟨g, 0, none⟩) T.length c1) := (World.grownBy.cell_far H6.out.2 ⟨w1.heap.size, 0, none⟩ (World.block_lt_of_cell? _ _ hco) (fun e => by injection e with e; have h1 : w1.heap.size = g := e; omega)).trans hco
             clear hc3 hf3))
        have HT6 : Hid (TreeAt w6 W0.heap.size (.slice (some ⟨g, 0, none⟩) (T.set j { node_ T j with style := s }).length c1) (T.set j { node_ T j with style := s })) := hid' (by rw [List.length_set]; exact H6.out.1.tree)
        have HLS : Hid (T.length = (T.set j { node_ T j with style := s }).length) := hid' (by simp)
        refine bodyPost_ret (v := .tuple #[.agg #[.slice (some ⟨g, 0, none⟩) T.length c1], .int .i64 0]) (by simp [results, Try.results38, go_sem, *]) rfl ⟨_, _, by (rw [HR.out]; try (first | rfl | (rw [← HLS.out]))), ?_, ?_⟩
        · rw [HR.out]
          exact (TreeAt.far HT6.out (grown_set _ _ _) (by rw [HS.out]; omega)).base (by rw [HS.out]; omega)
        · exact (HWB.out.trans HB06.out).setCell (show w.heap.size ≤ w.heap.size + 1 + 1 by omega) _
end Go.Proofs.Ytcdneamoemmohaa
