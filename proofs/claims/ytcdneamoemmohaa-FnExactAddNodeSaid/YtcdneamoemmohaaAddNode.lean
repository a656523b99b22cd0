/- The law FnExactAddNode returns true for every argument, and leaves its arguments as they were. No condition. -/
import Derived.Test.YtcdneamoemmohaaAddLaw
import Derived.OpenShut
import Derived.Deep.RegionWith
import Derived.Deep.RegionHeld3
namespace Go.Proofs.Ytcdneamoemmohaa
open Go.ChangeShapes Go.WideShapes Go.ChangeAt Go.RowKit
set_option linter.unusedVariables false
set_option linter.unusedSimpArgs false

theorem own : ownKnob Try.prog.godebug = none := by kernel_rfl
theorem laidOut : laidOutB Try.prog = true := by kernel_rfl

set_option maxRecDepth 100000 in
set_option maxHeartbeats 32000000 in
theorem lawAddNode_c (A0 : Option Addr) (c0 : Nat) (z0 : List NodeD) (n1 : Rec) (w : World) (h0 : Nodes w A0 z0) (hcap0 : z0.length ≤ 9223372036854775807)  :
    Calls Try.prog 9 #[.agg #[.slice A0 z0.length c0], styleV n1] w fun r w' => r = .returned (.bool true) ∧ Bel w w' := by
  by_cases s0 : (treeSz z0 : Int) ≤ 1048576
  rotate_left
  ·
    go_enter Try.func9, Try.ntmps9
    unfold styleV
    have h_l60 := styleL_length n1
    go_wp2_with fail
    refine (szTree_c _ _ _ _ _ (h0.keep (by repeat (first | exact Bel.refl _ | refine Bel.alloc ?_ _))) (by omega) (by omega)).mono ?_
    rintro e w1 ⟨rfl, hb1⟩
    have hbA : Bel (w.alloc (.cells #[.slice A0 z0.length c0] 24)) w1 := ((Bel.refl _).alloc _).trans hb1
    have hbB : Bel ((w.alloc (.cells #[.slice A0 z0.length c0] 24)).alloc (.cells (styleL n1).toArray 61)) w1 := hb1
    have B1 : Bel w w1 := ((Bel.refl w).alloc _).trans hbA
    have T1 : Bel w w1 := B1
    have xb0 : w1.cell? ⟨w.heap.size, 0, none⟩ = some (.slice A0 z0.length c0) := (hbA.cell _ _ (by simp)).trans (new_cell1 _ _ _).1
    have lb0 : w.heap.size < w1.heap.size := by have := hbA.sz; simp at this; omega
    have ls : w.heap.size + 1 < w1.heap.size := by have := hbB.sz; simp at this; omega
    have hz : (w.alloc (.cells #[.slice A0 z0.length c0] 24)).heap.size = w.heap.size + 1 := by simp
    have xs : Hid (w1.rangeAt (w.heap.size + 1) 0 (styleL n1)) := hid' (by rw [← hz]; exact range_bel (range_lit _ _ _) hbB (by simp))
    clear hbA hbB hz
    replace h0 := h0.keep B1
    rw [if_neg (by omega)]
    go_wp2_with fail
    go_ret
    exact ⟨rfl, T1⟩
  have m0 : treeSz z0 ≤ 1048576 := by omega
  go_enter Try.func9, Try.ntmps9
  have h00 := h0
  unfold styleV
  have h_l60 := styleL_length n1
  go_wp2_with fail
  refine (szTree_c _ _ _ _ _ (h0.keep (by repeat (first | exact Bel.refl _ | refine Bel.alloc ?_ _))) (by omega) (by omega)).mono ?_
  rintro e w1 ⟨rfl, hb1⟩
  have hbA : Bel (w.alloc (.cells #[.slice A0 z0.length c0] 24)) w1 := ((Bel.refl _).alloc _).trans hb1
  have hbB : Bel ((w.alloc (.cells #[.slice A0 z0.length c0] 24)).alloc (.cells (styleL n1).toArray 61)) w1 := hb1
  have B1 : Bel w w1 := ((Bel.refl w).alloc _).trans hbA
  have T1 : Bel w w1 := B1
  have xb0 : w1.cell? ⟨w.heap.size, 0, none⟩ = some (.slice A0 z0.length c0) := (hbA.cell _ _ (by simp)).trans (new_cell1 _ _ _).1
  have lb0 : w.heap.size < w1.heap.size := by have := hbA.sz; simp at this; omega
  have ls : w.heap.size + 1 < w1.heap.size := by have := hbB.sz; simp at this; omega
  have hz : (w.alloc (.cells #[.slice A0 z0.length c0] 24)).heap.size = w.heap.size + 1 := by simp
  have xs : Hid (w1.rangeAt (w.heap.size + 1) 0 (styleL n1)) := hid' (by rw [← hz]; exact range_bel (range_lit _ _ _) hbB (by simp))
  clear hbA hbB hz
  replace h0 := h0.keep B1
  rw [if_pos s0]
  have hBS : w.heap.size ≤ w1.heap.size := T1.sz
  have HF : Fam w1 w1.heap.size [] := Fam.nil _ _
  have hs : w1.heap.size ≤ w1.heap.size := Nat.le_refl _
  have lbb0 := lb0
  have lbs := ls
  have hzR : treeSz ((addNodeT z0 n1).1) ≤ 1048576 := addNodeT_sz m0
  go_wp2_with fail
  have hd0 : Bel w1 w1.drew := (Bel.refl w1).drew
  refine wp_join [6, 7, 21, 22, 23, 24, 25, 26, 27, 28] (fun y u => ∃ bk A c' KS RS, y 6 = .pointer (some ⟨bk, 0, none⟩) ∧ y 7 = .int .i64 ((addNodeT z0 n1).2) ∧ KS.length = ((addNodeT z0 n1).1).length ∧ RS.length = ((addNodeT z0 n1).1).length ∧ Fam u w1.heap.size (boxF bk (.slice A ((addNodeT z0 n1).1).length c') ++ treeF (.slice A ((addNodeT z0 n1).1).length c') ((addNodeT z0 n1).1) KS RS) ∧ Bel w1 u) ?_ ?_
  ·
    refine wp_region_held_drew (S := (fun u => Bel w1 u)) (by kernel_rfl) hd0 (fun _ => ?_)
    refine wpAnyH_take (i := 0) (v := (.agg #[.slice A0 z0.length c0])) getop0 (by kernel_rfl) (by kernel_rfl) (by kernel_rfl) (by rintro c a w ⟨h, _⟩; cases h) (yieldsIf_load_mid (by rfl) 24 _ rfl (w.heap.size) 0 rfl [.slice A0 z0.length c0] _ (fun u hu => range_one ((hu.cell _ _ lb0).trans xb0)) Try.underlying24 rfl (by show _ = some 1; kernel_rfl)) (hd0) ?_
    simp only [Act.put, List.setIfInBounds_toArray, List.set_cons_zero, List.set_cons_succ]
    refine wpAnyH_take (i := 2) (v := (.agg (styleL n1).toArray)) getop2 (by kernel_rfl) (by kernel_rfl) (by kernel_rfl) (by rintro c a w ⟨h, _⟩; cases h) (yieldsIf_load_mid (by rfl) 61 _ rfl (w.heap.size + 1) 0 rfl (styleL n1) _ (fun u hu => range_bel xs.out hu ls) Try.underlying61 rfl (by rw [h_l60]; kernel_rfl)) (hd0) ?_
    simp only [Act.put, List.setIfInBounds_toArray, List.set_cons_zero, List.set_cons_succ]
    refine wpAnyH_ready (rs := [1, 8]) (by kernel_rfl) (by simp) ?_
    refine AllReadyH.cons getop1 (fun K hK => ?_) ?_
    ·
      rw [if_pos (by rfl)]
      refine op_callN (xs := #[.tmp 22]) (vs := #[.agg #[.slice A0 z0.length c0]]) rfl rfl (run_callFunc Try.func13 (by kernel_rfl) rfl) ((toTree_c _ _ _ _ (h0.keep (hd0)) m0).mono ?_)
      rintro e u1 ⟨gS1, rfl, oS1, g1⟩
      have NS1 := oS1.nodesC
      clear oS1
      refine ⟨_, rfl, hK.out _ _ ((hd0).trans g1) (fun _ => ?_)⟩
      clear hK K
      simp only [Act.put, List.setIfInBounds_toArray, List.set_cons_zero, List.set_cons_succ]
      refine wpAnyH_ready (rs := [3, 8]) (by kernel_rfl) (by simp) ?_
      refine AllReadyH.cons getop3 (fun K hK => ?_) ?_
      ·
        rw [if_pos (by rfl)]
        refine op_callN (xs := #[.tmp 24]) (vs := #[.agg (styleL n1).toArray]) rfl rfl (run_callFunc Try.func36 (by kernel_rfl) rfl) ((toStyle_c n1 _).mono ?_)
        rintro e u2 ⟨rfl, g2⟩
        refine ⟨_, rfl, hK.out _ _ (((hd0).trans g1).trans g2) (fun _ => ?_)⟩
        clear hK K
        simp only [Act.put, List.setIfInBounds_toArray, List.set_cons_zero, List.set_cons_succ]
        refine wpAnyH_ready (rs := [4, 8]) (by kernel_rfl) (by simp) ?_
        refine AllReadyH.cons getop4 (fun K hK => ?_) ?_
        ·
          rw [if_pos (by rfl)]
          refine op_callN (xs := #[.tmp 23, .tmp 25]) (vs := #[treeV (some ⟨gS1, 0, none⟩) z0.length z0.length, styleV n1]) rfl rfl (run_callFunc Try.func35 (by kernel_rfl) rfl) ((sAddNode_c _ _ _ n1 _ ((NS1).keep g2) m0).mono ?_)
          rintro e u3 ⟨A3, c3, rfl, t3, g3⟩
          refine ⟨_, rfl, hK.out _ _ ((((hd0).trans g1).trans g2).trans g3) (fun _ => ?_)⟩
          clear hK K
          simp only [Act.put, List.setIfInBounds_toArray, List.set_cons_zero, List.set_cons_succ]
          refine wpAnyH_take (i := 5) (v := .tuple #[treeV A3 ((addNodeT z0 n1).1).length c3, .int .i64 ((addNodeT z0 n1).2)]) getop5 (by kernel_rfl) (by kernel_rfl) (by kernel_rfl) (by rintro c a w ⟨h, _⟩; cases h) (Or.inl ⟨rfl, fun u _ => y_move rfl rfl⟩) ((((hd0).trans g1).trans g2).trans g3) ?_
          simp only [Act.put, List.setIfInBounds_toArray, List.set_cons_zero, List.set_cons_succ]
          refine wpAnyH_take (i := 6) (v := treeV A3 ((addNodeT z0 n1).1).length c3) getop6 (by kernel_rfl) (by kernel_rfl) (by kernel_rfl) (by rintro c a w ⟨h, _⟩; cases h) (Or.inl ⟨rfl, fun u _ => y_extract0 rfl rfl⟩) ((((hd0).trans g1).trans g2).trans g3) ?_
          simp only [Act.put, List.setIfInBounds_toArray, List.set_cons_zero, List.set_cons_succ]
          refine wpAnyH_take (i := 7) (v := .int .i64 ((addNodeT z0 n1).2)) getop7 (by kernel_rfl) (by kernel_rfl) (by kernel_rfl) (by rintro c a w ⟨h, _⟩; cases h) (Or.inl ⟨rfl, fun u _ => y_extract1 rfl rfl⟩) ((((hd0).trans g1).trans g2).trans g3) ?_
          simp only [Act.put, List.setIfInBounds_toArray, List.set_cons_zero, List.set_cons_succ]
          refine wpAnyH_ready (rs := [8]) (by kernel_rfl) (by simp) ?_
          refine AllReadyH.cons getop8 (fun K hK => ?_) ?_
          ·
            rw [if_pos (by rfl)]
            refine op_allocTree rfl ?_
            refine hK.out _ _ (((((hd0).trans g1).trans g2).trans g3).alloc _) (fun _ => ?_)
            clear hK K
            simp only [Act.put, List.setIfInBounds_toArray, List.set_cons_zero, List.set_cons_succ]
            refine wpAnyH_ready (rs := [9]) (by kernel_rfl) (by simp) ?_
            refine AllReadyH.cons getop9 (fun K hK => ?_) ?_
            ·
              rw [if_pos (by rfl)]
              refine op_storeTree rfl rfl rfl (there_kept (there_one u3 (.slice none 0 0) 30) (Bel.refl (u3.alloc (.cells #[.slice none 0 0] 30))) (by simp)) ?_
              refine hK.out _ _ ((((((hd0).trans g1).trans g2).trans g3).alloc (.cells #[.slice none 0 0] 30)).setCell (show w1.heap.size ≤ (u3).heap.size from ((((hd0).trans g1).trans g2).trans g3).sz) _) (fun _ => ?_)
              clear hK K
              simp only [Act.put, List.setIfInBounds_toArray, List.set_cons_zero, List.set_cons_succ]
              refine wpAnyH_take (i := 10) (v := .int .i64 ((addNodeT z0 n1).2)) getop10 (by kernel_rfl) (by kernel_rfl) (by kernel_rfl) (by rintro c a w ⟨h, _⟩; cases h) (Or.inl ⟨rfl, fun u _ => y_assign rfl rfl⟩) ((((((hd0).trans g1).trans g2).trans g3).alloc (.cells #[.slice none 0 0] 30)).setCell (show w1.heap.size ≤ (u3).heap.size from ((((hd0).trans g1).trans g2).trans g3).sz) _) ?_
              simp only [Act.put, List.setIfInBounds_toArray, List.set_cons_zero, List.set_cons_succ]
              obtain ⟨KS, RS, k1, k2, hF2, hB2⟩ := joinC (((hd0).trans g1).trans g2) g3 t3
              refine wpAnyH_done (by kernel_rfl) (join_here (by kernel_rfl) ?_) _
              exact ⟨_, _, _, KS, RS, rfl, rfl, k1, k2, hF2, hB2⟩
            exact AllReadyH.nil
          exact AllReadyH.nil
        refine AllReadyH.cons getop8 (fun K hK => ?_) ?_
        ·
          rw [if_pos (by rfl)]
          refine op_allocTree rfl ?_
          refine hK.out _ _ ((((hd0).trans g1).trans g2).alloc _) (fun _ => ?_)
          clear hK K
          simp only [Act.put, List.setIfInBounds_toArray, List.set_cons_zero, List.set_cons_succ]
          refine wpAnyH_ready (rs := [4]) (by kernel_rfl) (by simp) ?_
          refine AllReadyH.cons getop4 (fun K hK => ?_) ?_
          ·
            rw [if_pos (by rfl)]
            refine op_callN (xs := #[.tmp 23, .tmp 25]) (vs := #[treeV (some ⟨gS1, 0, none⟩) z0.length z0.length, styleV n1]) rfl rfl (run_callFunc Try.func35 (by kernel_rfl) rfl) ((sAddNode_c _ _ _ n1 _ (((NS1).keep g2).keep ((Bel.refl _).alloc _)) m0).mono ?_)
            rintro e u7 ⟨A7, c7, rfl, t7, g7⟩
            refine ⟨_, rfl, hK.out _ _ (((((hd0).trans g1).trans g2).alloc (.cells #[.slice none 0 0] 30)).trans g7) (fun _ => ?_)⟩
            clear hK K
            simp only [Act.put, List.setIfInBounds_toArray, List.set_cons_zero, List.set_cons_succ]
            refine wpAnyH_take (i := 5) (v := .tuple #[treeV A7 ((addNodeT z0 n1).1).length c7, .int .i64 ((addNodeT z0 n1).2)]) getop5 (by kernel_rfl) (by kernel_rfl) (by kernel_rfl) (by rintro c a w ⟨h, _⟩; cases h) (Or.inl ⟨rfl, fun u _ => y_move rfl rfl⟩) (((((hd0).trans g1).trans g2).alloc (.cells #[.slice none 0 0] 30)).trans g7) ?_
            simp only [Act.put, List.setIfInBounds_toArray, List.set_cons_zero, List.set_cons_succ]
            refine wpAnyH_take (i := 6) (v := treeV A7 ((addNodeT z0 n1).1).length c7) getop6 (by kernel_rfl) (by kernel_rfl) (by kernel_rfl) (by rintro c a w ⟨h, _⟩; cases h) (Or.inl ⟨rfl, fun u _ => y_extract0 rfl rfl⟩) (((((hd0).trans g1).trans g2).alloc (.cells #[.slice none 0 0] 30)).trans g7) ?_
            simp only [Act.put, List.setIfInBounds_toArray, List.set_cons_zero, List.set_cons_succ]
            refine wpAnyH_take (i := 7) (v := .int .i64 ((addNodeT z0 n1).2)) getop7 (by kernel_rfl) (by kernel_rfl) (by kernel_rfl) (by rintro c a w ⟨h, _⟩; cases h) (Or.inl ⟨rfl, fun u _ => y_extract1 rfl rfl⟩) (((((hd0).trans g1).trans g2).alloc (.cells #[.slice none 0 0] 30)).trans g7) ?_
            simp only [Act.put, List.setIfInBounds_toArray, List.set_cons_zero, List.set_cons_succ]
            refine wpAnyH_ready (rs := [9]) (by kernel_rfl) (by simp) ?_
            refine AllReadyH.cons getop9 (fun K hK => ?_) ?_
            ·
              rw [if_pos (by rfl)]
              refine op_storeTree rfl rfl rfl (there_kept (there_one u2 (.slice none 0 0) 30) ((Bel.refl (u2.alloc (.cells #[.slice none 0 0] 30))).trans g7) (by simp)) ?_
              refine hK.out _ _ ((((((hd0).trans g1).trans g2).alloc (.cells #[.slice none 0 0] 30)).trans g7).setCell (show w1.heap.size ≤ (u2).heap.size from (((hd0).trans g1).trans g2).sz) _) (fun _ => ?_)
              clear hK K
              simp only [Act.put, List.setIfInBounds_toArray, List.set_cons_zero, List.set_cons_succ]
              refine wpAnyH_take (i := 10) (v := .int .i64 ((addNodeT z0 n1).2)) getop10 (by kernel_rfl) (by kernel_rfl) (by kernel_rfl) (by rintro c a w ⟨h, _⟩; cases h) (Or.inl ⟨rfl, fun u _ => y_assign rfl rfl⟩) ((((((hd0).trans g1).trans g2).alloc (.cells #[.slice none 0 0] 30)).trans g7).setCell (show w1.heap.size ≤ (u2).heap.size from (((hd0).trans g1).trans g2).sz) _) ?_
              simp only [Act.put, List.setIfInBounds_toArray, List.set_cons_zero, List.set_cons_succ]
              obtain ⟨KS, RS, k1, k2, hF2, hB2⟩ := joinB (((hd0).trans g1).trans g2) (Bel.refl (u2.alloc (.cells #[.slice none 0 0] 30))) g7 t7
              refine wpAnyH_done (by kernel_rfl) (join_here (by kernel_rfl) ?_) _
              exact ⟨_, _, _, KS, RS, rfl, rfl, k1, k2, hF2, hB2⟩
            exact AllReadyH.nil
          exact AllReadyH.nil
        exact AllReadyH.nil
      refine AllReadyH.cons getop8 (fun K hK => ?_) ?_
      ·
        rw [if_pos (by rfl)]
        refine op_allocTree rfl ?_
        refine hK.out _ _ (((hd0).trans g1).alloc _) (fun _ => ?_)
        clear hK K
        simp only [Act.put, List.setIfInBounds_toArray, List.set_cons_zero, List.set_cons_succ]
        refine wpAnyH_ready (rs := [3]) (by kernel_rfl) (by simp) ?_
        refine AllReadyH.cons getop3 (fun K hK => ?_) ?_
        ·
          rw [if_pos (by rfl)]
          refine op_callN (xs := #[.tmp 24]) (vs := #[.agg (styleL n1).toArray]) rfl rfl (run_callFunc Try.func36 (by kernel_rfl) rfl) ((toStyle_c n1 _).mono ?_)
          rintro e u10 ⟨rfl, g10⟩
          refine ⟨_, rfl, hK.out _ _ ((((hd0).trans g1).alloc (.cells #[.slice none 0 0] 30)).trans g10) (fun _ => ?_)⟩
          clear hK K
          simp only [Act.put, List.setIfInBounds_toArray, List.set_cons_zero, List.set_cons_succ]
          refine wpAnyH_ready (rs := [4]) (by kernel_rfl) (by simp) ?_
          refine AllReadyH.cons getop4 (fun K hK => ?_) ?_
          ·
            rw [if_pos (by rfl)]
            refine op_callN (xs := #[.tmp 23, .tmp 25]) (vs := #[treeV (some ⟨gS1, 0, none⟩) z0.length z0.length, styleV n1]) rfl rfl (run_callFunc Try.func35 (by kernel_rfl) rfl) ((sAddNode_c _ _ _ n1 _ (((NS1).keep ((Bel.refl _).alloc _)).keep g10) m0).mono ?_)
            rintro e u11 ⟨A11, c11, rfl, t11, g11⟩
            refine ⟨_, rfl, hK.out _ _ (((((hd0).trans g1).alloc (.cells #[.slice none 0 0] 30)).trans g10).trans g11) (fun _ => ?_)⟩
            clear hK K
            simp only [Act.put, List.setIfInBounds_toArray, List.set_cons_zero, List.set_cons_succ]
            refine wpAnyH_take (i := 5) (v := .tuple #[treeV A11 ((addNodeT z0 n1).1).length c11, .int .i64 ((addNodeT z0 n1).2)]) getop5 (by kernel_rfl) (by kernel_rfl) (by kernel_rfl) (by rintro c a w ⟨h, _⟩; cases h) (Or.inl ⟨rfl, fun u _ => y_move rfl rfl⟩) (((((hd0).trans g1).alloc (.cells #[.slice none 0 0] 30)).trans g10).trans g11) ?_
            simp only [Act.put, List.setIfInBounds_toArray, List.set_cons_zero, List.set_cons_succ]
            refine wpAnyH_take (i := 6) (v := treeV A11 ((addNodeT z0 n1).1).length c11) getop6 (by kernel_rfl) (by kernel_rfl) (by kernel_rfl) (by rintro c a w ⟨h, _⟩; cases h) (Or.inl ⟨rfl, fun u _ => y_extract0 rfl rfl⟩) (((((hd0).trans g1).alloc (.cells #[.slice none 0 0] 30)).trans g10).trans g11) ?_
            simp only [Act.put, List.setIfInBounds_toArray, List.set_cons_zero, List.set_cons_succ]
            refine wpAnyH_take (i := 7) (v := .int .i64 ((addNodeT z0 n1).2)) getop7 (by kernel_rfl) (by kernel_rfl) (by kernel_rfl) (by rintro c a w ⟨h, _⟩; cases h) (Or.inl ⟨rfl, fun u _ => y_extract1 rfl rfl⟩) (((((hd0).trans g1).alloc (.cells #[.slice none 0 0] 30)).trans g10).trans g11) ?_
            simp only [Act.put, List.setIfInBounds_toArray, List.set_cons_zero, List.set_cons_succ]
            refine wpAnyH_ready (rs := [9]) (by kernel_rfl) (by simp) ?_
            refine AllReadyH.cons getop9 (fun K hK => ?_) ?_
            ·
              rw [if_pos (by rfl)]
              refine op_storeTree rfl rfl rfl (there_kept (there_one u1 (.slice none 0 0) 30) (((Bel.refl (u1.alloc (.cells #[.slice none 0 0] 30))).trans g10).trans g11) (by simp)) ?_
              refine hK.out _ _ ((((((hd0).trans g1).alloc (.cells #[.slice none 0 0] 30)).trans g10).trans g11).setCell (show w1.heap.size ≤ (u1).heap.size from ((hd0).trans g1).sz) _) (fun _ => ?_)
              clear hK K
              simp only [Act.put, List.setIfInBounds_toArray, List.set_cons_zero, List.set_cons_succ]
              refine wpAnyH_take (i := 10) (v := .int .i64 ((addNodeT z0 n1).2)) getop10 (by kernel_rfl) (by kernel_rfl) (by kernel_rfl) (by rintro c a w ⟨h, _⟩; cases h) (Or.inl ⟨rfl, fun u _ => y_assign rfl rfl⟩) ((((((hd0).trans g1).alloc (.cells #[.slice none 0 0] 30)).trans g10).trans g11).setCell (show w1.heap.size ≤ (u1).heap.size from ((hd0).trans g1).sz) _) ?_
              simp only [Act.put, List.setIfInBounds_toArray, List.set_cons_zero, List.set_cons_succ]
              obtain ⟨KS, RS, k1, k2, hF2, hB2⟩ := joinB ((hd0).trans g1) ((Bel.refl (u1.alloc (.cells #[.slice none 0 0] 30))).trans g10) g11 t11
              refine wpAnyH_done (by kernel_rfl) (join_here (by kernel_rfl) ?_) _
              exact ⟨_, _, _, KS, RS, rfl, rfl, k1, k2, hF2, hB2⟩
            exact AllReadyH.nil
          exact AllReadyH.nil
        exact AllReadyH.nil
      exact AllReadyH.nil
    refine AllReadyH.cons getop8 (fun K hK => ?_) ?_
    ·
      rw [if_pos (by rfl)]
      refine op_allocTree rfl ?_
      refine hK.out _ _ ((hd0).alloc _) (fun _ => ?_)
      clear hK K
      simp only [Act.put, List.setIfInBounds_toArray, List.set_cons_zero, List.set_cons_succ]
      refine wpAnyH_ready (rs := [1]) (by kernel_rfl) (by simp) ?_
      refine AllReadyH.cons getop1 (fun K hK => ?_) ?_
      ·
        rw [if_pos (by rfl)]
        refine op_callN (xs := #[.tmp 22]) (vs := #[.agg #[.slice A0 z0.length c0]]) rfl rfl (run_callFunc Try.func13 (by kernel_rfl) rfl) ((toTree_c _ _ _ _ (h0.keep ((hd0).alloc (.cells #[.slice none 0 0] 30))) m0).mono ?_)
        rintro e u14 ⟨gS14, rfl, oS14, g14⟩
        have NS14 := oS14.nodesC
        clear oS14
        refine ⟨_, rfl, hK.out _ _ (((hd0).alloc (.cells #[.slice none 0 0] 30)).trans g14) (fun _ => ?_)⟩
        clear hK K
        simp only [Act.put, List.setIfInBounds_toArray, List.set_cons_zero, List.set_cons_succ]
        refine wpAnyH_ready (rs := [3]) (by kernel_rfl) (by simp) ?_
        refine AllReadyH.cons getop3 (fun K hK => ?_) ?_
        ·
          rw [if_pos (by rfl)]
          refine op_callN (xs := #[.tmp 24]) (vs := #[.agg (styleL n1).toArray]) rfl rfl (run_callFunc Try.func36 (by kernel_rfl) rfl) ((toStyle_c n1 _).mono ?_)
          rintro e u15 ⟨rfl, g15⟩
          refine ⟨_, rfl, hK.out _ _ ((((hd0).alloc (.cells #[.slice none 0 0] 30)).trans g14).trans g15) (fun _ => ?_)⟩
          clear hK K
          simp only [Act.put, List.setIfInBounds_toArray, List.set_cons_zero, List.set_cons_succ]
          refine wpAnyH_ready (rs := [4]) (by kernel_rfl) (by simp) ?_
          refine AllReadyH.cons getop4 (fun K hK => ?_) ?_
          ·
            rw [if_pos (by rfl)]
            refine op_callN (xs := #[.tmp 23, .tmp 25]) (vs := #[treeV (some ⟨gS14, 0, none⟩) z0.length z0.length, styleV n1]) rfl rfl (run_callFunc Try.func35 (by kernel_rfl) rfl) ((sAddNode_c _ _ _ n1 _ ((NS14).keep g15) m0).mono ?_)
            rintro e u16 ⟨A16, c16, rfl, t16, g16⟩
            refine ⟨_, rfl, hK.out _ _ (((((hd0).alloc (.cells #[.slice none 0 0] 30)).trans g14).trans g15).trans g16) (fun _ => ?_)⟩
            clear hK K
            simp only [Act.put, List.setIfInBounds_toArray, List.set_cons_zero, List.set_cons_succ]
            refine wpAnyH_take (i := 5) (v := .tuple #[treeV A16 ((addNodeT z0 n1).1).length c16, .int .i64 ((addNodeT z0 n1).2)]) getop5 (by kernel_rfl) (by kernel_rfl) (by kernel_rfl) (by rintro c a w ⟨h, _⟩; cases h) (Or.inl ⟨rfl, fun u _ => y_move rfl rfl⟩) (((((hd0).alloc (.cells #[.slice none 0 0] 30)).trans g14).trans g15).trans g16) ?_
            simp only [Act.put, List.setIfInBounds_toArray, List.set_cons_zero, List.set_cons_succ]
            refine wpAnyH_take (i := 6) (v := treeV A16 ((addNodeT z0 n1).1).length c16) getop6 (by kernel_rfl) (by kernel_rfl) (by kernel_rfl) (by rintro c a w ⟨h, _⟩; cases h) (Or.inl ⟨rfl, fun u _ => y_extract0 rfl rfl⟩) (((((hd0).alloc (.cells #[.slice none 0 0] 30)).trans g14).trans g15).trans g16) ?_
            simp only [Act.put, List.setIfInBounds_toArray, List.set_cons_zero, List.set_cons_succ]
            refine wpAnyH_take (i := 7) (v := .int .i64 ((addNodeT z0 n1).2)) getop7 (by kernel_rfl) (by kernel_rfl) (by kernel_rfl) (by rintro c a w ⟨h, _⟩; cases h) (Or.inl ⟨rfl, fun u _ => y_extract1 rfl rfl⟩) (((((hd0).alloc (.cells #[.slice none 0 0] 30)).trans g14).trans g15).trans g16) ?_
            simp only [Act.put, List.setIfInBounds_toArray, List.set_cons_zero, List.set_cons_succ]
            refine wpAnyH_ready (rs := [9]) (by kernel_rfl) (by simp) ?_
            refine AllReadyH.cons getop9 (fun K hK => ?_) ?_
            ·
              rw [if_pos (by rfl)]
              refine op_storeTree rfl rfl rfl (there_kept (there_one w1.drew (.slice none 0 0) 30) ((((Bel.refl (w1.drew.alloc (.cells #[.slice none 0 0] 30))).trans g14).trans g15).trans g16) (by simp)) ?_
              refine hK.out _ _ ((((((hd0).alloc (.cells #[.slice none 0 0] 30)).trans g14).trans g15).trans g16).setCell (show w1.heap.size ≤ (w1.drew).heap.size from (hd0).sz) _) (fun _ => ?_)
              clear hK K
              simp only [Act.put, List.setIfInBounds_toArray, List.set_cons_zero, List.set_cons_succ]
              refine wpAnyH_take (i := 10) (v := .int .i64 ((addNodeT z0 n1).2)) getop10 (by kernel_rfl) (by kernel_rfl) (by kernel_rfl) (by rintro c a w ⟨h, _⟩; cases h) (Or.inl ⟨rfl, fun u _ => y_assign rfl rfl⟩) ((((((hd0).alloc (.cells #[.slice none 0 0] 30)).trans g14).trans g15).trans g16).setCell (show w1.heap.size ≤ (w1.drew).heap.size from (hd0).sz) _) ?_
              simp only [Act.put, List.setIfInBounds_toArray, List.set_cons_zero, List.set_cons_succ]
              obtain ⟨KS, RS, k1, k2, hF2, hB2⟩ := joinB (hd0) (((Bel.refl (w1.drew.alloc (.cells #[.slice none 0 0] 30))).trans g14).trans g15) g16 t16
              refine wpAnyH_done (by kernel_rfl) (join_here (by kernel_rfl) ?_) _
              exact ⟨_, _, _, KS, RS, rfl, rfl, k1, k2, hF2, hB2⟩
            exact AllReadyH.nil
          exact AllReadyH.nil
        exact AllReadyH.nil
      exact AllReadyH.nil
    exact AllReadyH.nil
  rintro y w2 ⟨bk_w0, A_w0, c_w0, KS_w0, RS_w0, hy1, hy2, k1_w0, k2_w0, HN0, hb2⟩
  simp only [setAll, List.foldl_cons, List.foldl_nil, List.setIfInBounds_toArray, List.set_cons_zero, List.set_cons_succ]
  rw [hy1, hy2]
  clear hy1 hy2 hd0
  have B2 : Bel w1 w2 := Bel.trans (by repeat (first | exact Bel.refl _ | refine Bel.alloc ?_ _ | refine Bel.drew ?_ | refine Bel.drewN ?_ _)) hb2
  have T2 : Bel w w2 := T1.trans B2
  replace xb0 := (B2.cell _ _ lb0).trans xb0
  replace lb0 := Nat.lt_of_lt_of_le lb0 B2.sz
  replace h0 := h0.keep B2
  have xw0b := boxF_cell (R := treeF (.slice A_w0 ((addNodeT z0 n1).1).length c_w0) ((addNodeT z0 n1).1) KS_w0 RS_w0) HN0
  have lw0b := World.block_lt_of_cell? _ _ xw0b
  replace HF := HF.more2 B2 HN0 hs
  clear HN0
  replace hs := Nat.le_trans hs B2.sz
  replace xs := hid' (range_bel xs.out B2 ls)
  replace ls := Nat.lt_of_lt_of_le ls B2.sz
  go_wp2_with fail
  refine (toTree_c _ _ _ _ (h0.keep (by repeat (first | exact Bel.refl _ | refine Bel.alloc ?_ _ | refine Bel.drew ?_))) m0).mono ?_
  rintro e w3 ⟨g_X0, rfl, o_X0, hb3⟩
  obtain ⟨KS_X0, RS_X0, k1_X0, k2_X0, f_X0⟩ := o_X0
  have B3 : Bel w2 w3 := Bel.trans (by repeat (first | exact Bel.refl _ | refine Bel.alloc ?_ _ | refine Bel.drew ?_ | refine Bel.drewN ?_ _)) hb3
  have T3 : Bel w w3 := T2.trans B3
  replace xb0 := (B3.cell _ _ lb0).trans xb0
  replace lb0 := Nat.lt_of_lt_of_le lb0 B3.sz
  replace xw0b := (B3.cell _ _ lw0b).trans xw0b
  replace lw0b := Nat.lt_of_lt_of_le lw0b B3.sz
  replace h0 := h0.keep B3
  have HN : Fam w3 w2.heap.size (treeF (.slice (some ⟨g_X0, 0, none⟩) z0.length z0.length) z0 KS_X0 RS_X0) := (f_X0).base (by repeat (first | exact Nat.le_refl _ | (simp; done) | (simp; omega)))
  replace HF := HF.more B3 HN hs
  clear HN
  replace hs := Nat.le_trans hs B3.sz
  replace xs := hid' (range_bel xs.out B3 ls)
  replace ls := Nat.lt_of_lt_of_le ls B3.sz
  clear f_X0
  have xab0 := (((Bel.refl w3).alloc (.cells #[.slice (some ⟨g_X0, 0, none⟩) z0.length z0.length] 30)).cell _ _ lb0).trans xb0
  have xaw0b := (((Bel.refl w3).alloc (.cells #[.slice (some ⟨g_X0, 0, none⟩) z0.length z0.length] 30)).cell _ _ lw0b).trans xw0b
  go_wp2_with fail
  clear xab0
  clear xaw0b
  obtain ⟨w4, hwB⟩ : ∃ u, u = (w3.alloc (.cells #[.slice (some ⟨g_X0, 0, none⟩) z0.length z0.length] 30)) := ⟨_, rfl⟩
  rw [← hwB]
  have hb4 : Bel w3 w4 := by rw [hwB]; exact (Bel.refl _).alloc _
  have HN0 : Fam w4 w3.heap.size (boxF w3.heap.size (.slice (some ⟨g_X0, 0, none⟩) z0.length z0.length)) := by rw [hwB]; exact boxF_new _ _
  have xx0 : w4.cell? ⟨w3.heap.size, 0, none⟩ = some (.slice (some ⟨g_X0, 0, none⟩) z0.length z0.length) := by rw [hwB]; exact (new_cell1 _ _ _).1
  have lx0 : w3.heap.size < w4.heap.size := by rw [hwB]; simp
  clear hwB
  have B4 : Bel w3 w4 := Bel.trans (by repeat (first | exact Bel.refl _ | refine Bel.alloc ?_ _ | refine Bel.drew ?_ | refine Bel.drewN ?_ _)) hb4
  have T4 : Bel w w4 := T3.trans B4
  replace xb0 := (B4.cell _ _ lb0).trans xb0
  replace lb0 := Nat.lt_of_lt_of_le lb0 B4.sz
  replace xw0b := (B4.cell _ _ lw0b).trans xw0b
  replace lw0b := Nat.lt_of_lt_of_le lw0b B4.sz
  replace h0 := h0.keep B4
  have HN : Fam w4 w3.heap.size (boxF w3.heap.size (.slice (some ⟨g_X0, 0, none⟩) z0.length z0.length)) := (HN0).base (by repeat (first | exact Nat.le_refl _ | (simp; done) | (simp; omega)))
  replace HF := HF.more B4 HN hs
  clear HN
  replace hs := Nat.le_trans hs B4.sz
  clear HN0
  replace xs := hid' (range_bel xs.out B4 ls)
  replace ls := Nat.lt_of_lt_of_le ls B4.sz
  have V0 := (treeF_nodesC k1_X0 k2_X0 (Fam.f1 HF))
  go_wp2_with fail
  have hd0 : Bel w4 w4.drew := (Bel.refl w4).drew
  refine wp_join [9, 10, 31, 32, 33, 34, 35, 36, 37] (fun y u => ∃ bk A c' KS RS, y 9 = .pointer (some ⟨bk, 0, none⟩) ∧ y 10 = .int .i64 ((addNodeT z0 n1).2) ∧ KS.length = ((addNodeT z0 n1).1).length ∧ RS.length = ((addNodeT z0 n1).1).length ∧ Fam u w4.heap.size (boxF bk (.slice A ((addNodeT z0 n1).1).length c') ++ treeF (.slice A ((addNodeT z0 n1).1).length c') ((addNodeT z0 n1).1) KS RS) ∧ Bel w4 u) ?_ ?_
  ·
    refine wp_region_held_drew (S := (fun u => Bel w4 u)) (by kernel_rfl) hd0 (fun _ => ?_)
    refine wpAnyH_take (i := 0) (v := (.agg #[.slice (some ⟨g_X0, 0, none⟩) z0.length z0.length])) getop0 (by kernel_rfl) (by kernel_rfl) (by kernel_rfl) (by rintro c a w ⟨h, _⟩; cases h) (yieldsIf_load_mid (by rfl) 30 _ rfl (w3.heap.size) 0 rfl [.slice (some ⟨g_X0, 0, none⟩) z0.length z0.length] _ (fun u hu => range_one ((hu.cell _ _ lx0).trans xx0)) Try.underlying30 rfl (by show _ = some 1; kernel_rfl)) (hd0) ?_
    simp only [Act.put, List.setIfInBounds_toArray, List.set_cons_zero, List.set_cons_succ]
    refine wpAnyH_take (i := 1) (v := (.agg (styleL n1).toArray)) getop1 (by kernel_rfl) (by kernel_rfl) (by kernel_rfl) (by rintro c a w ⟨h, _⟩; cases h) (yieldsIf_load_mid (by rfl) 61 _ rfl (w.heap.size + 1) 0 rfl (styleL n1) _ (fun u hu => range_bel xs.out hu ls) Try.underlying61 rfl (by rw [h_l60]; kernel_rfl)) (hd0) ?_
    simp only [Act.put, List.setIfInBounds_toArray, List.set_cons_zero, List.set_cons_succ]
    refine wpAnyH_ready (rs := [2, 7]) (by kernel_rfl) (by simp) ?_
    refine AllReadyH.cons getop2 (fun K hK => ?_) ?_
    ·
      rw [if_pos (by rfl)]
      refine op_callN (xs := #[.tmp 33]) (vs := #[.agg (styleL n1).toArray]) rfl rfl (run_callFunc Try.func36 (by kernel_rfl) rfl) ((toStyle_c n1 _).mono ?_)
      rintro e u1 ⟨rfl, g1⟩
      refine ⟨_, rfl, hK.out _ _ ((hd0).trans g1) (fun _ => ?_)⟩
      clear hK K
      simp only [Act.put, List.setIfInBounds_toArray, List.set_cons_zero, List.set_cons_succ]
      refine wpAnyH_ready (rs := [3, 7]) (by kernel_rfl) (by simp) ?_
      refine AllReadyH.cons getop3 (fun K hK => ?_) ?_
      ·
        rw [if_pos (by rfl)]
        refine op_callN (xs := #[.tmp 32, .tmp 34]) (vs := #[treeV (some ⟨g_X0, 0, none⟩) z0.length z0.length, styleV n1]) rfl rfl (run_callFunc Try.func37 (by kernel_rfl) rfl) ((iAddNode_c _ _ _ n1 _ ((V0.keep hd0).keep g1) m0).mono ?_)
        rintro e u2 ⟨A2, c2, rfl, t2, g2⟩
        refine ⟨_, rfl, hK.out _ _ (((hd0).trans g1).trans g2) (fun _ => ?_)⟩
        clear hK K
        simp only [Act.put, List.setIfInBounds_toArray, List.set_cons_zero, List.set_cons_succ]
        refine wpAnyH_take (i := 4) (v := .tuple #[treeV A2 ((addNodeT z0 n1).1).length c2, .int .i64 ((addNodeT z0 n1).2)]) getop4 (by kernel_rfl) (by kernel_rfl) (by kernel_rfl) (by rintro c a w ⟨h, _⟩; cases h) (Or.inl ⟨rfl, fun u _ => y_move rfl rfl⟩) (((hd0).trans g1).trans g2) ?_
        simp only [Act.put, List.setIfInBounds_toArray, List.set_cons_zero, List.set_cons_succ]
        refine wpAnyH_take (i := 5) (v := treeV A2 ((addNodeT z0 n1).1).length c2) getop5 (by kernel_rfl) (by kernel_rfl) (by kernel_rfl) (by rintro c a w ⟨h, _⟩; cases h) (Or.inl ⟨rfl, fun u _ => y_extract0 rfl rfl⟩) (((hd0).trans g1).trans g2) ?_
        simp only [Act.put, List.setIfInBounds_toArray, List.set_cons_zero, List.set_cons_succ]
        refine wpAnyH_take (i := 6) (v := .int .i64 ((addNodeT z0 n1).2)) getop6 (by kernel_rfl) (by kernel_rfl) (by kernel_rfl) (by rintro c a w ⟨h, _⟩; cases h) (Or.inl ⟨rfl, fun u _ => y_extract1 rfl rfl⟩) (((hd0).trans g1).trans g2) ?_
        simp only [Act.put, List.setIfInBounds_toArray, List.set_cons_zero, List.set_cons_succ]
        refine wpAnyH_ready (rs := [7]) (by kernel_rfl) (by simp) ?_
        refine AllReadyH.cons getop7 (fun K hK => ?_) ?_
        ·
          rw [if_pos (by rfl)]
          refine op_allocTree rfl ?_
          refine hK.out _ _ ((((hd0).trans g1).trans g2).alloc _) (fun _ => ?_)
          clear hK K
          simp only [Act.put, List.setIfInBounds_toArray, List.set_cons_zero, List.set_cons_succ]
          refine wpAnyH_ready (rs := [8]) (by kernel_rfl) (by simp) ?_
          refine AllReadyH.cons getop8 (fun K hK => ?_) ?_
          ·
            rw [if_pos (by rfl)]
            refine op_storeTree rfl rfl rfl (there_kept (there_one u2 (.slice none 0 0) 30) (Bel.refl (u2.alloc (.cells #[.slice none 0 0] 30))) (by simp)) ?_
            refine hK.out _ _ (((((hd0).trans g1).trans g2).alloc (.cells #[.slice none 0 0] 30)).setCell (show w4.heap.size ≤ (u2).heap.size from (((hd0).trans g1).trans g2).sz) _) (fun _ => ?_)
            clear hK K
            simp only [Act.put, List.setIfInBounds_toArray, List.set_cons_zero, List.set_cons_succ]
            refine wpAnyH_take (i := 9) (v := .int .i64 ((addNodeT z0 n1).2)) getop9 (by kernel_rfl) (by kernel_rfl) (by kernel_rfl) (by rintro c a w ⟨h, _⟩; cases h) (Or.inl ⟨rfl, fun u _ => y_assign rfl rfl⟩) (((((hd0).trans g1).trans g2).alloc (.cells #[.slice none 0 0] 30)).setCell (show w4.heap.size ≤ (u2).heap.size from (((hd0).trans g1).trans g2).sz) _) ?_
            simp only [Act.put, List.setIfInBounds_toArray, List.set_cons_zero, List.set_cons_succ]
            obtain ⟨KS, RS, k1, k2, hF2, hB2⟩ := joinC ((hd0).trans g1) g2 t2
            refine wpAnyH_done (by kernel_rfl) (join_here (by kernel_rfl) ?_) _
            exact ⟨_, _, _, KS, RS, rfl, rfl, k1, k2, hF2, hB2⟩
          exact AllReadyH.nil
        exact AllReadyH.nil
      refine AllReadyH.cons getop7 (fun K hK => ?_) ?_
      ·
        rw [if_pos (by rfl)]
        refine op_allocTree rfl ?_
        refine hK.out _ _ (((hd0).trans g1).alloc _) (fun _ => ?_)
        clear hK K
        simp only [Act.put, List.setIfInBounds_toArray, List.set_cons_zero, List.set_cons_succ]
        refine wpAnyH_ready (rs := [3]) (by kernel_rfl) (by simp) ?_
        refine AllReadyH.cons getop3 (fun K hK => ?_) ?_
        ·
          rw [if_pos (by rfl)]
          refine op_callN (xs := #[.tmp 32, .tmp 34]) (vs := #[treeV (some ⟨g_X0, 0, none⟩) z0.length z0.length, styleV n1]) rfl rfl (run_callFunc Try.func37 (by kernel_rfl) rfl) ((iAddNode_c _ _ _ n1 _ (((V0.keep hd0).keep g1).keep ((Bel.refl _).alloc _)) m0).mono ?_)
          rintro e u6 ⟨A6, c6, rfl, t6, g6⟩
          refine ⟨_, rfl, hK.out _ _ ((((hd0).trans g1).alloc (.cells #[.slice none 0 0] 30)).trans g6) (fun _ => ?_)⟩
          clear hK K
          simp only [Act.put, List.setIfInBounds_toArray, List.set_cons_zero, List.set_cons_succ]
          refine wpAnyH_take (i := 4) (v := .tuple #[treeV A6 ((addNodeT z0 n1).1).length c6, .int .i64 ((addNodeT z0 n1).2)]) getop4 (by kernel_rfl) (by kernel_rfl) (by kernel_rfl) (by rintro c a w ⟨h, _⟩; cases h) (Or.inl ⟨rfl, fun u _ => y_move rfl rfl⟩) ((((hd0).trans g1).alloc (.cells #[.slice none 0 0] 30)).trans g6) ?_
          simp only [Act.put, List.setIfInBounds_toArray, List.set_cons_zero, List.set_cons_succ]
          refine wpAnyH_take (i := 5) (v := treeV A6 ((addNodeT z0 n1).1).length c6) getop5 (by kernel_rfl) (by kernel_rfl) (by kernel_rfl) (by rintro c a w ⟨h, _⟩; cases h) (Or.inl ⟨rfl, fun u _ => y_extract0 rfl rfl⟩) ((((hd0).trans g1).alloc (.cells #[.slice none 0 0] 30)).trans g6) ?_
          simp only [Act.put, List.setIfInBounds_toArray, List.set_cons_zero, List.set_cons_succ]
          refine wpAnyH_take (i := 6) (v := .int .i64 ((addNodeT z0 n1).2)) getop6 (by kernel_rfl) (by kernel_rfl) (by kernel_rfl) (by rintro c a w ⟨h, _⟩; cases h) (Or.inl ⟨rfl, fun u _ => y_extract1 rfl rfl⟩) ((((hd0).trans g1).alloc (.cells #[.slice none 0 0] 30)).trans g6) ?_
          simp only [Act.put, List.setIfInBounds_toArray, List.set_cons_zero, List.set_cons_succ]
          refine wpAnyH_ready (rs := [8]) (by kernel_rfl) (by simp) ?_
          refine AllReadyH.cons getop8 (fun K hK => ?_) ?_
          ·
            rw [if_pos (by rfl)]
            refine op_storeTree rfl rfl rfl (there_kept (there_one u1 (.slice none 0 0) 30) ((Bel.refl (u1.alloc (.cells #[.slice none 0 0] 30))).trans g6) (by simp)) ?_
            refine hK.out _ _ (((((hd0).trans g1).alloc (.cells #[.slice none 0 0] 30)).trans g6).setCell (show w4.heap.size ≤ (u1).heap.size from ((hd0).trans g1).sz) _) (fun _ => ?_)
            clear hK K
            simp only [Act.put, List.setIfInBounds_toArray, List.set_cons_zero, List.set_cons_succ]
            refine wpAnyH_take (i := 9) (v := .int .i64 ((addNodeT z0 n1).2)) getop9 (by kernel_rfl) (by kernel_rfl) (by kernel_rfl) (by rintro c a w ⟨h, _⟩; cases h) (Or.inl ⟨rfl, fun u _ => y_assign rfl rfl⟩) (((((hd0).trans g1).alloc (.cells #[.slice none 0 0] 30)).trans g6).setCell (show w4.heap.size ≤ (u1).heap.size from ((hd0).trans g1).sz) _) ?_
            simp only [Act.put, List.setIfInBounds_toArray, List.set_cons_zero, List.set_cons_succ]
            obtain ⟨KS, RS, k1, k2, hF2, hB2⟩ := joinB ((hd0).trans g1) (Bel.refl (u1.alloc (.cells #[.slice none 0 0] 30))) g6 t6
            refine wpAnyH_done (by kernel_rfl) (join_here (by kernel_rfl) ?_) _
            exact ⟨_, _, _, KS, RS, rfl, rfl, k1, k2, hF2, hB2⟩
          exact AllReadyH.nil
        exact AllReadyH.nil
      exact AllReadyH.nil
    refine AllReadyH.cons getop7 (fun K hK => ?_) ?_
    ·
      rw [if_pos (by rfl)]
      refine op_allocTree rfl ?_
      refine hK.out _ _ ((hd0).alloc _) (fun _ => ?_)
      clear hK K
      simp only [Act.put, List.setIfInBounds_toArray, List.set_cons_zero, List.set_cons_succ]
      refine wpAnyH_ready (rs := [2]) (by kernel_rfl) (by simp) ?_
      refine AllReadyH.cons getop2 (fun K hK => ?_) ?_
      ·
        rw [if_pos (by rfl)]
        refine op_callN (xs := #[.tmp 33]) (vs := #[.agg (styleL n1).toArray]) rfl rfl (run_callFunc Try.func36 (by kernel_rfl) rfl) ((toStyle_c n1 _).mono ?_)
        rintro e u9 ⟨rfl, g9⟩
        refine ⟨_, rfl, hK.out _ _ (((hd0).alloc (.cells #[.slice none 0 0] 30)).trans g9) (fun _ => ?_)⟩
        clear hK K
        simp only [Act.put, List.setIfInBounds_toArray, List.set_cons_zero, List.set_cons_succ]
        refine wpAnyH_ready (rs := [3]) (by kernel_rfl) (by simp) ?_
        refine AllReadyH.cons getop3 (fun K hK => ?_) ?_
        ·
          rw [if_pos (by rfl)]
          refine op_callN (xs := #[.tmp 32, .tmp 34]) (vs := #[treeV (some ⟨g_X0, 0, none⟩) z0.length z0.length, styleV n1]) rfl rfl (run_callFunc Try.func37 (by kernel_rfl) rfl) ((iAddNode_c _ _ _ n1 _ (((V0.keep hd0).keep ((Bel.refl _).alloc _)).keep g9) m0).mono ?_)
          rintro e u10 ⟨A10, c10, rfl, t10, g10⟩
          refine ⟨_, rfl, hK.out _ _ ((((hd0).alloc (.cells #[.slice none 0 0] 30)).trans g9).trans g10) (fun _ => ?_)⟩
          clear hK K
          simp only [Act.put, List.setIfInBounds_toArray, List.set_cons_zero, List.set_cons_succ]
          refine wpAnyH_take (i := 4) (v := .tuple #[treeV A10 ((addNodeT z0 n1).1).length c10, .int .i64 ((addNodeT z0 n1).2)]) getop4 (by kernel_rfl) (by kernel_rfl) (by kernel_rfl) (by rintro c a w ⟨h, _⟩; cases h) (Or.inl ⟨rfl, fun u _ => y_move rfl rfl⟩) ((((hd0).alloc (.cells #[.slice none 0 0] 30)).trans g9).trans g10) ?_
          simp only [Act.put, List.setIfInBounds_toArray, List.set_cons_zero, List.set_cons_succ]
          refine wpAnyH_take (i := 5) (v := treeV A10 ((addNodeT z0 n1).1).length c10) getop5 (by kernel_rfl) (by kernel_rfl) (by kernel_rfl) (by rintro c a w ⟨h, _⟩; cases h) (Or.inl ⟨rfl, fun u _ => y_extract0 rfl rfl⟩) ((((hd0).alloc (.cells #[.slice none 0 0] 30)).trans g9).trans g10) ?_
          simp only [Act.put, List.setIfInBounds_toArray, List.set_cons_zero, List.set_cons_succ]
          refine wpAnyH_take (i := 6) (v := .int .i64 ((addNodeT z0 n1).2)) getop6 (by kernel_rfl) (by kernel_rfl) (by kernel_rfl) (by rintro c a w ⟨h, _⟩; cases h) (Or.inl ⟨rfl, fun u _ => y_extract1 rfl rfl⟩) ((((hd0).alloc (.cells #[.slice none 0 0] 30)).trans g9).trans g10) ?_
          simp only [Act.put, List.setIfInBounds_toArray, List.set_cons_zero, List.set_cons_succ]
          refine wpAnyH_ready (rs := [8]) (by kernel_rfl) (by simp) ?_
          refine AllReadyH.cons getop8 (fun K hK => ?_) ?_
          ·
            rw [if_pos (by rfl)]
            refine op_storeTree rfl rfl rfl (there_kept (there_one w4.drew (.slice none 0 0) 30) (((Bel.refl (w4.drew.alloc (.cells #[.slice none 0 0] 30))).trans g9).trans g10) (by simp)) ?_
            refine hK.out _ _ (((((hd0).alloc (.cells #[.slice none 0 0] 30)).trans g9).trans g10).setCell (show w4.heap.size ≤ (w4.drew).heap.size from (hd0).sz) _) (fun _ => ?_)
            clear hK K
            simp only [Act.put, List.setIfInBounds_toArray, List.set_cons_zero, List.set_cons_succ]
            refine wpAnyH_take (i := 9) (v := .int .i64 ((addNodeT z0 n1).2)) getop9 (by kernel_rfl) (by kernel_rfl) (by kernel_rfl) (by rintro c a w ⟨h, _⟩; cases h) (Or.inl ⟨rfl, fun u _ => y_assign rfl rfl⟩) (((((hd0).alloc (.cells #[.slice none 0 0] 30)).trans g9).trans g10).setCell (show w4.heap.size ≤ (w4.drew).heap.size from (hd0).sz) _) ?_
            simp only [Act.put, List.setIfInBounds_toArray, List.set_cons_zero, List.set_cons_succ]
            obtain ⟨KS, RS, k1, k2, hF2, hB2⟩ := joinB (hd0) ((Bel.refl (w4.drew.alloc (.cells #[.slice none 0 0] 30))).trans g9) g10 t10
            refine wpAnyH_done (by kernel_rfl) (join_here (by kernel_rfl) ?_) _
            exact ⟨_, _, _, KS, RS, rfl, rfl, k1, k2, hF2, hB2⟩
          exact AllReadyH.nil
        exact AllReadyH.nil
      exact AllReadyH.nil
    exact AllReadyH.nil
  rintro y w5 ⟨bk_g0, A_g0, c_g0, KS_g0, RS_g0, hy1, hy2, k1_g0, k2_g0, HN0, hb5⟩
  simp only [setAll, List.foldl_cons, List.foldl_nil, List.setIfInBounds_toArray, List.set_cons_zero, List.set_cons_succ]
  rw [hy1, hy2]
  clear hy1 hy2 hd0
  have B5 : Bel w4 w5 := Bel.trans (by repeat (first | exact Bel.refl _ | refine Bel.alloc ?_ _ | refine Bel.drew ?_ | refine Bel.drewN ?_ _)) hb5
  have T5 : Bel w w5 := T4.trans B5
  replace xb0 := (B5.cell _ _ lb0).trans xb0
  replace lb0 := Nat.lt_of_lt_of_le lb0 B5.sz
  replace xw0b := (B5.cell _ _ lw0b).trans xw0b
  replace lw0b := Nat.lt_of_lt_of_le lw0b B5.sz
  replace xx0 := (B5.cell _ _ lx0).trans xx0
  replace lx0 := Nat.lt_of_lt_of_le lx0 B5.sz
  replace h0 := h0.keep B5
  have xg0b := boxF_cell (R := treeF (.slice A_g0 ((addNodeT z0 n1).1).length c_g0) ((addNodeT z0 n1).1) KS_g0 RS_g0) HN0
  have lg0b := World.block_lt_of_cell? _ _ xg0b
  replace HF := HF.more2 B5 HN0 hs
  clear HN0
  replace hs := Nat.le_trans hs B5.sz
  replace xs := hid' (range_bel xs.out B5 ls)
  replace ls := Nat.lt_of_lt_of_le ls B5.sz
  clear V0
  go_wp2_with fail
  refine (eqTree_c _ _ _ _ _ _ (treeF_nodesA k1_g0 k2_g0 (Fam.f1 HF)) (treeF_nodesA k1_w0 k2_w0 (Fam.f5 HF)) hzR).mono ?_
  rintro e w6 ⟨rfl, hb6⟩
  have B6 : Bel w5 w6 := Bel.trans (by repeat (first | exact Bel.refl _ | refine Bel.alloc ?_ _ | refine Bel.drew ?_ | refine Bel.drewN ?_ _)) hb6
  have T6 : Bel w w6 := T5.trans B6
  replace xb0 := (B6.cell _ _ lb0).trans xb0
  replace lb0 := Nat.lt_of_lt_of_le lb0 B6.sz
  replace xw0b := (B6.cell _ _ lw0b).trans xw0b
  replace lw0b := Nat.lt_of_lt_of_le lw0b B6.sz
  replace xx0 := (B6.cell _ _ lx0).trans xx0
  replace lx0 := Nat.lt_of_lt_of_le lx0 B6.sz
  replace xg0b := (B6.cell _ _ lg0b).trans xg0b
  replace lg0b := Nat.lt_of_lt_of_le lg0b B6.sz
  replace h0 := h0.keep B6
  replace HF := HF.keep B6
  replace hs := Nat.le_trans hs B6.sz
  replace xs := hid' (range_bel xs.out B6 ls)
  replace ls := Nat.lt_of_lt_of_le ls B6.sz
  have VX0 := (treeF_nodesC k1_X0 k2_X0 (Fam.f3 HF))
  go_wp2_with fail
  have hd0 : Bel w6 (w6).drew := by repeat (first | exact Bel.refl _ | refine Bel.drew ?_ | refine Bel.alloc ?_ _)
  have xdb0 : ((w6).drew).cell? ⟨w.heap.size, 0, none⟩ = some (.slice A0 z0.length c0) := (hd0.cell _ _ lb0).trans xb0
  have ldb0 : w.heap.size < ((w6).drew).heap.size := Nat.lt_of_lt_of_le lb0 hd0.sz
  have xdw0b : ((w6).drew).cell? ⟨bk_w0, 0, none⟩ = some (.slice A_w0 ((addNodeT z0 n1).1).length c_w0) := (hd0.cell _ _ lw0b).trans xw0b
  have ldw0b : bk_w0 < ((w6).drew).heap.size := Nat.lt_of_lt_of_le lw0b hd0.sz
  have xdx0 : ((w6).drew).cell? ⟨w3.heap.size, 0, none⟩ = some (.slice (some ⟨g_X0, 0, none⟩) z0.length z0.length) := (hd0.cell _ _ lx0).trans xx0
  have ldx0 : w3.heap.size < ((w6).drew).heap.size := Nat.lt_of_lt_of_le lx0 hd0.sz
  have xdg0b : ((w6).drew).cell? ⟨bk_g0, 0, none⟩ = some (.slice A_g0 ((addNodeT z0 n1).1).length c_g0) := (hd0.cell _ _ lg0b).trans xg0b
  have ldg0b : bk_g0 < ((w6).drew).heap.size := Nat.lt_of_lt_of_le lg0b hd0.sz
  have tok0 : True := trivial
  have tok1 : True := trivial
  go_region_held3 (fun u => Bel w6 u ∧ u.cell? ⟨w.heap.size, 0, none⟩ = some (.slice A0 z0.length c0) ∧ u.cell? ⟨bk_w0, 0, none⟩ = some (.slice A_w0 ((addNodeT z0 n1).1).length c_w0) ∧ u.cell? ⟨w3.heap.size, 0, none⟩ = some (.slice (some ⟨g_X0, 0, none⟩) z0.length z0.length) ∧ u.cell? ⟨bk_g0, 0, none⟩ = some (.slice A_g0 ((addNodeT z0 n1).1).length c_g0))
    ((first | exact ⟨bq1, yb0_1, yw0b_1, yx0_1, yg0b_1⟩ | exact ⟨bq0, yb0_0, yw0b_0, yx0_0, yg0b_0⟩ | exact ⟨hd0, xdb0, xdw0b, xdx0, xdg0b⟩))
    (first | (go_at_call 13; have _t := tok0; refine (toTree_c _ _ _ _ (h0.keep hd0) m0).mono ?_; rintro e u0 ⟨g_Q, rfl, o_Q, hq0⟩; have bq0 : Bel w6 u0 := hd0.trans hq0; have yb0_0 := (hq0.cell _ _ ldb0).trans xdb0; have nb0_0 : w.heap.size < u0.heap.size := Nat.lt_of_lt_of_le ldb0 hq0.sz; have yw0b_0 := (hq0.cell _ _ ldw0b).trans xdw0b; have nw0b_0 : bk_w0 < u0.heap.size := Nat.lt_of_lt_of_le ldw0b hq0.sz; have yx0_0 := (hq0.cell _ _ ldx0).trans xdx0; have nx0_0 : w3.heap.size < u0.heap.size := Nat.lt_of_lt_of_le ldx0 hq0.sz; have yg0b_0 := (hq0.cell _ _ ldg0b).trans xdg0b; have ng0b_0 : bk_g0 < u0.heap.size := Nat.lt_of_lt_of_le ldg0b hq0.sz; have Q0 := (o_Q).nodes1; clear o_Q; clear tok0 _t) | (go_at_call 16; have _t := tok1; refine (eqTree_c _ _ _ _ _ _ (VX0.keep bq0).nodes Q0 m0).mono ?_; rintro e w7 ⟨rfl, hq1⟩; have bq1 : Bel w6 w7 := bq0.trans hq1; have yb0_1 := (hq1.cell _ _ nb0_0).trans yb0_0; have nb0_1 : w.heap.size < w7.heap.size := Nat.lt_of_lt_of_le nb0_0 hq1.sz; have yw0b_1 := (hq1.cell _ _ nw0b_0).trans yw0b_0; have nw0b_1 : bk_w0 < w7.heap.size := Nat.lt_of_lt_of_le nw0b_0 hq1.sz; have yx0_1 := (hq1.cell _ _ nx0_0).trans yx0_0; have nx0_1 : w3.heap.size < w7.heap.size := Nat.lt_of_lt_of_le nx0_0 hq1.sz; have yg0b_1 := (hq1.cell _ _ ng0b_0).trans yg0b_0; have ng0b_1 : bk_g0 < w7.heap.size := Nat.lt_of_lt_of_le ng0b_0 hq1.sz; clear Q0 VX0; clear tok1 _t))
  have B7 : Bel w6 w7 := bq1
  have T7 : Bel w w7 := T6.trans B7
  replace xb0 := yb0_1
  replace lb0 := nb0_1
  replace xw0b := yw0b_1
  replace lw0b := nw0b_1
  replace xx0 := yx0_1
  replace lx0 := nx0_1
  replace xg0b := yg0b_1
  replace lg0b := ng0b_1
  replace h0 := h0.keep B7
  clear bq0 hq0 yb0_0 nb0_0 yw0b_0 nw0b_0 yx0_0 nx0_0 yg0b_0 ng0b_0
  clear bq1 hq1 hd0 yb0_1 nb0_1 xdb0 ldb0 yw0b_1 nw0b_1 xdw0b ldw0b yx0_1 nx0_1 xdx0 ldx0 yg0b_1 ng0b_1 xdg0b ldg0b
  replace HF := HF.keep B7
  replace hs := Nat.le_trans hs B7.sz
  replace xs := hid' (range_bel xs.out B7 ls)
  replace ls := Nat.lt_of_lt_of_le ls B7.sz
  clear xw0b lw0b
  clear xx0 lx0
  clear xg0b lg0b
  replace HF := Fam.f3 HF
  go_wp2_with fail
  refine (markTree_c _ _ _ _ _ _ _ _ _ k1_X0 k2_X0 HF hs m0 (by omega)).mono ?_
  rintro e w8 ⟨rfl, HF', hlow⟩
  replace HF := HF'
  clear HF'
  replace xs := hid' (range_below xs.out hlow lbs)
  replace ls := Nat.lt_of_lt_of_le ls hlow.size
  have B8 : Below w1.heap.size w7 w8 := hlow
  have T8 : Bel w w8 := T7.belowT hlow hBS
  replace xb0 := (Below.cell (p := ⟨w.heap.size, 0, none⟩) hlow lbb0).trans xb0
  replace lb0 := Nat.lt_of_lt_of_le lb0 hlow.size
  replace h0 := h00.keep T8
  replace hs := Nat.le_trans hs hlow.size
  clear hlow
  have xw0b := boxF_cell (Fam.f4 HF)
  have lw0b := World.block_lt_of_cell? _ _ xw0b
  have xx0 := boxF_cell (Fam.f3 HF)
  have lx0 := World.block_lt_of_cell? _ _ xx0
  have xg0b := boxF_cell (Fam.f1 HF)
  have lg0b := World.block_lt_of_cell? _ _ xg0b
  replace HF := HF.tail1
  go_wp2_with fail
  refine (eqTree_c _ _ _ _ _ _ (treeF_nodesA k1_g0 k2_g0 (Fam.f1 HF)) (treeF_nodesA k1_w0 k2_w0 (Fam.f4 HF)) hzR).mono ?_
  rintro e w9 ⟨rfl, hb9⟩
  have B9 : Bel w8 w9 := Bel.trans (by repeat (first | exact Bel.refl _ | refine Bel.alloc ?_ _ | refine Bel.drew ?_ | refine Bel.drewN ?_ _)) hb9
  have T9 : Bel w w9 := T8.trans B9
  replace xb0 := (B9.cell _ _ lb0).trans xb0
  replace lb0 := Nat.lt_of_lt_of_le lb0 B9.sz
  replace xw0b := (B9.cell _ _ lw0b).trans xw0b
  replace lw0b := Nat.lt_of_lt_of_le lw0b B9.sz
  replace xx0 := (B9.cell _ _ lx0).trans xx0
  replace lx0 := Nat.lt_of_lt_of_le lx0 B9.sz
  replace xg0b := (B9.cell _ _ lg0b).trans xg0b
  replace lg0b := Nat.lt_of_lt_of_le lg0b B9.sz
  replace h0 := h0.keep B9
  replace HF := HF.keep B9
  replace hs := Nat.le_trans hs B9.sz
  replace xs := hid' (range_bel xs.out B9 ls)
  replace ls := Nat.lt_of_lt_of_le ls B9.sz
  go_wp2_with fail
  replace HF := Fam.f1 HF
  clear xw0b lw0b
  clear xx0 lx0
  clear xg0b lg0b
  refine (markTree_c _ _ _ _ _ _ _ _ _ k1_g0 k2_g0 HF hs hzR (by omega)).mono ?_
  rintro e w10 ⟨rfl, HF', hlow⟩
  replace HF := HF'
  clear HF'
  replace xs := hid' (range_below xs.out hlow lbs)
  replace ls := Nat.lt_of_lt_of_le ls hlow.size
  have B10 : Below w1.heap.size w9 w10 := hlow
  have T10 : Bel w w10 := T9.belowT hlow hBS
  replace xb0 := (Below.cell (p := ⟨w.heap.size, 0, none⟩) hlow lbb0).trans xb0
  replace lb0 := Nat.lt_of_lt_of_le lb0 hlow.size
  replace h0 := h00.keep T10
  replace hs := Nat.le_trans hs hlow.size
  clear hlow
  have xw0b := boxF_cell (Fam.f3 HF)
  have lw0b := World.block_lt_of_cell? _ _ xw0b
  have xx0 := boxF_cell (Fam.f2 HF)
  have lx0 := World.block_lt_of_cell? _ _ xx0
  have xg0b := boxF_cell (Fam.f1 HF)
  have lg0b := World.block_lt_of_cell? _ _ xg0b
  go_wp2_with fail
  refine (heldTree_c _ _ _ _ _ _ _ _ _ k1_g0 k2_g0 HF hzR (by omega)).mono ?_
  rintro e w11 ⟨rfl, hb11⟩
  have B11 : Bel w10 w11 := Bel.trans (by repeat (first | exact Bel.refl _ | refine Bel.alloc ?_ _ | refine Bel.drew ?_ | refine Bel.drewN ?_ _)) hb11
  have T11 : Bel w w11 := T10.trans B11
  replace xb0 := (B11.cell _ _ lb0).trans xb0
  replace lb0 := Nat.lt_of_lt_of_le lb0 B11.sz
  replace xw0b := (B11.cell _ _ lw0b).trans xw0b
  replace lw0b := Nat.lt_of_lt_of_le lw0b B11.sz
  replace xx0 := (B11.cell _ _ lx0).trans xx0
  replace lx0 := Nat.lt_of_lt_of_le lx0 B11.sz
  replace xg0b := (B11.cell _ _ lg0b).trans xg0b
  replace lg0b := Nat.lt_of_lt_of_le lg0b B11.sz
  replace h0 := h0.keep B11
  replace HF := HF.keep B11
  replace hs := Nat.le_trans hs B11.sz
  replace xs := hid' (range_bel xs.out B11 ls)
  replace ls := Nat.lt_of_lt_of_le ls B11.sz
  go_wp2_with fail
  have hd0 : Bel w11 w11.drew := (Bel.refl w11).drew
  refine wp_join [14, 15, 79, 80, 81, 82, 83, 84, 85, 86] (fun y u => ∃ bk A c' KS RS, y 14 = .pointer (some ⟨bk, 0, none⟩) ∧ y 15 = .int .i64 ((addNodeT z0 n1).2) ∧ KS.length = ((addNodeT z0 n1).1).length ∧ RS.length = ((addNodeT z0 n1).1).length ∧ Fam u w11.heap.size (boxF bk (.slice A ((addNodeT z0 n1).1).length c') ++ treeF (.slice A ((addNodeT z0 n1).1).length c') ((addNodeT z0 n1).1) KS RS) ∧ Bel w11 u) ?_ ?_
  ·
    refine wp_region_held_drew (S := (fun u => Bel w11 u)) (by kernel_rfl) hd0 (fun _ => ?_)
    refine wpAnyH_take (i := 0) (v := (.agg #[.slice A0 z0.length c0])) getop0 (by kernel_rfl) (by kernel_rfl) (by kernel_rfl) (by rintro c a w ⟨h, _⟩; cases h) (yieldsIf_load_mid (by rfl) 24 _ rfl (w.heap.size) 0 rfl [.slice A0 z0.length c0] _ (fun u hu => range_one ((hu.cell _ _ lb0).trans xb0)) Try.underlying24 rfl (by show _ = some 1; kernel_rfl)) (hd0) ?_
    simp only [Act.put, List.setIfInBounds_toArray, List.set_cons_zero, List.set_cons_succ]
    refine wpAnyH_take (i := 2) (v := (.agg (styleL n1).toArray)) getop2 (by kernel_rfl) (by kernel_rfl) (by kernel_rfl) (by rintro c a w ⟨h, _⟩; cases h) (yieldsIf_load_mid (by rfl) 61 _ rfl (w.heap.size + 1) 0 rfl (styleL n1) _ (fun u hu => range_bel xs.out hu ls) Try.underlying61 rfl (by rw [h_l60]; kernel_rfl)) (hd0) ?_
    simp only [Act.put, List.setIfInBounds_toArray, List.set_cons_zero, List.set_cons_succ]
    refine wpAnyH_ready (rs := [1, 8]) (by kernel_rfl) (by simp) ?_
    refine AllReadyH.cons getop1 (fun K hK => ?_) ?_
    ·
      rw [if_pos (by rfl)]
      refine op_callN (xs := #[.tmp 80]) (vs := #[.agg #[.slice A0 z0.length c0]]) rfl rfl (run_callFunc Try.func13 (by kernel_rfl) rfl) ((toTree_c _ _ _ _ (h0.keep (hd0)) m0).mono ?_)
      rintro e u1 ⟨gS1, rfl, oS1, g1⟩
      have NS1 := oS1.nodesC
      clear oS1
      refine ⟨_, rfl, hK.out _ _ ((hd0).trans g1) (fun _ => ?_)⟩
      clear hK K
      simp only [Act.put, List.setIfInBounds_toArray, List.set_cons_zero, List.set_cons_succ]
      refine wpAnyH_ready (rs := [3, 8]) (by kernel_rfl) (by simp) ?_
      refine AllReadyH.cons getop3 (fun K hK => ?_) ?_
      ·
        rw [if_pos (by rfl)]
        refine op_callN (xs := #[.tmp 82]) (vs := #[.agg (styleL n1).toArray]) rfl rfl (run_callFunc Try.func36 (by kernel_rfl) rfl) ((toStyle_c n1 _).mono ?_)
        rintro e u2 ⟨rfl, g2⟩
        refine ⟨_, rfl, hK.out _ _ (((hd0).trans g1).trans g2) (fun _ => ?_)⟩
        clear hK K
        simp only [Act.put, List.setIfInBounds_toArray, List.set_cons_zero, List.set_cons_succ]
        refine wpAnyH_ready (rs := [4, 8]) (by kernel_rfl) (by simp) ?_
        refine AllReadyH.cons getop4 (fun K hK => ?_) ?_
        ·
          rw [if_pos (by rfl)]
          refine op_callN (xs := #[.tmp 81, .tmp 83]) (vs := #[treeV (some ⟨gS1, 0, none⟩) z0.length z0.length, styleV n1]) rfl rfl (run_callFunc Try.func37 (by kernel_rfl) rfl) ((iAddNode_c _ _ _ n1 _ ((NS1).keep g2) m0).mono ?_)
          rintro e u3 ⟨A3, c3, rfl, t3, g3⟩
          refine ⟨_, rfl, hK.out _ _ ((((hd0).trans g1).trans g2).trans g3) (fun _ => ?_)⟩
          clear hK K
          simp only [Act.put, List.setIfInBounds_toArray, List.set_cons_zero, List.set_cons_succ]
          refine wpAnyH_take (i := 5) (v := .tuple #[treeV A3 ((addNodeT z0 n1).1).length c3, .int .i64 ((addNodeT z0 n1).2)]) getop5 (by kernel_rfl) (by kernel_rfl) (by kernel_rfl) (by rintro c a w ⟨h, _⟩; cases h) (Or.inl ⟨rfl, fun u _ => y_move rfl rfl⟩) ((((hd0).trans g1).trans g2).trans g3) ?_
          simp only [Act.put, List.setIfInBounds_toArray, List.set_cons_zero, List.set_cons_succ]
          refine wpAnyH_take (i := 6) (v := treeV A3 ((addNodeT z0 n1).1).length c3) getop6 (by kernel_rfl) (by kernel_rfl) (by kernel_rfl) (by rintro c a w ⟨h, _⟩; cases h) (Or.inl ⟨rfl, fun u _ => y_extract0 rfl rfl⟩) ((((hd0).trans g1).trans g2).trans g3) ?_
          simp only [Act.put, List.setIfInBounds_toArray, List.set_cons_zero, List.set_cons_succ]
          refine wpAnyH_take (i := 7) (v := .int .i64 ((addNodeT z0 n1).2)) getop7 (by kernel_rfl) (by kernel_rfl) (by kernel_rfl) (by rintro c a w ⟨h, _⟩; cases h) (Or.inl ⟨rfl, fun u _ => y_extract1 rfl rfl⟩) ((((hd0).trans g1).trans g2).trans g3) ?_
          simp only [Act.put, List.setIfInBounds_toArray, List.set_cons_zero, List.set_cons_succ]
          refine wpAnyH_ready (rs := [8]) (by kernel_rfl) (by simp) ?_
          refine AllReadyH.cons getop8 (fun K hK => ?_) ?_
          ·
            rw [if_pos (by rfl)]
            refine op_allocTree rfl ?_
            refine hK.out _ _ (((((hd0).trans g1).trans g2).trans g3).alloc _) (fun _ => ?_)
            clear hK K
            simp only [Act.put, List.setIfInBounds_toArray, List.set_cons_zero, List.set_cons_succ]
            refine wpAnyH_ready (rs := [9]) (by kernel_rfl) (by simp) ?_
            refine AllReadyH.cons getop9 (fun K hK => ?_) ?_
            ·
              rw [if_pos (by rfl)]
              refine op_storeTree rfl rfl rfl (there_kept (there_one u3 (.slice none 0 0) 30) (Bel.refl (u3.alloc (.cells #[.slice none 0 0] 30))) (by simp)) ?_
              refine hK.out _ _ ((((((hd0).trans g1).trans g2).trans g3).alloc (.cells #[.slice none 0 0] 30)).setCell (show w11.heap.size ≤ (u3).heap.size from ((((hd0).trans g1).trans g2).trans g3).sz) _) (fun _ => ?_)
              clear hK K
              simp only [Act.put, List.setIfInBounds_toArray, List.set_cons_zero, List.set_cons_succ]
              refine wpAnyH_take (i := 10) (v := .int .i64 ((addNodeT z0 n1).2)) getop10 (by kernel_rfl) (by kernel_rfl) (by kernel_rfl) (by rintro c a w ⟨h, _⟩; cases h) (Or.inl ⟨rfl, fun u _ => y_assign rfl rfl⟩) ((((((hd0).trans g1).trans g2).trans g3).alloc (.cells #[.slice none 0 0] 30)).setCell (show w11.heap.size ≤ (u3).heap.size from ((((hd0).trans g1).trans g2).trans g3).sz) _) ?_
              simp only [Act.put, List.setIfInBounds_toArray, List.set_cons_zero, List.set_cons_succ]
              obtain ⟨KS, RS, k1, k2, hF2, hB2⟩ := joinC (((hd0).trans g1).trans g2) g3 t3
              refine wpAnyH_done (by kernel_rfl) (join_here (by kernel_rfl) ?_) _
              exact ⟨_, _, _, KS, RS, rfl, rfl, k1, k2, hF2, hB2⟩
            exact AllReadyH.nil
          exact AllReadyH.nil
        refine AllReadyH.cons getop8 (fun K hK => ?_) ?_
        ·
          rw [if_pos (by rfl)]
          refine op_allocTree rfl ?_
          refine hK.out _ _ ((((hd0).trans g1).trans g2).alloc _) (fun _ => ?_)
          clear hK K
          simp only [Act.put, List.setIfInBounds_toArray, List.set_cons_zero, List.set_cons_succ]
          refine wpAnyH_ready (rs := [4]) (by kernel_rfl) (by simp) ?_
          refine AllReadyH.cons getop4 (fun K hK => ?_) ?_
          ·
            rw [if_pos (by rfl)]
            refine op_callN (xs := #[.tmp 81, .tmp 83]) (vs := #[treeV (some ⟨gS1, 0, none⟩) z0.length z0.length, styleV n1]) rfl rfl (run_callFunc Try.func37 (by kernel_rfl) rfl) ((iAddNode_c _ _ _ n1 _ (((NS1).keep g2).keep ((Bel.refl _).alloc _)) m0).mono ?_)
            rintro e u7 ⟨A7, c7, rfl, t7, g7⟩
            refine ⟨_, rfl, hK.out _ _ (((((hd0).trans g1).trans g2).alloc (.cells #[.slice none 0 0] 30)).trans g7) (fun _ => ?_)⟩
            clear hK K
            simp only [Act.put, List.setIfInBounds_toArray, List.set_cons_zero, List.set_cons_succ]
            refine wpAnyH_take (i := 5) (v := .tuple #[treeV A7 ((addNodeT z0 n1).1).length c7, .int .i64 ((addNodeT z0 n1).2)]) getop5 (by kernel_rfl) (by kernel_rfl) (by kernel_rfl) (by rintro c a w ⟨h, _⟩; cases h) (Or.inl ⟨rfl, fun u _ => y_move rfl rfl⟩) (((((hd0).trans g1).trans g2).alloc (.cells #[.slice none 0 0] 30)).trans g7) ?_
            simp only [Act.put, List.setIfInBounds_toArray, List.set_cons_zero, List.set_cons_succ]
            refine wpAnyH_take (i := 6) (v := treeV A7 ((addNodeT z0 n1).1).length c7) getop6 (by kernel_rfl) (by kernel_rfl) (by kernel_rfl) (by rintro c a w ⟨h, _⟩; cases h) (Or.inl ⟨rfl, fun u _ => y_extract0 rfl rfl⟩) (((((hd0).trans g1).trans g2).alloc (.cells #[.slice none 0 0] 30)).trans g7) ?_
            simp only [Act.put, List.setIfInBounds_toArray, List.set_cons_zero, List.set_cons_succ]
            refine wpAnyH_take (i := 7) (v := .int .i64 ((addNodeT z0 n1).2)) getop7 (by kernel_rfl) (by kernel_rfl) (by kernel_rfl) (by rintro c a w ⟨h, _⟩; cases h) (Or.inl ⟨rfl, fun u _ => y_extract1 rfl rfl⟩) (((((hd0).trans g1).trans g2).alloc (.cells #[.slice none 0 0] 30)).trans g7) ?_
            simp only [Act.put, List.setIfInBounds_toArray, List.set_cons_zero, List.set_cons_succ]
            refine wpAnyH_ready (rs := [9]) (by kernel_rfl) (by simp) ?_
            refine AllReadyH.cons getop9 (fun K hK => ?_) ?_
            ·
              rw [if_pos (by rfl)]
              refine op_storeTree rfl rfl rfl (there_kept (there_one u2 (.slice none 0 0) 30) ((Bel.refl (u2.alloc (.cells #[.slice none 0 0] 30))).trans g7) (by simp)) ?_
              refine hK.out _ _ ((((((hd0).trans g1).trans g2).alloc (.cells #[.slice none 0 0] 30)).trans g7).setCell (show w11.heap.size ≤ (u2).heap.size from (((hd0).trans g1).trans g2).sz) _) (fun _ => ?_)
              clear hK K
              simp only [Act.put, List.setIfInBounds_toArray, List.set_cons_zero, List.set_cons_succ]
              refine wpAnyH_take (i := 10) (v := .int .i64 ((addNodeT z0 n1).2)) getop10 (by kernel_rfl) (by kernel_rfl) (by kernel_rfl) (by rintro c a w ⟨h, _⟩; cases h) (Or.inl ⟨rfl, fun u _ => y_assign rfl rfl⟩) ((((((hd0).trans g1).trans g2).alloc (.cells #[.slice none 0 0] 30)).trans g7).setCell (show w11.heap.size ≤ (u2).heap.size from (((hd0).trans g1).trans g2).sz) _) ?_
              simp only [Act.put, List.setIfInBounds_toArray, List.set_cons_zero, List.set_cons_succ]
              obtain ⟨KS, RS, k1, k2, hF2, hB2⟩ := joinB (((hd0).trans g1).trans g2) (Bel.refl (u2.alloc (.cells #[.slice none 0 0] 30))) g7 t7
              refine wpAnyH_done (by kernel_rfl) (join_here (by kernel_rfl) ?_) _
              exact ⟨_, _, _, KS, RS, rfl, rfl, k1, k2, hF2, hB2⟩
            exact AllReadyH.nil
          exact AllReadyH.nil
        exact AllReadyH.nil
      refine AllReadyH.cons getop8 (fun K hK => ?_) ?_
      ·
        rw [if_pos (by rfl)]
        refine op_allocTree rfl ?_
        refine hK.out _ _ (((hd0).trans g1).alloc _) (fun _ => ?_)
        clear hK K
        simp only [Act.put, List.setIfInBounds_toArray, List.set_cons_zero, List.set_cons_succ]
        refine wpAnyH_ready (rs := [3]) (by kernel_rfl) (by simp) ?_
        refine AllReadyH.cons getop3 (fun K hK => ?_) ?_
        ·
          rw [if_pos (by rfl)]
          refine op_callN (xs := #[.tmp 82]) (vs := #[.agg (styleL n1).toArray]) rfl rfl (run_callFunc Try.func36 (by kernel_rfl) rfl) ((toStyle_c n1 _).mono ?_)
          rintro e u10 ⟨rfl, g10⟩
          refine ⟨_, rfl, hK.out _ _ ((((hd0).trans g1).alloc (.cells #[.slice none 0 0] 30)).trans g10) (fun _ => ?_)⟩
          clear hK K
          simp only [Act.put, List.setIfInBounds_toArray, List.set_cons_zero, List.set_cons_succ]
          refine wpAnyH_ready (rs := [4]) (by kernel_rfl) (by simp) ?_
          refine AllReadyH.cons getop4 (fun K hK => ?_) ?_
          ·
            rw [if_pos (by rfl)]
            refine op_callN (xs := #[.tmp 81, .tmp 83]) (vs := #[treeV (some ⟨gS1, 0, none⟩) z0.length z0.length, styleV n1]) rfl rfl (run_callFunc Try.func37 (by kernel_rfl) rfl) ((iAddNode_c _ _ _ n1 _ (((NS1).keep ((Bel.refl _).alloc _)).keep g10) m0).mono ?_)
            rintro e u11 ⟨A11, c11, rfl, t11, g11⟩
            refine ⟨_, rfl, hK.out _ _ (((((hd0).trans g1).alloc (.cells #[.slice none 0 0] 30)).trans g10).trans g11) (fun _ => ?_)⟩
            clear hK K
            simp only [Act.put, List.setIfInBounds_toArray, List.set_cons_zero, List.set_cons_succ]
            refine wpAnyH_take (i := 5) (v := .tuple #[treeV A11 ((addNodeT z0 n1).1).length c11, .int .i64 ((addNodeT z0 n1).2)]) getop5 (by kernel_rfl) (by kernel_rfl) (by kernel_rfl) (by rintro c a w ⟨h, _⟩; cases h) (Or.inl ⟨rfl, fun u _ => y_move rfl rfl⟩) (((((hd0).trans g1).alloc (.cells #[.slice none 0 0] 30)).trans g10).trans g11) ?_
            simp only [Act.put, List.setIfInBounds_toArray, List.set_cons_zero, List.set_cons_succ]
            refine wpAnyH_take (i := 6) (v := treeV A11 ((addNodeT z0 n1).1).length c11) getop6 (by kernel_rfl) (by kernel_rfl) (by kernel_rfl) (by rintro c a w ⟨h, _⟩; cases h) (Or.inl ⟨rfl, fun u _ => y_extract0 rfl rfl⟩) (((((hd0).trans g1).alloc (.cells #[.slice none 0 0] 30)).trans g10).trans g11) ?_
            simp only [Act.put, List.setIfInBounds_toArray, List.set_cons_zero, List.set_cons_succ]
            refine wpAnyH_take (i := 7) (v := .int .i64 ((addNodeT z0 n1).2)) getop7 (by kernel_rfl) (by kernel_rfl) (by kernel_rfl) (by rintro c a w ⟨h, _⟩; cases h) (Or.inl ⟨rfl, fun u _ => y_extract1 rfl rfl⟩) (((((hd0).trans g1).alloc (.cells #[.slice none 0 0] 30)).trans g10).trans g11) ?_
            simp only [Act.put, List.setIfInBounds_toArray, List.set_cons_zero, List.set_cons_succ]
            refine wpAnyH_ready (rs := [9]) (by kernel_rfl) (by simp) ?_
            refine AllReadyH.cons getop9 (fun K hK => ?_) ?_
            ·
              rw [if_pos (by rfl)]
              refine op_storeTree rfl rfl rfl (there_kept (there_one u1 (.slice none 0 0) 30) (((Bel.refl (u1.alloc (.cells #[.slice none 0 0] 30))).trans g10).trans g11) (by simp)) ?_
              refine hK.out _ _ ((((((hd0).trans g1).alloc (.cells #[.slice none 0 0] 30)).trans g10).trans g11).setCell (show w11.heap.size ≤ (u1).heap.size from ((hd0).trans g1).sz) _) (fun _ => ?_)
              clear hK K
              simp only [Act.put, List.setIfInBounds_toArray, List.set_cons_zero, List.set_cons_succ]
              refine wpAnyH_take (i := 10) (v := .int .i64 ((addNodeT z0 n1).2)) getop10 (by kernel_rfl) (by kernel_rfl) (by kernel_rfl) (by rintro c a w ⟨h, _⟩; cases h) (Or.inl ⟨rfl, fun u _ => y_assign rfl rfl⟩) ((((((hd0).trans g1).alloc (.cells #[.slice none 0 0] 30)).trans g10).trans g11).setCell (show w11.heap.size ≤ (u1).heap.size from ((hd0).trans g1).sz) _) ?_
              simp only [Act.put, List.setIfInBounds_toArray, List.set_cons_zero, List.set_cons_succ]
              obtain ⟨KS, RS, k1, k2, hF2, hB2⟩ := joinB ((hd0).trans g1) ((Bel.refl (u1.alloc (.cells #[.slice none 0 0] 30))).trans g10) g11 t11
              refine wpAnyH_done (by kernel_rfl) (join_here (by kernel_rfl) ?_) _
              exact ⟨_, _, _, KS, RS, rfl, rfl, k1, k2, hF2, hB2⟩
            exact AllReadyH.nil
          exact AllReadyH.nil
        exact AllReadyH.nil
      exact AllReadyH.nil
    refine AllReadyH.cons getop8 (fun K hK => ?_) ?_
    ·
      rw [if_pos (by rfl)]
      refine op_allocTree rfl ?_
      refine hK.out _ _ ((hd0).alloc _) (fun _ => ?_)
      clear hK K
      simp only [Act.put, List.setIfInBounds_toArray, List.set_cons_zero, List.set_cons_succ]
      refine wpAnyH_ready (rs := [1]) (by kernel_rfl) (by simp) ?_
      refine AllReadyH.cons getop1 (fun K hK => ?_) ?_
      ·
        rw [if_pos (by rfl)]
        refine op_callN (xs := #[.tmp 80]) (vs := #[.agg #[.slice A0 z0.length c0]]) rfl rfl (run_callFunc Try.func13 (by kernel_rfl) rfl) ((toTree_c _ _ _ _ (h0.keep ((hd0).alloc (.cells #[.slice none 0 0] 30))) m0).mono ?_)
        rintro e u14 ⟨gS14, rfl, oS14, g14⟩
        have NS14 := oS14.nodesC
        clear oS14
        refine ⟨_, rfl, hK.out _ _ (((hd0).alloc (.cells #[.slice none 0 0] 30)).trans g14) (fun _ => ?_)⟩
        clear hK K
        simp only [Act.put, List.setIfInBounds_toArray, List.set_cons_zero, List.set_cons_succ]
        refine wpAnyH_ready (rs := [3]) (by kernel_rfl) (by simp) ?_
        refine AllReadyH.cons getop3 (fun K hK => ?_) ?_
        ·
          rw [if_pos (by rfl)]
          refine op_callN (xs := #[.tmp 82]) (vs := #[.agg (styleL n1).toArray]) rfl rfl (run_callFunc Try.func36 (by kernel_rfl) rfl) ((toStyle_c n1 _).mono ?_)
          rintro e u15 ⟨rfl, g15⟩
          refine ⟨_, rfl, hK.out _ _ ((((hd0).alloc (.cells #[.slice none 0 0] 30)).trans g14).trans g15) (fun _ => ?_)⟩
          clear hK K
          simp only [Act.put, List.setIfInBounds_toArray, List.set_cons_zero, List.set_cons_succ]
          refine wpAnyH_ready (rs := [4]) (by kernel_rfl) (by simp) ?_
          refine AllReadyH.cons getop4 (fun K hK => ?_) ?_
          ·
            rw [if_pos (by rfl)]
            refine op_callN (xs := #[.tmp 81, .tmp 83]) (vs := #[treeV (some ⟨gS14, 0, none⟩) z0.length z0.length, styleV n1]) rfl rfl (run_callFunc Try.func37 (by kernel_rfl) rfl) ((iAddNode_c _ _ _ n1 _ ((NS14).keep g15) m0).mono ?_)
            rintro e u16 ⟨A16, c16, rfl, t16, g16⟩
            refine ⟨_, rfl, hK.out _ _ (((((hd0).alloc (.cells #[.slice none 0 0] 30)).trans g14).trans g15).trans g16) (fun _ => ?_)⟩
            clear hK K
            simp only [Act.put, List.setIfInBounds_toArray, List.set_cons_zero, List.set_cons_succ]
            refine wpAnyH_take (i := 5) (v := .tuple #[treeV A16 ((addNodeT z0 n1).1).length c16, .int .i64 ((addNodeT z0 n1).2)]) getop5 (by kernel_rfl) (by kernel_rfl) (by kernel_rfl) (by rintro c a w ⟨h, _⟩; cases h) (Or.inl ⟨rfl, fun u _ => y_move rfl rfl⟩) (((((hd0).alloc (.cells #[.slice none 0 0] 30)).trans g14).trans g15).trans g16) ?_
            simp only [Act.put, List.setIfInBounds_toArray, List.set_cons_zero, List.set_cons_succ]
            refine wpAnyH_take (i := 6) (v := treeV A16 ((addNodeT z0 n1).1).length c16) getop6 (by kernel_rfl) (by kernel_rfl) (by kernel_rfl) (by rintro c a w ⟨h, _⟩; cases h) (Or.inl ⟨rfl, fun u _ => y_extract0 rfl rfl⟩) (((((hd0).alloc (.cells #[.slice none 0 0] 30)).trans g14).trans g15).trans g16) ?_
            simp only [Act.put, List.setIfInBounds_toArray, List.set_cons_zero, List.set_cons_succ]
            refine wpAnyH_take (i := 7) (v := .int .i64 ((addNodeT z0 n1).2)) getop7 (by kernel_rfl) (by kernel_rfl) (by kernel_rfl) (by rintro c a w ⟨h, _⟩; cases h) (Or.inl ⟨rfl, fun u _ => y_extract1 rfl rfl⟩) (((((hd0).alloc (.cells #[.slice none 0 0] 30)).trans g14).trans g15).trans g16) ?_
            simp only [Act.put, List.setIfInBounds_toArray, List.set_cons_zero, List.set_cons_succ]
            refine wpAnyH_ready (rs := [9]) (by kernel_rfl) (by simp) ?_
            refine AllReadyH.cons getop9 (fun K hK => ?_) ?_
            ·
              rw [if_pos (by rfl)]
              refine op_storeTree rfl rfl rfl (there_kept (there_one w11.drew (.slice none 0 0) 30) ((((Bel.refl (w11.drew.alloc (.cells #[.slice none 0 0] 30))).trans g14).trans g15).trans g16) (by simp)) ?_
              refine hK.out _ _ ((((((hd0).alloc (.cells #[.slice none 0 0] 30)).trans g14).trans g15).trans g16).setCell (show w11.heap.size ≤ (w11.drew).heap.size from (hd0).sz) _) (fun _ => ?_)
              clear hK K
              simp only [Act.put, List.setIfInBounds_toArray, List.set_cons_zero, List.set_cons_succ]
              refine wpAnyH_take (i := 10) (v := .int .i64 ((addNodeT z0 n1).2)) getop10 (by kernel_rfl) (by kernel_rfl) (by kernel_rfl) (by rintro c a w ⟨h, _⟩; cases h) (Or.inl ⟨rfl, fun u _ => y_assign rfl rfl⟩) ((((((hd0).alloc (.cells #[.slice none 0 0] 30)).trans g14).trans g15).trans g16).setCell (show w11.heap.size ≤ (w11.drew).heap.size from (hd0).sz) _) ?_
              simp only [Act.put, List.setIfInBounds_toArray, List.set_cons_zero, List.set_cons_succ]
              obtain ⟨KS, RS, k1, k2, hF2, hB2⟩ := joinB (hd0) (((Bel.refl (w11.drew.alloc (.cells #[.slice none 0 0] 30))).trans g14).trans g15) g16 t16
              refine wpAnyH_done (by kernel_rfl) (join_here (by kernel_rfl) ?_) _
              exact ⟨_, _, _, KS, RS, rfl, rfl, k1, k2, hF2, hB2⟩
            exact AllReadyH.nil
          exact AllReadyH.nil
        exact AllReadyH.nil
      exact AllReadyH.nil
    exact AllReadyH.nil
  rintro y w12 ⟨bk_h0r, A_h0r, c_h0r, KS_h0r, RS_h0r, hy1, hy2, k1_h0r, k2_h0r, HN0, hb12⟩
  simp only [setAll, List.foldl_cons, List.foldl_nil, List.setIfInBounds_toArray, List.set_cons_zero, List.set_cons_succ]
  rw [hy1, hy2]
  clear hy1 hy2 hd0
  have B12 : Bel w11 w12 := Bel.trans (by repeat (first | exact Bel.refl _ | refine Bel.alloc ?_ _ | refine Bel.drew ?_ | refine Bel.drewN ?_ _)) hb12
  have T12 : Bel w w12 := T11.trans B12
  replace xb0 := (B12.cell _ _ lb0).trans xb0
  replace lb0 := Nat.lt_of_lt_of_le lb0 B12.sz
  replace xw0b := (B12.cell _ _ lw0b).trans xw0b
  replace lw0b := Nat.lt_of_lt_of_le lw0b B12.sz
  replace xx0 := (B12.cell _ _ lx0).trans xx0
  replace lx0 := Nat.lt_of_lt_of_le lx0 B12.sz
  replace xg0b := (B12.cell _ _ lg0b).trans xg0b
  replace lg0b := Nat.lt_of_lt_of_le lg0b B12.sz
  replace h0 := h0.keep B12
  have xh0b := boxF_cell (R := treeF (.slice A_h0r ((addNodeT z0 n1).1).length c_h0r) ((addNodeT z0 n1).1) KS_h0r RS_h0r) HN0
  have lh0b := World.block_lt_of_cell? _ _ xh0b
  replace HF := HF.more2 B12 HN0 hs
  clear HN0
  replace hs := Nat.le_trans hs B12.sz
  replace xs := hid' (range_bel xs.out B12 ls)
  replace ls := Nat.lt_of_lt_of_le ls B12.sz
  go_wp2_with fail
  refine (eqTree_c _ _ _ _ _ _ (treeF_nodesA k1_h0r k2_h0r (Fam.f1 HF)) (treeF_nodesA k1_w0 k2_w0 (Fam.f6 HF)) hzR).mono ?_
  rintro e w13 ⟨rfl, hb13⟩
  have B13 : Bel w12 w13 := Bel.trans (by repeat (first | exact Bel.refl _ | refine Bel.alloc ?_ _ | refine Bel.drew ?_ | refine Bel.drewN ?_ _)) hb13
  have T13 : Bel w w13 := T12.trans B13
  replace xb0 := (B13.cell _ _ lb0).trans xb0
  replace lb0 := Nat.lt_of_lt_of_le lb0 B13.sz
  replace xw0b := (B13.cell _ _ lw0b).trans xw0b
  replace lw0b := Nat.lt_of_lt_of_le lw0b B13.sz
  replace xx0 := (B13.cell _ _ lx0).trans xx0
  replace lx0 := Nat.lt_of_lt_of_le lx0 B13.sz
  replace xg0b := (B13.cell _ _ lg0b).trans xg0b
  replace lg0b := Nat.lt_of_lt_of_le lg0b B13.sz
  replace xh0b := (B13.cell _ _ lh0b).trans xh0b
  replace lh0b := Nat.lt_of_lt_of_le lh0b B13.sz
  replace h0 := h0.keep B13
  replace HF := HF.keep B13
  replace hs := Nat.le_trans hs B13.sz
  replace xs := hid' (range_bel xs.out B13 ls)
  replace ls := Nat.lt_of_lt_of_le ls B13.sz
  go_wp2_with fail
  refine (heldTree_c _ _ _ _ _ _ _ _ _ k1_g0 k2_g0 (Fam.f2 HF) hzR (by omega)).mono ?_
  rintro e w14 ⟨rfl, hb14⟩
  have B14 : Bel w13 w14 := Bel.trans (by repeat (first | exact Bel.refl _ | refine Bel.alloc ?_ _ | refine Bel.drew ?_ | refine Bel.drewN ?_ _)) hb14
  have T14 : Bel w w14 := T13.trans B14
  replace xb0 := (B14.cell _ _ lb0).trans xb0
  replace lb0 := Nat.lt_of_lt_of_le lb0 B14.sz
  replace xw0b := (B14.cell _ _ lw0b).trans xw0b
  replace lw0b := Nat.lt_of_lt_of_le lw0b B14.sz
  replace xx0 := (B14.cell _ _ lx0).trans xx0
  replace lx0 := Nat.lt_of_lt_of_le lx0 B14.sz
  replace xg0b := (B14.cell _ _ lg0b).trans xg0b
  replace lg0b := Nat.lt_of_lt_of_le lg0b B14.sz
  replace xh0b := (B14.cell _ _ lh0b).trans xh0b
  replace lh0b := Nat.lt_of_lt_of_le lh0b B14.sz
  replace h0 := h0.keep B14
  replace HF := HF.keep B14
  replace hs := Nat.le_trans hs B14.sz
  replace xs := hid' (range_bel xs.out B14 ls)
  replace ls := Nat.lt_of_lt_of_le ls B14.sz
  go_wp2_with fail
  go_ret
  exact ⟨rfl, T14⟩

set_option maxRecDepth 100000 in
set_option maxHeartbeats 8000000 in
set_option maxRecDepth 100000 in
theorem ExactAddNode_lifted (os : Os) (started : os.Started) (H : Type) (enc : TypeId × Value → H) :
    ReturnsInHanded {} Try.checked os 9 .any (Rows.fnExactAddNodeSpec.pre6 enc Try.prog Try.f9 Rows.fnExactAddNodeRow.domain false) (Rows.fnExactAddNodeSpec.post enc Try.prog Try.f9 false true false false) := by
  refine law_lifted (C := Try.checked) (tb := 4) own started (by kernel_rfl) Try.func9 laidOut rfl rfl Try.underlying4 (by kernel_rfl)
    (fun ds h => match ds, h with | [_, _], _ => rfl)
    (ChangeSpec.witness6 (enc := enc) (C := Try.checked) false ⟨#[], #[.agg #[.slice none 0 0], .agg #[.int .i64 0, .int .i64 0, .int .i64 0, .int .i64 0, .int .i64 0, .int .i64 0, .bool false, .bool false, .int .i64 0, .int .i64 0, .int .i64 0, .int .i64 0, .int .i64 0, .int .i64 0, .int .i64 0, .int .i64 0, .int .i64 0, .int .i64 0, .int .i64 0, .int .i64 0, .int .i64 0, .int .i64 0, .int .i64 0, .int .i64 0, .int .i64 0, .int .i64 0, .int .i64 0, .int .i64 0, .int .i64 0, .int .i64 0, .int .i64 0, .int .i64 0, .int .i64 0, .int .i64 0, .int .i64 0, .int .i64 0, .int .i64 0, .int .i64 0, .int .i64 0, .int .i64 0, .int .i64 0, .int .i64 0, .int .i64 0, .int .i64 0, .int .i64 0, .int .i64 0, .int .i64 0, .int .i64 0, .int .i64 0, .int .i64 0, .int .i64 0, .int .i64 0, .int .i64 0, .int .i64 0, .int .i64 0, .int .i64 0, .int .i64 0, .int .i64 0, .int .i64 0, .int .i64 0]], []⟩ 8 (by kernel_rfl) (by kernel_rfl) (by kernel_rfl) (by kernel_rfl)) ?_
  intro W base args ds ps hval0 hA0
  have hval : ∀ (j : Nat) t v, Try.f9.params[j]? = some t → args[j]? = some v → Value.okWide Try.prog W .any base t v := hval0
  have hA : DataW.TrodAll enc Try.prog W 0 (fun _ => true) true Try.f9.params.toList args.toList ds ps := hA0
  clear hval0 hA0
  rw [Try.params9] at hA hval
  obtain ⟨v0, v1, d0, d1, p0, p1, rfl, rfl, rfl, g0, g1⟩ := trodAll_two hA
  obtain ⟨A0, c0, z0, rfl, k0, k0', -, -, h0⟩ := open_tree (ti := 3) (tk := 26) (tb := 4) (tr := 37) (er := 108) (tst := [3, 3, 3, 3, 3, 3, 4, 4, 3, 3, 3, 3, 3, 3, 3, 3, 3, 3, 3, 3, 3, 3, 3, 3, 3, 3, 3, 3, 3, 3, 3, 3, 3, 3, 3, 3, 3, 3, 3, 3, 3, 3, 3, 3, 3, 3, 3, 3, 3, 3, 3, 3, 3, 3, 3, 3, 3, 3, 3, 3]) (rts := [3, 3, 3]) (ts := 3 :: 26 :: ([3, 3, 3, 3, 3, 3, 4, 4, 3, 3, 3, 3, 3, 3, 3, 3, 3, 3, 3, 3, 3, 3, 3, 3, 3, 3, 3, 3, 3, 3, 3, 3, 3, 3, 3, 3, 3, 3, 3, 3, 3, 3, 3, 3, 3, 3, 3, 3, 3, 3, 3, 3, 3, 3, 3, 3, 3, 3, 3, 3] ++ [4, 37])) Try.underlying24 (by kernel_rfl) Try.underlying22 (by kernel_rfl) rfl (by kernel_rfl) Try.underlying3 (by kernel_rfl) Try.underlying26 (by kernel_rfl) Try.underlying4 Try.underlying37 (by kernel_rfl) (by kernel_rfl) (by kernel_rfl) (hval 0 24 v0 rfl rfl) g0
  obtain ⟨sj1, sb1, -, he1⟩ := open_flat 5 Try.underlying61 (ts := [3, 3, 3, 3, 3, 3, 4, 4, 3, 3, 3, 3, 3, 3, 3, 3, 3, 3, 3, 3, 3, 3, 3, 3, 3, 3, 3, 3, 3, 3, 3, 3, 3, 3, 3, 3, 3, 3, 3, 3, 3, 3, 3, 3, 3, 3, 3, 3, 3, 3, 3, 3, 3, 3, 3, 3, 3, 3, 3, 3]) (ks := k_style) (by kernel_rfl) (by kernel_rfl) (hval 1 61 v1 rfl rfl) g1
  obtain ⟨n1, hn1⟩ : ∃ n : Rec, n = ⟨sj1, sb1⟩ := ⟨_, rfl⟩
  have hf1 : v1 = styleV n1 := by rw [he1, hn1]; rfl
  clear he1 hn1
  subst hf1
  exact lawAddNode_c _ _ _ _ W h0 (by unfold maxLen at k0'; omega) 

theorem ExactAddNode_holds : Rows.FnExactAddNodeSaid :=
  OpenClaim.holds_of_wide 9 Try.f9 rfl rfl rfl rfl rfl rfl rfl ⟨rfl, rfl, rfl, rfl, rfl⟩ rfl rfl rfl rfl rfl (by kernel_rfl) Try.func9 (by kernel_rfl)
    (of_decide_eq_true (by kernel_rfl)) (by unfold Func.isWrapper; first | (rw [if_pos (by decide +kernel)]; kernel_rfl) | (rw [if_neg (by decide +kernel)]; exact ⟨rfl, rfl⟩))
    (fun os started H enc _ => ExactAddNode_lifted os started H enc)
#print axioms ExactAddNode_holds
end Go.Proofs.Ytcdneamoemmohaa
