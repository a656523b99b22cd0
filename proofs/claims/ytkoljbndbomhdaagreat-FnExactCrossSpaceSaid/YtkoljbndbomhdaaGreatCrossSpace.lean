/- The law FnExactCrossSpace returns true for every argument, and leaves its arguments as they were. No condition. -/
import Derived.Test.YtkoljbndbomhdaaGreatMain
import Derived.OpenShut
import Derived.Deep.RegionWith
import Derived.Deep.RegionHeld3
namespace Go.Proofs.YtkoljbndbomhdaaGreat
open Go.ChangeShapes Go.WideShapes Go.ChangeAt Go.RowKit
set_option linter.unusedVariables false
set_option linter.unusedSimpArgs false

theorem own : ownKnob Tryz.prog.godebug = none := by kernel_rfl
theorem laidOut : laidOutB Tryz.prog = true := by kernel_rfl

theorem TreeAt.nodes1 {w : World} {base g n : Nat} {T : List NodeD} (h : TreeAt w base (.slice (some ⟨g, 0, none⟩) n n) T) : Nodes w (some ⟨g, 0, none⟩) T := by
  obtain ⟨A, c, e, -, -, -, h1⟩ := h.nodes
  cases e
  exact h1
set_option maxRecDepth 100000 in
set_option maxHeartbeats 4000000 in
theorem lawCrossSpace_c (A : Option Addr) (c : Nat) (T : List NodeD) (n m1 n1 m2 n2 : Int) (w : World) (h : Nodes w A T) (hcap : T.length ≤ maxLen) :
    Calls Tryz.prog 3 #[.agg #[.slice A T.length c], .int .i64 n, spaceV m1 n1, spaceV m2 n2] w fun r w' => r = .returned (.bool true) ∧ Bel w w' := by
  unfold maxLen at hcap
  obtain ⟨W, hW⟩ : ∃ W, W = ((w.alloc (.cells #[.slice A T.length c] 24)).alloc (.cells #[.int .i64 m1, .int .i64 n1] 26)).alloc (.cells #[.int .i64 m2, .int .i64 n2] 26) := ⟨_, rfl⟩
  have HWB : Hid (Bel w W) := hid' (by rw [hW]; exact (((Bel.refl w).alloc _).alloc _).alloc _)
  have z1 : (w.alloc (.cells #[.slice A T.length c] 24)).heap.size = w.heap.size + 1 := by simp
  have z2 : ((w.alloc (.cells #[.slice A T.length c] 24)).alloc (.cells #[.int .i64 m1, .int .i64 n1] 26)).heap.size = w.heap.size + 1 + 1 := by simp
  have HK : Hid (∀ u, Bel W u → u.cell? ⟨w.heap.size, 0, none⟩ = some (.slice A T.length c) ∧ u.cell? ⟨w.heap.size + 1, 0, none⟩ = some (.int .i64 m1) ∧ u.cell? ⟨w.heap.size + 1, 1, none⟩ = some (.int .i64 n1) ∧ u.cell? ⟨w.heap.size + 1 + 1, 0, none⟩ = some (.int .i64 m2) ∧ u.cell? ⟨w.heap.size + 1 + 1, 1, none⟩ = some (.int .i64 n2)) := hid' (fun u hu => by
    rw [hW] at hu
    have q1 := box_at (L := [.slice A T.length c]) (((Bel.refl _).alloc _).alloc _ |>.trans hu) (i := 0) rfl
    have q2 := box_at (L := [.int .i64 m1, .int .i64 n1]) ((Bel.refl _).alloc _ |>.trans hu) (i := 0) rfl
    have q3 := box_at (L := [.int .i64 m1, .int .i64 n1]) ((Bel.refl _).alloc _ |>.trans hu) (i := 1) rfl
    have q4 := box_at (L := [.int .i64 m2, .int .i64 n2]) hu (i := 0) rfl
    have q5 := box_at (L := [.int .i64 m2, .int .i64 n2]) hu (i := 1) rfl
    rw [z1] at q2 q3
    rw [z2] at q4 q5
    exact ⟨q1, q2, q3, q4, q5⟩)
  have HIS := Lib.hid info_space
  have hszS : (Tryz.prog.info? 28).map (·.size) = some 2 := by kernel_rfl
  clear z1 z2
  by_cases hn : (treeSz T : Int) ≤ 1048576
  · have hz : treeSz T ≤ 1048576 := by omega
    have hT : T.length ≤ 1048576 := by unfold treeSz at hz; omega
    have hkr : ∀ j, j < T.length → (node_ T j).kids.length ≤ 1048576 ∧ (node_ T j).rules.length ≤ 1048576 := fun j hj => by have h1 := nodeSz_le hj; unfold nodeSz at h1; exact ⟨by omega, by omega⟩
    have hc0 := (HK.out W (Bel.refl _)).1
    go_enter Tryz.func3, Tryz.ntmps3
    go_wp2_with fail
    rw [← hW]
    clear hW
    refine (szTree_c _ _ _ _ _ (h.keep HWB.out) (by omega) (by omega)).mono ?_; rintro e w1 ⟨rfl, hb1⟩
    rw [if_pos hn]
    have HB01 := Lib.hid hb1
    have HSS := hid' (fun u (hu : Bel w1 u) => HK.out u (HB01.out.trans hu))
    clear hb1 hc0
    go_wp2_with fail
    have hd0 : Bel w1 w1.drew := (Bel.refl w1).drew
    refine wp_join [10, 18, 19, 20, 21, 22, 23, 24, 25] (fun y u => ∃ gs, y 10 = .pointer (some ⟨gs, 0, none⟩) ∧ Hid (WB w1 u 28 2 gs [.int .i64 (crossMo T n m1 n1 m2 n2), .int .i64 (crossNo T n m1 n1 m2 n2)])) ?_ ?_
    ·
      refine wp_region_held_drew (S := (fun u => Bel w1 u)) (by kernel_rfl) hd0 (fun _ => ?_)
      refine wpAnyH_take (i := 0) (v := (.agg #[.slice A T.length c])) getop0 (by kernel_rfl) (by kernel_rfl) (by kernel_rfl) (by rintro c a w ⟨h, _⟩; cases h) (yieldsIf_load_mid (by rfl) 24 _ rfl (w.heap.size) 0 rfl [.slice A T.length c] _ (fun u hu => range_one ((HSS.out u hu).1)) Tryz.underlying24 rfl (by kernel_rfl)) (hd0) ?_
      simp only [Act.put, List.setIfInBounds_toArray, List.set_cons_zero, List.set_cons_succ]
      refine wpAnyH_take (i := 2) (v := .int .i64 n) getop2 (by kernel_rfl) (by kernel_rfl) (by kernel_rfl) (by rintro c a w ⟨h, _⟩; cases h) (Or.inl ⟨rfl, fun u _ => y_move rfl rfl⟩) (hd0) ?_
      simp only [Act.put, List.setIfInBounds_toArray, List.set_cons_zero, List.set_cons_succ]
      refine wpAnyH_take (i := 3) (v := (spaceV m1 n1)) getop3 (by kernel_rfl) (by kernel_rfl) (by kernel_rfl) (by rintro c a w ⟨h, _⟩; cases h) (yieldsIf_load_mid (by rfl) 26 _ rfl (w.heap.size + 1) 0 rfl [.int .i64 m1, .int .i64 n1] _ (fun u hu => range_two ((HSS.out u hu).2.1) ((HSS.out u hu).2.2.1)) Tryz.underlying26 rfl (by kernel_rfl)) (hd0) ?_
      simp only [Act.put, List.setIfInBounds_toArray, List.set_cons_zero, List.set_cons_succ]
      refine wpAnyH_take (i := 5) (v := (spaceV m2 n2)) getop5 (by kernel_rfl) (by kernel_rfl) (by kernel_rfl) (by rintro c a w ⟨h, _⟩; cases h) (yieldsIf_load_mid (by rfl) 26 _ rfl (w.heap.size + 1 + 1) 0 rfl [.int .i64 m2, .int .i64 n2] _ (fun u hu => range_two ((HSS.out u hu).2.2.2.1) ((HSS.out u hu).2.2.2.2)) Tryz.underlying26 rfl (by kernel_rfl)) (hd0) ?_
      simp only [Act.put, List.setIfInBounds_toArray, List.set_cons_zero, List.set_cons_succ]
      refine wpAnyH_ready (rs := [1, 8]) (by kernel_rfl) (by simp) ?_
      refine AllReadyH.cons getop1 (fun K hK => ?_) ?_
      ·
        rw [if_pos (by rfl)]
        refine op_callN (xs := #[.tmp 18]) (vs := #[.agg #[.slice A T.length c]]) rfl rfl (run_callFunc Tryz.func7 (by kernel_rfl) rfl) ((toTree_c _ _ _ _ (h.keep (HWB.out.trans (HB01.out.trans (hd0)))) hz).mono ?_)
        rintro e u1 ⟨q1, rfl, ho1, g1⟩
        have I1 := ho1.nodes1
        clear ho1
        refine ⟨_, rfl, hK.out _ _ ((hd0).trans g1) (fun _ => ?_)⟩
        clear hK K
        simp only [Act.put, List.setIfInBounds_toArray, List.set_cons_zero, List.set_cons_succ]
        refine wpAnyH_ready (rs := [4, 8]) (by kernel_rfl) (by simp) ?_
        refine AllReadyH.cons getop4 (fun K hK => ?_) ?_
        ·
          rw [if_pos (by rfl)]
          refine op_callN (xs := #[.tmp 21]) (vs := #[spaceV m1 n1]) rfl rfl (run_callFunc Tryz.func8 (by kernel_rfl) rfl) ((toSpace_c _ _ _).mono ?_)
          rintro e u2 ⟨rfl, g2⟩
          refine ⟨_, rfl, hK.out _ _ (((hd0).trans g1).trans g2) (fun _ => ?_)⟩
          clear hK K
          simp only [Act.put, List.setIfInBounds_toArray, List.set_cons_zero, List.set_cons_succ]
          refine wpAnyH_ready (rs := [6, 8]) (by kernel_rfl) (by simp) ?_
          refine AllReadyH.cons getop6 (fun K hK => ?_) ?_
          ·
            rw [if_pos (by rfl)]
            refine op_callN (xs := #[.tmp 23]) (vs := #[spaceV m2 n2]) rfl rfl (run_callFunc Tryz.func8 (by kernel_rfl) rfl) ((toSpace_c _ _ _).mono ?_)
            rintro e u3 ⟨rfl, g3⟩
            refine ⟨_, rfl, hK.out _ _ ((((hd0).trans g1).trans g2).trans g3) (fun _ => ?_)⟩
            clear hK K
            simp only [Act.put, List.setIfInBounds_toArray, List.set_cons_zero, List.set_cons_succ]
            refine wpAnyH_ready (rs := [7, 8]) (by kernel_rfl) (by simp) ?_
            refine AllReadyH.cons getop7 (fun K hK => ?_) ?_
            ·
              rw [if_pos (by rfl)]
              refine op_callN (xs := #[.tmp 19, .tmp 20, .tmp 22, .tmp 24]) (vs := #[.agg #[.slice (some ⟨q1, 0, none⟩) T.length T.length], .int .i64 n, spaceV m1 n1, spaceV m2 n2]) rfl rfl (run_callFunc Tryz.func6 (by kernel_rfl) rfl) ((sCrossSpace_c _ _ _ _ _ _ _ _ _ (((I1).keep g2).keep g3) hT hkr).mono ?_)
              rintro e u4 ⟨rfl, g4⟩
              refine ⟨_, rfl, hK.out _ _ (((((hd0).trans g1).trans g2).trans g3).trans g4) (fun _ => ?_)⟩
              clear hK K
              simp only [Act.put, List.setIfInBounds_toArray, List.set_cons_zero, List.set_cons_succ]
              refine wpAnyH_ready (rs := [8]) (by kernel_rfl) (by simp) ?_
              refine AllReadyH.cons getop8 (fun K hK => ?_) ?_
              ·
                rw [if_pos (by rfl)]
                refine op_allocW HIS.out rfl ?_
                refine hK.out _ _ ((((((hd0).trans g1).trans g2).trans g3).trans g4).alloc _) (fun _ => ?_)
                clear hK K
                simp only [Act.put, List.setIfInBounds_toArray, List.set_cons_zero, List.set_cons_succ]
                refine wpAnyH_ready (rs := [9]) (by kernel_rfl) (by simp) ?_
                refine AllReadyH.cons getop9 (fun K hK => ?_) ?_
                ·
                  rw [if_pos (by rfl)]
                  have HWF := (WB.new (ty := 28) (N := 2) (L := [.int .i64 0, .int .i64 0]) (((((hd0).trans g1).trans g2).trans g3).trans g4) rfl).keep (Bel.refl (u4.alloc (.cells [.int .i64 0, .int .i64 0].toArray 28)))
                  have HJ := HWF.whole (L' := [.int .i64 (crossMo T n m1 n1 m2 n2), .int .i64 (crossNo T n m1 n1 m2 n2)]) rfl
                  refine op_storeW (L := [.int .i64 (crossMo T n m1 n1 m2 n2), .int .i64 (crossNo T n m1 n1 m2 n2)]) hszS rfl (by rfl) (by rfl) rfl (by intro u hu; simp at hu; rcases hu with rfl | rfl <;> rfl) (HWF.there (o := 0) (m := 2) (by omega)) ?_
                  refine hK.out _ _ (HJ.bel) (fun _ => ?_)
                  clear hK K
                  simp only [Act.put, List.setIfInBounds_toArray, List.set_cons_zero, List.set_cons_succ]
                  exact wpAnyH_done (by kernel_rfl) (join_here (by kernel_rfl) ⟨_, rfl, hid' HJ⟩) _
                exact AllReadyH.nil
              exact AllReadyH.nil
            refine AllReadyH.cons getop8 (fun K hK => ?_) ?_
            ·
              rw [if_pos (by rfl)]
              refine op_allocW HIS.out rfl ?_
              refine hK.out _ _ (((((hd0).trans g1).trans g2).trans g3).alloc _) (fun _ => ?_)
              clear hK K
              simp only [Act.put, List.setIfInBounds_toArray, List.set_cons_zero, List.set_cons_succ]
              refine wpAnyH_ready (rs := [7]) (by kernel_rfl) (by simp) ?_
              refine AllReadyH.cons getop7 (fun K hK => ?_) ?_
              ·
                rw [if_pos (by rfl)]
                refine op_callN (xs := #[.tmp 19, .tmp 20, .tmp 22, .tmp 24]) (vs := #[.agg #[.slice (some ⟨q1, 0, none⟩) T.length T.length], .int .i64 n, spaceV m1 n1, spaceV m2 n2]) rfl rfl (run_callFunc Tryz.func6 (by kernel_rfl) rfl) ((sCrossSpace_c _ _ _ _ _ _ _ _ _ ((((I1).keep g2).keep g3).keep ((Bel.refl _).alloc _)) hT hkr).mono ?_)
                rintro e u5 ⟨rfl, g5⟩
                refine ⟨_, rfl, hK.out _ _ ((((((hd0).trans g1).trans g2).trans g3).alloc _).trans g5) (fun _ => ?_)⟩
                clear hK K
                simp only [Act.put, List.setIfInBounds_toArray, List.set_cons_zero, List.set_cons_succ]
                refine wpAnyH_ready (rs := [9]) (by kernel_rfl) (by simp) ?_
                refine AllReadyH.cons getop9 (fun K hK => ?_) ?_
                ·
                  rw [if_pos (by rfl)]
                  have HWF := (WB.new (ty := 28) (N := 2) (L := [.int .i64 0, .int .i64 0]) ((((hd0).trans g1).trans g2).trans g3) rfl).keep ((Bel.refl (u3.alloc (.cells [.int .i64 0, .int .i64 0].toArray 28))).trans g5)
                  have HJ := HWF.whole (L' := [.int .i64 (crossMo T n m1 n1 m2 n2), .int .i64 (crossNo T n m1 n1 m2 n2)]) rfl
                  refine op_storeW (L := [.int .i64 (crossMo T n m1 n1 m2 n2), .int .i64 (crossNo T n m1 n1 m2 n2)]) hszS rfl (by rfl) (by rfl) rfl (by intro u hu; simp at hu; rcases hu with rfl | rfl <;> rfl) (HWF.there (o := 0) (m := 2) (by omega)) ?_
                  refine hK.out _ _ (HJ.bel) (fun _ => ?_)
                  clear hK K
                  simp only [Act.put, List.setIfInBounds_toArray, List.set_cons_zero, List.set_cons_succ]
                  exact wpAnyH_done (by kernel_rfl) (join_here (by kernel_rfl) ⟨_, rfl, hid' HJ⟩) _
                exact AllReadyH.nil
              exact AllReadyH.nil
            exact AllReadyH.nil
          refine AllReadyH.cons getop8 (fun K hK => ?_) ?_
          ·
            rw [if_pos (by rfl)]
            refine op_allocW HIS.out rfl ?_
            refine hK.out _ _ ((((hd0).trans g1).trans g2).alloc _) (fun _ => ?_)
            clear hK K
            simp only [Act.put, List.setIfInBounds_toArray, List.set_cons_zero, List.set_cons_succ]
            refine wpAnyH_ready (rs := [6]) (by kernel_rfl) (by simp) ?_
            refine AllReadyH.cons getop6 (fun K hK => ?_) ?_
            ·
              rw [if_pos (by rfl)]
              refine op_callN (xs := #[.tmp 23]) (vs := #[spaceV m2 n2]) rfl rfl (run_callFunc Tryz.func8 (by kernel_rfl) rfl) ((toSpace_c _ _ _).mono ?_)
              rintro e u6 ⟨rfl, g6⟩
              refine ⟨_, rfl, hK.out _ _ (((((hd0).trans g1).trans g2).alloc _).trans g6) (fun _ => ?_)⟩
              clear hK K
              simp only [Act.put, List.setIfInBounds_toArray, List.set_cons_zero, List.set_cons_succ]
              refine wpAnyH_ready (rs := [7]) (by kernel_rfl) (by simp) ?_
              refine AllReadyH.cons getop7 (fun K hK => ?_) ?_
              ·
                rw [if_pos (by rfl)]
                refine op_callN (xs := #[.tmp 19, .tmp 20, .tmp 22, .tmp 24]) (vs := #[.agg #[.slice (some ⟨q1, 0, none⟩) T.length T.length], .int .i64 n, spaceV m1 n1, spaceV m2 n2]) rfl rfl (run_callFunc Tryz.func6 (by kernel_rfl) rfl) ((sCrossSpace_c _ _ _ _ _ _ _ _ _ ((((I1).keep g2).keep ((Bel.refl _).alloc _)).keep g6) hT hkr).mono ?_)
                rintro e u7 ⟨rfl, g7⟩
                refine ⟨_, rfl, hK.out _ _ ((((((hd0).trans g1).trans g2).alloc _).trans g6).trans g7) (fun _ => ?_)⟩
                clear hK K
                simp only [Act.put, List.setIfInBounds_toArray, List.set_cons_zero, List.set_cons_succ]
                refine wpAnyH_ready (rs := [9]) (by kernel_rfl) (by simp) ?_
                refine AllReadyH.cons getop9 (fun K hK => ?_) ?_
                ·
                  rw [if_pos (by rfl)]
                  have HWF := (WB.new (ty := 28) (N := 2) (L := [.int .i64 0, .int .i64 0]) (((hd0).trans g1).trans g2) rfl).keep (((Bel.refl (u2.alloc (.cells [.int .i64 0, .int .i64 0].toArray 28))).trans g6).trans g7)
                  have HJ := HWF.whole (L' := [.int .i64 (crossMo T n m1 n1 m2 n2), .int .i64 (crossNo T n m1 n1 m2 n2)]) rfl
                  refine op_storeW (L := [.int .i64 (crossMo T n m1 n1 m2 n2), .int .i64 (crossNo T n m1 n1 m2 n2)]) hszS rfl (by rfl) (by rfl) rfl (by intro u hu; simp at hu; rcases hu with rfl | rfl <;> rfl) (HWF.there (o := 0) (m := 2) (by omega)) ?_
                  refine hK.out _ _ (HJ.bel) (fun _ => ?_)
                  clear hK K
                  simp only [Act.put, List.setIfInBounds_toArray, List.set_cons_zero, List.set_cons_succ]
                  exact wpAnyH_done (by kernel_rfl) (join_here (by kernel_rfl) ⟨_, rfl, hid' HJ⟩) _
                exact AllReadyH.nil
              exact AllReadyH.nil
            exact AllReadyH.nil
          exact AllReadyH.nil
        refine AllReadyH.cons getop8 (fun K hK => ?_) ?_
        ·
          rw [if_pos (by rfl)]
          refine op_allocW HIS.out rfl ?_
          refine hK.out _ _ (((hd0).trans g1).alloc _) (fun _ => ?_)
          clear hK K
          simp only [Act.put, List.setIfInBounds_toArray, List.set_cons_zero, List.set_cons_succ]
          refine wpAnyH_ready (rs := [4]) (by kernel_rfl) (by simp) ?_
          refine AllReadyH.cons getop4 (fun K hK => ?_) ?_
          ·
            rw [if_pos (by rfl)]
            refine op_callN (xs := #[.tmp 21]) (vs := #[spaceV m1 n1]) rfl rfl (run_callFunc Tryz.func8 (by kernel_rfl) rfl) ((toSpace_c _ _ _).mono ?_)
            rintro e u8 ⟨rfl, g8⟩
            refine ⟨_, rfl, hK.out _ _ ((((hd0).trans g1).alloc _).trans g8) (fun _ => ?_)⟩
            clear hK K
            simp only [Act.put, List.setIfInBounds_toArray, List.set_cons_zero, List.set_cons_succ]
            refine wpAnyH_ready (rs := [6]) (by kernel_rfl) (by simp) ?_
            refine AllReadyH.cons getop6 (fun K hK => ?_) ?_
            ·
              rw [if_pos (by rfl)]
              refine op_callN (xs := #[.tmp 23]) (vs := #[spaceV m2 n2]) rfl rfl (run_callFunc Tryz.func8 (by kernel_rfl) rfl) ((toSpace_c _ _ _).mono ?_)
              rintro e u9 ⟨rfl, g9⟩
              refine ⟨_, rfl, hK.out _ _ (((((hd0).trans g1).alloc _).trans g8).trans g9) (fun _ => ?_)⟩
              clear hK K
              simp only [Act.put, List.setIfInBounds_toArray, List.set_cons_zero, List.set_cons_succ]
              refine wpAnyH_ready (rs := [7]) (by kernel_rfl) (by simp) ?_
              refine AllReadyH.cons getop7 (fun K hK => ?_) ?_
              ·
                rw [if_pos (by rfl)]
                refine op_callN (xs := #[.tmp 19, .tmp 20, .tmp 22, .tmp 24]) (vs := #[.agg #[.slice (some ⟨q1, 0, none⟩) T.length T.length], .int .i64 n, spaceV m1 n1, spaceV m2 n2]) rfl rfl (run_callFunc Tryz.func6 (by kernel_rfl) rfl) ((sCrossSpace_c _ _ _ _ _ _ _ _ _ ((((I1).keep ((Bel.refl _).alloc _)).keep g8).keep g9) hT hkr).mono ?_)
                rintro e u10 ⟨rfl, g10⟩
                refine ⟨_, rfl, hK.out _ _ ((((((hd0).trans g1).alloc _).trans g8).trans g9).trans g10) (fun _ => ?_)⟩
                clear hK K
                simp only [Act.put, List.setIfInBounds_toArray, List.set_cons_zero, List.set_cons_succ]
                refine wpAnyH_ready (rs := [9]) (by kernel_rfl) (by simp) ?_
                refine AllReadyH.cons getop9 (fun K hK => ?_) ?_
                ·
                  rw [if_pos (by rfl)]
                  have HWF := (WB.new (ty := 28) (N := 2) (L := [.int .i64 0, .int .i64 0]) ((hd0).trans g1) rfl).keep ((((Bel.refl (u1.alloc (.cells [.int .i64 0, .int .i64 0].toArray 28))).trans g8).trans g9).trans g10)
                  have HJ := HWF.whole (L' := [.int .i64 (crossMo T n m1 n1 m2 n2), .int .i64 (crossNo T n m1 n1 m2 n2)]) rfl
                  refine op_storeW (L := [.int .i64 (crossMo T n m1 n1 m2 n2), .int .i64 (crossNo T n m1 n1 m2 n2)]) hszS rfl (by rfl) (by rfl) rfl (by intro u hu; simp at hu; rcases hu with rfl | rfl <;> rfl) (HWF.there (o := 0) (m := 2) (by omega)) ?_
                  refine hK.out _ _ (HJ.bel) (fun _ => ?_)
                  clear hK K
                  simp only [Act.put, List.setIfInBounds_toArray, List.set_cons_zero, List.set_cons_succ]
                  exact wpAnyH_done (by kernel_rfl) (join_here (by kernel_rfl) ⟨_, rfl, hid' HJ⟩) _
                exact AllReadyH.nil
              exact AllReadyH.nil
            exact AllReadyH.nil
          exact AllReadyH.nil
        exact AllReadyH.nil
      refine AllReadyH.cons getop8 (fun K hK => ?_) ?_
      ·
        rw [if_pos (by rfl)]
        refine op_allocW HIS.out rfl ?_
        refine hK.out _ _ ((hd0).alloc _) (fun _ => ?_)
        clear hK K
        simp only [Act.put, List.setIfInBounds_toArray, List.set_cons_zero, List.set_cons_succ]
        refine wpAnyH_ready (rs := [1]) (by kernel_rfl) (by simp) ?_
        refine AllReadyH.cons getop1 (fun K hK => ?_) ?_
        ·
          rw [if_pos (by rfl)]
          refine op_callN (xs := #[.tmp 18]) (vs := #[.agg #[.slice A T.length c]]) rfl rfl (run_callFunc Tryz.func7 (by kernel_rfl) rfl) ((toTree_c _ _ _ _ (h.keep (HWB.out.trans (HB01.out.trans ((hd0).alloc _)))) hz).mono ?_)
          rintro e u11 ⟨q11, rfl, ho11, g11⟩
          have I11 := ho11.nodes1
          clear ho11
          refine ⟨_, rfl, hK.out _ _ (((hd0).alloc _).trans g11) (fun _ => ?_)⟩
          clear hK K
          simp only [Act.put, List.setIfInBounds_toArray, List.set_cons_zero, List.set_cons_succ]
          refine wpAnyH_ready (rs := [4]) (by kernel_rfl) (by simp) ?_
          refine AllReadyH.cons getop4 (fun K hK => ?_) ?_
          ·
            rw [if_pos (by rfl)]
            refine op_callN (xs := #[.tmp 21]) (vs := #[spaceV m1 n1]) rfl rfl (run_callFunc Tryz.func8 (by kernel_rfl) rfl) ((toSpace_c _ _ _).mono ?_)
            rintro e u12 ⟨rfl, g12⟩
            refine ⟨_, rfl, hK.out _ _ ((((hd0).alloc _).trans g11).trans g12) (fun _ => ?_)⟩
            clear hK K
            simp only [Act.put, List.setIfInBounds_toArray, List.set_cons_zero, List.set_cons_succ]
            refine wpAnyH_ready (rs := [6]) (by kernel_rfl) (by simp) ?_
            refine AllReadyH.cons getop6 (fun K hK => ?_) ?_
            ·
              rw [if_pos (by rfl)]
              refine op_callN (xs := #[.tmp 23]) (vs := #[spaceV m2 n2]) rfl rfl (run_callFunc Tryz.func8 (by kernel_rfl) rfl) ((toSpace_c _ _ _).mono ?_)
              rintro e u13 ⟨rfl, g13⟩
              refine ⟨_, rfl, hK.out _ _ (((((hd0).alloc _).trans g11).trans g12).trans g13) (fun _ => ?_)⟩
              clear hK K
              simp only [Act.put, List.setIfInBounds_toArray, List.set_cons_zero, List.set_cons_succ]
              refine wpAnyH_ready (rs := [7]) (by kernel_rfl) (by simp) ?_
              refine AllReadyH.cons getop7 (fun K hK => ?_) ?_
              ·
                rw [if_pos (by rfl)]
                refine op_callN (xs := #[.tmp 19, .tmp 20, .tmp 22, .tmp 24]) (vs := #[.agg #[.slice (some ⟨q11, 0, none⟩) T.length T.length], .int .i64 n, spaceV m1 n1, spaceV m2 n2]) rfl rfl (run_callFunc Tryz.func6 (by kernel_rfl) rfl) ((sCrossSpace_c _ _ _ _ _ _ _ _ _ (((I11).keep g12).keep g13) hT hkr).mono ?_)
                rintro e u14 ⟨rfl, g14⟩
                refine ⟨_, rfl, hK.out _ _ ((((((hd0).alloc _).trans g11).trans g12).trans g13).trans g14) (fun _ => ?_)⟩
                clear hK K
                simp only [Act.put, List.setIfInBounds_toArray, List.set_cons_zero, List.set_cons_succ]
                refine wpAnyH_ready (rs := [9]) (by kernel_rfl) (by simp) ?_
                refine AllReadyH.cons getop9 (fun K hK => ?_) ?_
                ·
                  rw [if_pos (by rfl)]
                  have HWF := (WB.new (ty := 28) (N := 2) (L := [.int .i64 0, .int .i64 0]) (hd0) rfl).keep (((((Bel.refl (w1.drew.alloc (.cells [.int .i64 0, .int .i64 0].toArray 28))).trans g11).trans g12).trans g13).trans g14)
                  have HJ := HWF.whole (L' := [.int .i64 (crossMo T n m1 n1 m2 n2), .int .i64 (crossNo T n m1 n1 m2 n2)]) rfl
                  refine op_storeW (L := [.int .i64 (crossMo T n m1 n1 m2 n2), .int .i64 (crossNo T n m1 n1 m2 n2)]) hszS rfl (by rfl) (by rfl) rfl (by intro u hu; simp at hu; rcases hu with rfl | rfl <;> rfl) (HWF.there (o := 0) (m := 2) (by omega)) ?_
                  refine hK.out _ _ (HJ.bel) (fun _ => ?_)
                  clear hK K
                  simp only [Act.put, List.setIfInBounds_toArray, List.set_cons_zero, List.set_cons_succ]
                  exact wpAnyH_done (by kernel_rfl) (join_here (by kernel_rfl) ⟨_, rfl, hid' HJ⟩) _
                exact AllReadyH.nil
              exact AllReadyH.nil
            exact AllReadyH.nil
          exact AllReadyH.nil
        exact AllReadyH.nil
      exact AllReadyH.nil
    rintro y w3 ⟨gs, hy, HGS⟩
    simp only [setAll, List.foldl_cons, List.foldl_nil, List.setIfInBounds_toArray, List.set_cons_zero, List.set_cons_succ]
    rw [hy]
    clear hy hd0
    have hc0 := (HSS.out _ HGS.out.bel).1
    go_wp2_with fail
    refine (toTree_c _ _ _ _ (h.keep (HWB.out.trans (HB01.out.trans HGS.out.bel))) hz).mono ?_; rintro e w4 ⟨g4, rfl, ho4, hb4⟩
    have I4 := Lib.hid ho4.nodes1
    clear ho4 hc0
    have HGS := hid' (HGS.out.keep hb4)
    go_wp2_with fail
    obtain ⟨w5, hw5⟩ : ∃ w5, w5 = w4.alloc (.cells #[.slice (some ⟨g4, 0, none⟩) T.length T.length] 32) := ⟨_, rfl⟩
    rw [← hw5]
    have HB45 : Hid (Bel w4 w5) := hid' (by rw [hw5]; exact (Bel.refl _).alloc _)
    have HXX : Hid (∀ u, Bel w5 u → u.cell? ⟨w4.heap.size, 0, none⟩ = some (.slice (some ⟨g4, 0, none⟩) T.length T.length)) := hid' (fun u hu => by rw [hw5] at hu; exact box_at (L := [.slice (some ⟨g4, 0, none⟩) T.length T.length]) hu (i := 0) rfl)
    have HXN : Hid (∀ u, Bel w5 u → Nodes u (some ⟨g4, 0, none⟩) T) := hid' (fun u hu => I4.out.keep (HB45.out.trans hu))
    clear hw5
    have HGS := hid' (HGS.out.keep HB45.out)
    have HB15 := hid' HGS.out.bel
    have HSS := hid' (fun u (hu : Bel w5 u) => HSS.out u (HB15.out.trans hu))
    have hd0 : Bel w5 w5.drew := (Bel.refl w5).drew
    refine wp_join [12, 28, 29, 30, 31, 32, 33, 34] (fun y u => ∃ gi, y 12 = .pointer (some ⟨gi, 0, none⟩) ∧ Hid (WB w5 u 28 2 gi [.int .i64 (crossMo T n m1 n1 m2 n2), .int .i64 (crossNo T n m1 n1 m2 n2)])) ?_ ?_
    ·
      refine wp_region_held_drew (S := (fun u => Bel w5 u)) (by kernel_rfl) hd0 (fun _ => ?_)
      refine wpAnyH_take (i := 0) (v := (.agg #[.slice (some ⟨g4, 0, none⟩) T.length T.length])) getop0 (by kernel_rfl) (by kernel_rfl) (by kernel_rfl) (by rintro c a w ⟨h, _⟩; cases h) (yieldsIf_load_mid (by rfl) 32 _ rfl (w4.heap.size) 0 rfl [.slice (some ⟨g4, 0, none⟩) T.length T.length] _ (fun u hu => range_one (HXX.out u hu)) Tryz.underlying32 rfl (by kernel_rfl)) (hd0) ?_
      simp only [Act.put, List.setIfInBounds_toArray, List.set_cons_zero, List.set_cons_succ]
      refine wpAnyH_take (i := 1) (v := .int .i64 n) getop1 (by kernel_rfl) (by kernel_rfl) (by kernel_rfl) (by rintro c a w ⟨h, _⟩; cases h) (Or.inl ⟨rfl, fun u _ => y_move rfl rfl⟩) (hd0) ?_
      simp only [Act.put, List.setIfInBounds_toArray, List.set_cons_zero, List.set_cons_succ]
      refine wpAnyH_take (i := 2) (v := (spaceV m1 n1)) getop2 (by kernel_rfl) (by kernel_rfl) (by kernel_rfl) (by rintro c a w ⟨h, _⟩; cases h) (yieldsIf_load_mid (by rfl) 26 _ rfl (w.heap.size + 1) 0 rfl [.int .i64 m1, .int .i64 n1] _ (fun u hu => range_two ((HSS.out u hu).2.1) ((HSS.out u hu).2.2.1)) Tryz.underlying26 rfl (by kernel_rfl)) (hd0) ?_
      simp only [Act.put, List.setIfInBounds_toArray, List.set_cons_zero, List.set_cons_succ]
      refine wpAnyH_take (i := 4) (v := (spaceV m2 n2)) getop4 (by kernel_rfl) (by kernel_rfl) (by kernel_rfl) (by rintro c a w ⟨h, _⟩; cases h) (yieldsIf_load_mid (by rfl) 26 _ rfl (w.heap.size + 1 + 1) 0 rfl [.int .i64 m2, .int .i64 n2] _ (fun u hu => range_two ((HSS.out u hu).2.2.2.1) ((HSS.out u hu).2.2.2.2)) Tryz.underlying26 rfl (by kernel_rfl)) (hd0) ?_
      simp only [Act.put, List.setIfInBounds_toArray, List.set_cons_zero, List.set_cons_succ]
      refine wpAnyH_ready (rs := [3, 7]) (by kernel_rfl) (by simp) ?_
      refine AllReadyH.cons getop3 (fun K hK => ?_) ?_
      ·
        rw [if_pos (by rfl)]
        refine op_callN (xs := #[.tmp 30]) (vs := #[spaceV m1 n1]) rfl rfl (run_callFunc Tryz.func8 (by kernel_rfl) rfl) ((toSpace_c _ _ _).mono ?_)
        rintro e u1 ⟨rfl, g1⟩
        refine ⟨_, rfl, hK.out _ _ ((hd0).trans g1) (fun _ => ?_)⟩
        clear hK K
        simp only [Act.put, List.setIfInBounds_toArray, List.set_cons_zero, List.set_cons_succ]
        refine wpAnyH_ready (rs := [5, 7]) (by kernel_rfl) (by simp) ?_
        refine AllReadyH.cons getop5 (fun K hK => ?_) ?_
        ·
          rw [if_pos (by rfl)]
          refine op_callN (xs := #[.tmp 32]) (vs := #[spaceV m2 n2]) rfl rfl (run_callFunc Tryz.func8 (by kernel_rfl) rfl) ((toSpace_c _ _ _).mono ?_)
          rintro e u2 ⟨rfl, g2⟩
          refine ⟨_, rfl, hK.out _ _ (((hd0).trans g1).trans g2) (fun _ => ?_)⟩
          clear hK K
          simp only [Act.put, List.setIfInBounds_toArray, List.set_cons_zero, List.set_cons_succ]
          refine wpAnyH_ready (rs := [6, 7]) (by kernel_rfl) (by simp) ?_
          refine AllReadyH.cons getop6 (fun K hK => ?_) ?_
          ·
            rw [if_pos (by rfl)]
            refine op_callN (xs := #[.tmp 28, .tmp 29, .tmp 31, .tmp 33]) (vs := #[.agg #[.slice (some ⟨g4, 0, none⟩) T.length T.length], .int .i64 n, spaceV m1 n1, spaceV m2 n2]) rfl rfl (run_callFunc Tryz.func9 (by kernel_rfl) rfl) ((iCrossSpace_c _ _ _ _ _ _ _ _ _ (HXN.out _ (((hd0).trans g1).trans g2)) hT hkr).mono ?_)
            rintro e u3 ⟨rfl, g3⟩
            refine ⟨_, rfl, hK.out _ _ ((((hd0).trans g1).trans g2).trans g3) (fun _ => ?_)⟩
            clear hK K
            simp only [Act.put, List.setIfInBounds_toArray, List.set_cons_zero, List.set_cons_succ]
            refine wpAnyH_ready (rs := [7]) (by kernel_rfl) (by simp) ?_
            refine AllReadyH.cons getop7 (fun K hK => ?_) ?_
            ·
              rw [if_pos (by rfl)]
              refine op_allocW HIS.out rfl ?_
              refine hK.out _ _ (((((hd0).trans g1).trans g2).trans g3).alloc _) (fun _ => ?_)
              clear hK K
              simp only [Act.put, List.setIfInBounds_toArray, List.set_cons_zero, List.set_cons_succ]
              refine wpAnyH_ready (rs := [8]) (by kernel_rfl) (by simp) ?_
              refine AllReadyH.cons getop8 (fun K hK => ?_) ?_
              ·
                rw [if_pos (by rfl)]
                have HWF := (WB.new (ty := 28) (N := 2) (L := [.int .i64 0, .int .i64 0]) ((((hd0).trans g1).trans g2).trans g3) rfl).keep (Bel.refl (u3.alloc (.cells [.int .i64 0, .int .i64 0].toArray 28)))
                have HJ := HWF.whole (L' := [.int .i64 (crossMo T n m1 n1 m2 n2), .int .i64 (crossNo T n m1 n1 m2 n2)]) rfl
                refine op_storeW (L := [.int .i64 (crossMo T n m1 n1 m2 n2), .int .i64 (crossNo T n m1 n1 m2 n2)]) hszS rfl (by rfl) (by rfl) rfl (by intro u hu; simp at hu; rcases hu with rfl | rfl <;> rfl) (HWF.there (o := 0) (m := 2) (by omega)) ?_
                refine hK.out _ _ (HJ.bel) (fun _ => ?_)
                clear hK K
                simp only [Act.put, List.setIfInBounds_toArray, List.set_cons_zero, List.set_cons_succ]
                exact wpAnyH_done (by kernel_rfl) (join_here (by kernel_rfl) ⟨_, rfl, hid' HJ⟩) _
              exact AllReadyH.nil
            exact AllReadyH.nil
          refine AllReadyH.cons getop7 (fun K hK => ?_) ?_
          ·
            rw [if_pos (by rfl)]
            refine op_allocW HIS.out rfl ?_
            refine hK.out _ _ ((((hd0).trans g1).trans g2).alloc _) (fun _ => ?_)
            clear hK K
            simp only [Act.put, List.setIfInBounds_toArray, List.set_cons_zero, List.set_cons_succ]
            refine wpAnyH_ready (rs := [6]) (by kernel_rfl) (by simp) ?_
            refine AllReadyH.cons getop6 (fun K hK => ?_) ?_
            ·
              rw [if_pos (by rfl)]
              refine op_callN (xs := #[.tmp 28, .tmp 29, .tmp 31, .tmp 33]) (vs := #[.agg #[.slice (some ⟨g4, 0, none⟩) T.length T.length], .int .i64 n, spaceV m1 n1, spaceV m2 n2]) rfl rfl (run_callFunc Tryz.func9 (by kernel_rfl) rfl) ((iCrossSpace_c _ _ _ _ _ _ _ _ _ (HXN.out _ ((((hd0).trans g1).trans g2).alloc _)) hT hkr).mono ?_)
              rintro e u4 ⟨rfl, g4⟩
              refine ⟨_, rfl, hK.out _ _ (((((hd0).trans g1).trans g2).alloc _).trans g4) (fun _ => ?_)⟩
              clear hK K
              simp only [Act.put, List.setIfInBounds_toArray, List.set_cons_zero, List.set_cons_succ]
              refine wpAnyH_ready (rs := [8]) (by kernel_rfl) (by simp) ?_
              refine AllReadyH.cons getop8 (fun K hK => ?_) ?_
              ·
                rw [if_pos (by rfl)]
                have HWF := (WB.new (ty := 28) (N := 2) (L := [.int .i64 0, .int .i64 0]) (((hd0).trans g1).trans g2) rfl).keep ((Bel.refl (u2.alloc (.cells [.int .i64 0, .int .i64 0].toArray 28))).trans g4)
                have HJ := HWF.whole (L' := [.int .i64 (crossMo T n m1 n1 m2 n2), .int .i64 (crossNo T n m1 n1 m2 n2)]) rfl
                refine op_storeW (L := [.int .i64 (crossMo T n m1 n1 m2 n2), .int .i64 (crossNo T n m1 n1 m2 n2)]) hszS rfl (by rfl) (by rfl) rfl (by intro u hu; simp at hu; rcases hu with rfl | rfl <;> rfl) (HWF.there (o := 0) (m := 2) (by omega)) ?_
                refine hK.out _ _ (HJ.bel) (fun _ => ?_)
                clear hK K
                simp only [Act.put, List.setIfInBounds_toArray, List.set_cons_zero, List.set_cons_succ]
                exact wpAnyH_done (by kernel_rfl) (join_here (by kernel_rfl) ⟨_, rfl, hid' HJ⟩) _
              exact AllReadyH.nil
            exact AllReadyH.nil
          exact AllReadyH.nil
        refine AllReadyH.cons getop7 (fun K hK => ?_) ?_
        ·
          rw [if_pos (by rfl)]
          refine op_allocW HIS.out rfl ?_
          refine hK.out _ _ (((hd0).trans g1).alloc _) (fun _ => ?_)
          clear hK K
          simp only [Act.put, List.setIfInBounds_toArray, List.set_cons_zero, List.set_cons_succ]
          refine wpAnyH_ready (rs := [5]) (by kernel_rfl) (by simp) ?_
          refine AllReadyH.cons getop5 (fun K hK => ?_) ?_
          ·
            rw [if_pos (by rfl)]
            refine op_callN (xs := #[.tmp 32]) (vs := #[spaceV m2 n2]) rfl rfl (run_callFunc Tryz.func8 (by kernel_rfl) rfl) ((toSpace_c _ _ _).mono ?_)
            rintro e u5 ⟨rfl, g5⟩
            refine ⟨_, rfl, hK.out _ _ ((((hd0).trans g1).alloc _).trans g5) (fun _ => ?_)⟩
            clear hK K
            simp only [Act.put, List.setIfInBounds_toArray, List.set_cons_zero, List.set_cons_succ]
            refine wpAnyH_ready (rs := [6]) (by kernel_rfl) (by simp) ?_
            refine AllReadyH.cons getop6 (fun K hK => ?_) ?_
            ·
              rw [if_pos (by rfl)]
              refine op_callN (xs := #[.tmp 28, .tmp 29, .tmp 31, .tmp 33]) (vs := #[.agg #[.slice (some ⟨g4, 0, none⟩) T.length T.length], .int .i64 n, spaceV m1 n1, spaceV m2 n2]) rfl rfl (run_callFunc Tryz.func9 (by kernel_rfl) rfl) ((iCrossSpace_c _ _ _ _ _ _ _ _ _ (HXN.out _ ((((hd0).trans g1).alloc _).trans g5)) hT hkr).mono ?_)
              rintro e u6 ⟨rfl, g6⟩
              refine ⟨_, rfl, hK.out _ _ (((((hd0).trans g1).alloc _).trans g5).trans g6) (fun _ => ?_)⟩
              clear hK K
              simp only [Act.put, List.setIfInBounds_toArray, List.set_cons_zero, List.set_cons_succ]
              refine wpAnyH_ready (rs := [8]) (by kernel_rfl) (by simp) ?_
              refine AllReadyH.cons getop8 (fun K hK => ?_) ?_
              ·
                rw [if_pos (by rfl)]
                have HWF := (WB.new (ty := 28) (N := 2) (L := [.int .i64 0, .int .i64 0]) ((hd0).trans g1) rfl).keep (((Bel.refl (u1.alloc (.cells [.int .i64 0, .int .i64 0].toArray 28))).trans g5).trans g6)
                have HJ := HWF.whole (L' := [.int .i64 (crossMo T n m1 n1 m2 n2), .int .i64 (crossNo T n m1 n1 m2 n2)]) rfl
                refine op_storeW (L := [.int .i64 (crossMo T n m1 n1 m2 n2), .int .i64 (crossNo T n m1 n1 m2 n2)]) hszS rfl (by rfl) (by rfl) rfl (by intro u hu; simp at hu; rcases hu with rfl | rfl <;> rfl) (HWF.there (o := 0) (m := 2) (by omega)) ?_
                refine hK.out _ _ (HJ.bel) (fun _ => ?_)
                clear hK K
                simp only [Act.put, List.setIfInBounds_toArray, List.set_cons_zero, List.set_cons_succ]
                exact wpAnyH_done (by kernel_rfl) (join_here (by kernel_rfl) ⟨_, rfl, hid' HJ⟩) _
              exact AllReadyH.nil
            exact AllReadyH.nil
          exact AllReadyH.nil
        exact AllReadyH.nil
      refine AllReadyH.cons getop7 (fun K hK => ?_) ?_
      ·
        rw [if_pos (by rfl)]
        refine op_allocW HIS.out rfl ?_
        refine hK.out _ _ ((hd0).alloc _) (fun _ => ?_)
        clear hK K
        simp only [Act.put, List.setIfInBounds_toArray, List.set_cons_zero, List.set_cons_succ]
        refine wpAnyH_ready (rs := [3]) (by kernel_rfl) (by simp) ?_
        refine AllReadyH.cons getop3 (fun K hK => ?_) ?_
        ·
          rw [if_pos (by rfl)]
          refine op_callN (xs := #[.tmp 30]) (vs := #[spaceV m1 n1]) rfl rfl (run_callFunc Tryz.func8 (by kernel_rfl) rfl) ((toSpace_c _ _ _).mono ?_)
          rintro e u7 ⟨rfl, g7⟩
          refine ⟨_, rfl, hK.out _ _ (((hd0).alloc _).trans g7) (fun _ => ?_)⟩
          clear hK K
          simp only [Act.put, List.setIfInBounds_toArray, List.set_cons_zero, List.set_cons_succ]
          refine wpAnyH_ready (rs := [5]) (by kernel_rfl) (by simp) ?_
          refine AllReadyH.cons getop5 (fun K hK => ?_) ?_
          ·
            rw [if_pos (by rfl)]
            refine op_callN (xs := #[.tmp 32]) (vs := #[spaceV m2 n2]) rfl rfl (run_callFunc Tryz.func8 (by kernel_rfl) rfl) ((toSpace_c _ _ _).mono ?_)
            rintro e u8 ⟨rfl, g8⟩
            refine ⟨_, rfl, hK.out _ _ ((((hd0).alloc _).trans g7).trans g8) (fun _ => ?_)⟩
            clear hK K
            simp only [Act.put, List.setIfInBounds_toArray, List.set_cons_zero, List.set_cons_succ]
            refine wpAnyH_ready (rs := [6]) (by kernel_rfl) (by simp) ?_
            refine AllReadyH.cons getop6 (fun K hK => ?_) ?_
            ·
              rw [if_pos (by rfl)]
              refine op_callN (xs := #[.tmp 28, .tmp 29, .tmp 31, .tmp 33]) (vs := #[.agg #[.slice (some ⟨g4, 0, none⟩) T.length T.length], .int .i64 n, spaceV m1 n1, spaceV m2 n2]) rfl rfl (run_callFunc Tryz.func9 (by kernel_rfl) rfl) ((iCrossSpace_c _ _ _ _ _ _ _ _ _ (HXN.out _ ((((hd0).alloc _).trans g7).trans g8)) hT hkr).mono ?_)
              rintro e u9 ⟨rfl, g9⟩
              refine ⟨_, rfl, hK.out _ _ (((((hd0).alloc _).trans g7).trans g8).trans g9) (fun _ => ?_)⟩
              clear hK K
              simp only [Act.put, List.setIfInBounds_toArray, List.set_cons_zero, List.set_cons_succ]
              refine wpAnyH_ready (rs := [8]) (by kernel_rfl) (by simp) ?_
              refine AllReadyH.cons getop8 (fun K hK => ?_) ?_
              ·
                rw [if_pos (by rfl)]
                have HWF := (WB.new (ty := 28) (N := 2) (L := [.int .i64 0, .int .i64 0]) (hd0) rfl).keep ((((Bel.refl (w5.drew.alloc (.cells [.int .i64 0, .int .i64 0].toArray 28))).trans g7).trans g8).trans g9)
                have HJ := HWF.whole (L' := [.int .i64 (crossMo T n m1 n1 m2 n2), .int .i64 (crossNo T n m1 n1 m2 n2)]) rfl
                refine op_storeW (L := [.int .i64 (crossMo T n m1 n1 m2 n2), .int .i64 (crossNo T n m1 n1 m2 n2)]) hszS rfl (by rfl) (by rfl) rfl (by intro u hu; simp at hu; rcases hu with rfl | rfl <;> rfl) (HWF.there (o := 0) (m := 2) (by omega)) ?_
                refine hK.out _ _ (HJ.bel) (fun _ => ?_)
                clear hK K
                simp only [Act.put, List.setIfInBounds_toArray, List.set_cons_zero, List.set_cons_succ]
                exact wpAnyH_done (by kernel_rfl) (join_here (by kernel_rfl) ⟨_, rfl, hid' HJ⟩) _
              exact AllReadyH.nil
            exact AllReadyH.nil
          exact AllReadyH.nil
        exact AllReadyH.nil
      exact AllReadyH.nil
    rintro y2 w6 ⟨gi, hy, HGI⟩
    simp only [setAll, List.foldl_cons, List.foldl_nil, List.setIfInBounds_toArray, List.set_cons_zero, List.set_cons_succ]
    rw [hy]
    clear hy hd0
    have HGS := hid' (HGS.out.keep HGI.out.bel)
    have a0 := HGS.out.cell (i := 0) rfl
    have a1 := HGS.out.cell (i := 1) rfl
    have b0 := HGI.out.cell (i := 0) rfl
    have b1 := HGI.out.cell (i := 1) rfl
    obtain ⟨vm, hvm⟩ : ∃ v, crossMo T n m1 n1 m2 n2 = v := ⟨_, rfl⟩
    obtain ⟨vn, hvn⟩ : ∃ v, crossNo T n m1 n1 m2 n2 = v := ⟨_, rfl⟩
    rw [hvm] at a0 b0
    rw [hvn] at a1 b1
    clear hvm hvn
    go_wp2_with fail
    refine (eqSpace_c _ _ _ _ _).mono ?_; rintro e w7 ⟨rfl, hb7⟩
    have HB57 := hid' (HGI.out.bel.trans hb7)
    have ht : (vm == vm && vn == vn) = true := by simp
    rw [ht]
    clear a0 a1 b0 b1 ht
    have hc4 := HXX.out _ HB57.out
    have hc0 := (HSS.out _ HB57.out).1
    go_wp2_with fail
    have HTd : Hid (∀ u, Bel w7 u → Nodes u A T ∧ Nodes u (some ⟨g4, 0, none⟩) T ∧ Bel w u ∧ u.cell? ⟨w4.heap.size, 0, none⟩ = some (.slice (some ⟨g4, 0, none⟩) T.length T.length) ∧ u.cell? ⟨w.heap.size, 0, none⟩ = some (.slice A T.length c)) := hid' (fun u hu => by
      have hb := HWB.out.trans (HB01.out.trans (HB15.out.trans (HB57.out.trans hu)))
      exact ⟨h.keep hb, HXN.out _ (HB57.out.trans hu), hb, HXX.out _ (HB57.out.trans hu), (HSS.out _ (HB57.out.trans hu)).1⟩)
    have hd7 : Bel w7 w7.drew := (Bel.refl w7).drew
    obtain ⟨k1, k2, k3, k4, k5⟩ := HTd.out _ hd7
    go_region_with (first
      | (go_at_call 7
         refine (toTree_c _ _ _ _ k1 hz).mono ?_; rintro e w8 ⟨g8, rfl, ho8, hb8⟩
         have I8 := ho8.nodes1
         obtain ⟨l1, l2, l3, l4, l5⟩ := HTd.out _ (hd7.trans hb8)
         clear ho8)
      | (go_at_call 11
         refine (eqTree_c _ _ _ _ _ _ l2 I8 hz).mono ?_; rintro e w9 ⟨rfl, hb9⟩
         have HR := l3.trans hb9))
    all_goals
      go_wp2_with fail
      go_ret
      exact ⟨rfl, by first | exact HR | exact HR.drew | exact HR.drewN _ | exact HR.drew.drew⟩
  · go_enter Tryz.func3, Tryz.ntmps3
    go_wp2_with fail
    rw [← hW]
    clear hW
    refine (szTree_c _ _ _ _ _ (h.keep HWB.out) (by omega) (by omega)).mono ?_; rintro e w1 ⟨rfl, hb1⟩
    rw [if_neg (by omega)]
    go_wp2_with fail
    go_ret
    exact ⟨rfl, HWB.out.trans hb1⟩

set_option maxRecDepth 100000 in
theorem ExactCrossSpace_lifted (os : Os) (started : os.Started) (H : Type) (enc : TypeId × Value → H) :
    ReturnsInHanded {} Tryz.checked os 3 .any (Rows.fnExactCrossSpaceSpec.pre6 enc Tryz.prog Tryz.f3 Rows.fnExactCrossSpaceRow.domain false) (Rows.fnExactCrossSpaceSpec.post enc Tryz.prog Tryz.f3 false true false false) := by
  refine law_lifted (C := Tryz.checked) (tb := 4) own started (by kernel_rfl) Tryz.func3 laidOut rfl rfl Tryz.underlying4 (by kernel_rfl)
    (fun ds h => match ds, h with | [_, _, _, _], _ => rfl)
    (ChangeSpec.witness6 (enc := enc) (C := Tryz.checked) false ⟨#[], #[.agg #[.slice none 0 0], .int .i64 0, .agg #[.int .i64 0, .int .i64 0], .agg #[.int .i64 0, .int .i64 0]], []⟩ 8 (by kernel_rfl) (by kernel_rfl) (by kernel_rfl) (by kernel_rfl)) ?_
  intro W base args ds ps hval0 hA0
  have hval : ∀ (j : Nat) t v, Tryz.f3.params[j]? = some t → args[j]? = some v → Value.okWide Tryz.prog W .any base t v := hval0
  have hA : DataW.TrodAll enc Tryz.prog W 0 (fun _ => true) true Tryz.f3.params.toList args.toList ds ps := hA0
  clear hval0 hA0
  rw [Tryz.params3] at hA hval
  obtain ⟨v0, v1, v2, v3, d0, d1, d2, d3, p0, p1, p2, p3, rfl, rfl, rfl, g0, g1, g2, g3⟩ := trodAll_four hA
  obtain ⟨A, c, T, rfl, hc1, hc2, -, -, hI⟩ := open_tree (ti := 3) (tk := 48) (tb := 4) (tr := 67) (er := 135) (tst := [3, 3, 3, 3, 3, 3, 4, 4, 3, 3, 3, 3, 3, 3, 3, 3, 3, 3, 3, 3, 3, 3, 3, 3, 3, 3, 3, 3, 3, 3, 3, 3, 3, 3, 3, 3, 3, 3, 3, 3, 3, 3, 3, 3, 3, 3, 3, 3, 3, 3, 3, 3, 3, 3, 3, 3, 3, 3, 3, 3]) (rts := [3, 3, 3]) (ts := 3 :: 48 :: ([3, 3, 3, 3, 3, 3, 4, 4, 3, 3, 3, 3, 3, 3, 3, 3, 3, 3, 3, 3, 3, 3, 3, 3, 3, 3, 3, 3, 3, 3, 3, 3, 3, 3, 3, 3, 3, 3, 3, 3, 3, 3, 3, 3, 3, 3, 3, 3, 3, 3, 3, 3, 3, 3, 3, 3, 3, 3, 3, 3] ++ [4, 67])) Tryz.underlying24 (by kernel_rfl) Tryz.underlying22 (by kernel_rfl) rfl (by kernel_rfl) Tryz.underlying3 (by kernel_rfl) Tryz.underlying48 (by kernel_rfl) Tryz.underlying4 Tryz.underlying67 (by kernel_rfl) (by kernel_rfl) (by kernel_rfl) (hval 0 24 v0 rfl rfl) g0
  obtain ⟨n1, -, rfl⟩ := open_num Tryz.underlying3 (hval 1 3 v1 rfl rfl) g1
  obtain ⟨s2, b2, -, rfl⟩ := open_flat 5 Tryz.underlying26 (ts := [3, 3]) (ks := [true, true]) (by kernel_rfl) (by kernel_rfl) (hval 2 26 v2 rfl rfl) g2
  obtain ⟨s3, b3, -, rfl⟩ := open_flat 5 Tryz.underlying26 (ts := [3, 3]) (ks := [true, true]) (by kernel_rfl) (by kernel_rfl) (hval 3 26 v3 rfl rfl) g3
  exact lawCrossSpace_c _ _ _ _ _ _ _ _ W hI (Nat.le_trans hc1 hc2)

theorem ExactCrossSpace_holds : Rows.FnExactCrossSpaceSaid :=
  OpenClaim.holds_of_wide 3 Tryz.f3 rfl rfl rfl rfl rfl rfl rfl ⟨rfl, rfl, rfl, rfl, rfl⟩ rfl rfl rfl rfl rfl (by kernel_rfl) Tryz.func3 (by kernel_rfl)
    (of_decide_eq_true (by kernel_rfl)) (by unfold Func.isWrapper; first | (rw [if_pos (by decide +kernel)]; kernel_rfl) | (rw [if_neg (by decide +kernel)]; exact ⟨rfl, rfl⟩))
    (fun os started H enc _ => ExactCrossSpace_lifted os started H enc)
#print axioms ExactCrossSpace_holds
end Go.Proofs.YtkoljbndbomhdaaGreat
