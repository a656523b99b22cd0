/- The law FnExactSetTable returns true for every argument, and leaves its arguments as they were. No condition. -/
import Derived.Test.YtcdneamoemmohaaTableLaw
import Derived.OpenShut
import Derived.Deep.RegionWith
import Derived.Deep.RegionHeld3
namespace Go.Proofs.Ytcdneamoemmohaa
open Go.ChangeShapes Go.WideShapes Go.ChangeAt Go.RowKit
set_option linter.unusedVariables false
set_option linter.unusedSimpArgs false

theorem own : ownKnob Try.prog.godebug = none := by kernel_rfl
theorem laidOut : laidOutB Try.prog = true := by kernel_rfl

set_option maxRecDepth 100000 in
set_option maxHeartbeats 32000000 in
theorem lawSetTable_c (A0 : Option Addr) (c0 : Nat) (z0 : List NodeD) (n1 : Int) (A2 : Option Addr) (c2 : Nat) (z2 : List Rec) (w : World) (h0 : Nodes w A0 z0) (hcap0 : z0.length ≤ 9223372036854775807) (i1 : In64 n1) (h2 : Recs w A2 k_rule z2) (hcap2 : z2.length ≤ 9223372036854775807) :
    Calls Try.prog 6 #[.agg #[.slice A0 z0.length c0], .int .i64 n1, tableV A2 z2.length c2] w fun r w' => r = .returned (.bool true) ∧ Bel w w' := by
  by_cases s0 : (treeSz z0 : Int) ≤ 1048576
  rotate_left
  ·
    go_enter Try.func6, Try.ntmps6
    go_wp2_with fail
    refine (szTree_c _ _ _ _ _ (h0.keep (by repeat (first | exact Bel.refl _ | refine Bel.alloc ?_ _))) (by omega) (by omega)).mono ?_
    rintro e w1 ⟨rfl, hb1⟩
    have B1 : Bel w w1 := Bel.trans (by repeat (first | exact Bel.refl _ | refine Bel.alloc ?_ _ | refine Bel.drew ?_ | refine Bel.drewN ?_ _)) hb1
    have T1 : Bel w w1 := B1
    have xb0 : w1.cell? ⟨w.heap.size, 0, none⟩ = some (.slice A0 z0.length c0) := (hb1.cell _ _ (by first | (simp; done) | (simp; omega))).trans (by simp)
    have lb0 : w.heap.size < w1.heap.size := by have := hb1.sz; simp at this; omega
    have xb2 : w1.cell? ⟨w.heap.size + 1, 0, none⟩ = some (.slice A2 z2.length c2) := (hb1.cell _ _ (by first | (simp; done) | (simp; omega))).trans (by simp)
    have lb2 : w.heap.size + 1 < w1.heap.size := by have := hb1.sz; simp at this; omega
    replace h0 := h0.keep B1
    replace h2 := h2.keep B1
    rw [if_neg (by omega)]
    go_wp2_with fail
    go_ret
    exact ⟨rfl, T1⟩
  by_cases s2 : (z2.length : Int) ≤ 1048576 - (treeSz z0 : Int)
  rotate_left
  ·
    go_enter Try.func6, Try.ntmps6
    go_wp2_with fail
    refine (szTree_c _ _ _ _ _ (h0.keep (by repeat (first | exact Bel.refl _ | refine Bel.alloc ?_ _))) (by omega) (by omega)).mono ?_
    rintro e w1 ⟨rfl, hb1⟩
    have B1 : Bel w w1 := Bel.trans (by repeat (first | exact Bel.refl _ | refine Bel.alloc ?_ _ | refine Bel.drew ?_ | refine Bel.drewN ?_ _)) hb1
    have T1 : Bel w w1 := B1
    have xb0 : w1.cell? ⟨w.heap.size, 0, none⟩ = some (.slice A0 z0.length c0) := (hb1.cell _ _ (by first | (simp; done) | (simp; omega))).trans (by simp)
    have lb0 : w.heap.size < w1.heap.size := by have := hb1.sz; simp at this; omega
    have xb2 : w1.cell? ⟨w.heap.size + 1, 0, none⟩ = some (.slice A2 z2.length c2) := (hb1.cell _ _ (by first | (simp; done) | (simp; omega))).trans (by simp)
    have lb2 : w.heap.size + 1 < w1.heap.size := by have := hb1.sz; simp at this; omega
    replace h0 := h0.keep B1
    replace h2 := h2.keep B1
    rw [if_pos s0]
    go_wp2_with fail
    refine (szTable_c _ _ _ _ _ (by omega) (by omega)).mono ?_
    rintro e w2 ⟨rfl, hb2⟩
    have B2 : Bel w1 w2 := Bel.trans (by repeat (first | exact Bel.refl _ | refine Bel.alloc ?_ _ | refine Bel.drew ?_ | refine Bel.drewN ?_ _)) hb2
    have T2 : Bel w w2 := T1.trans B2
    replace xb0 := (B2.cell _ _ lb0).trans xb0
    replace lb0 := Nat.lt_of_lt_of_le lb0 B2.sz
    replace xb2 := (B2.cell _ _ lb2).trans xb2
    replace lb2 := Nat.lt_of_lt_of_le lb2 B2.sz
    replace h0 := h0.keep B2
    replace h2 := h2.keep B2
    rw [if_neg (by omega)]
    go_wp2_with fail
    go_ret
    exact ⟨rfl, T2⟩
  have m0 : treeSz z0 ≤ 1048576 := by omega
  have m2 : z2.length ≤ 1048576 := by omega
  go_enter Try.func6, Try.ntmps6
  have h00 := h0
  have h20 := h2
  go_wp2_with fail
  refine (szTree_c _ _ _ _ _ (h0.keep (by repeat (first | exact Bel.refl _ | refine Bel.alloc ?_ _))) (by omega) (by omega)).mono ?_
  rintro e w1 ⟨rfl, hb1⟩
  have B1 : Bel w w1 := Bel.trans (by repeat (first | exact Bel.refl _ | refine Bel.alloc ?_ _ | refine Bel.drew ?_ | refine Bel.drewN ?_ _)) hb1
  have T1 : Bel w w1 := B1
  have xb0 : w1.cell? ⟨w.heap.size, 0, none⟩ = some (.slice A0 z0.length c0) := (hb1.cell _ _ (by first | (simp; done) | (simp; omega))).trans (by simp)
  have lb0 : w.heap.size < w1.heap.size := by have := hb1.sz; simp at this; omega
  have xb2 : w1.cell? ⟨w.heap.size + 1, 0, none⟩ = some (.slice A2 z2.length c2) := (hb1.cell _ _ (by first | (simp; done) | (simp; omega))).trans (by simp)
  have lb2 : w.heap.size + 1 < w1.heap.size := by have := hb1.sz; simp at this; omega
  replace h0 := h0.keep B1
  replace h2 := h2.keep B1
  rw [if_pos s0]
  go_wp2_with fail
  refine (szTable_c _ _ _ _ _ (by omega) (by omega)).mono ?_
  rintro e w2 ⟨rfl, hb2⟩
  have B2 : Bel w1 w2 := Bel.trans (by repeat (first | exact Bel.refl _ | refine Bel.alloc ?_ _ | refine Bel.drew ?_ | refine Bel.drewN ?_ _)) hb2
  have T2 : Bel w w2 := T1.trans B2
  replace xb0 := (B2.cell _ _ lb0).trans xb0
  replace lb0 := Nat.lt_of_lt_of_le lb0 B2.sz
  replace xb2 := (B2.cell _ _ lb2).trans xb2
  replace lb2 := Nat.lt_of_lt_of_le lb2 B2.sz
  replace h0 := h0.keep B2
  replace h2 := h2.keep B2
  rw [if_pos s2]
  have hBS : w.heap.size ≤ w2.heap.size := T2.sz
  have HF : Fam w2 w2.heap.size [] := Fam.nil _ _
  have hs : w2.heap.size ≤ w2.heap.size := Nat.le_refl _
  have lbb0 := lb0
  have lbb2 := lb2
  have hzR : treeSz ((setTableT z0 n1 z2).1) ≤ 1048576 := setTableT_sz m0
  have hma := markAll_small m0
  go_wp2_with fail
  have hd0 : Bel w2 w2.drew := (Bel.refl w2).drew
  refine wp_join [8, 9, 29, 30, 31, 32, 33, 34, 35, 36, 37] (fun y u => ∃ bk A c' KS RS, y 8 = .pointer (some ⟨bk, 0, none⟩) ∧ y 9 = .int .i64 ((setTableT z0 n1 z2).2) ∧ KS.length = ((setTableT z0 n1 z2).1).length ∧ RS.length = ((setTableT z0 n1 z2).1).length ∧ Fam u w2.heap.size (boxF bk (.slice A ((setTableT z0 n1 z2).1).length c') ++ treeF (.slice A ((setTableT z0 n1 z2).1).length c') ((setTableT z0 n1 z2).1) KS RS) ∧ Bel w2 u) ?_ ?_
  ·
    refine wp_region_held_drew (S := (fun u => Bel w2 u)) (by kernel_rfl) hd0 (fun _ => ?_)
    refine wpAnyH_take (i := 0) (v := (.agg #[.slice A0 z0.length c0])) getop0 (by kernel_rfl) (by kernel_rfl) (by kernel_rfl) (by rintro c a w ⟨h, _⟩; cases h) (yieldsIf_load_mid (by rfl) 24 _ rfl (w.heap.size) 0 rfl [.slice A0 z0.length c0] _ (fun u hu => range_one ((hu.cell _ _ lb0).trans xb0)) Try.underlying24 rfl (by show _ = some 1; kernel_rfl)) (hd0) ?_
    simp only [Act.put, List.setIfInBounds_toArray, List.set_cons_zero, List.set_cons_succ]
    refine wpAnyH_take (i := 2) (v := .int .i64 n1) getop2 (by kernel_rfl) (by kernel_rfl) (by kernel_rfl) (by rintro c a w ⟨h, _⟩; cases h) (Or.inl ⟨rfl, fun u _ => y_move rfl rfl⟩) (hd0) ?_
    simp only [Act.put, List.setIfInBounds_toArray, List.set_cons_zero, List.set_cons_succ]
    refine wpAnyH_take (i := 3) (v := (.agg #[.slice A2 z2.length c2])) getop3 (by kernel_rfl) (by kernel_rfl) (by kernel_rfl) (by rintro c a w ⟨h, _⟩; cases h) (yieldsIf_load_mid (by rfl) 39 _ rfl (w.heap.size + 1) 0 rfl [.slice A2 z2.length c2] _ (fun u hu => range_one ((hu.cell _ _ lb2).trans xb2)) Try.underlying39 rfl (by show _ = some 1; kernel_rfl)) (hd0) ?_
    simp only [Act.put, List.setIfInBounds_toArray, List.set_cons_zero, List.set_cons_succ]
    refine wpAnyH_ready (rs := [1, 9]) (by kernel_rfl) (by simp) ?_
    refine AllReadyH.cons getop1 (fun K hK => ?_) ?_
    ·
      rw [if_pos (by rfl)]
      refine op_callN (xs := #[.tmp 30]) (vs := #[.agg #[.slice A0 z0.length c0]]) rfl rfl (run_callFunc Try.func13 (by kernel_rfl) rfl) ((toTree_c _ _ _ _ (h0.keep (hd0)) m0).mono ?_)
      rintro e u1 ⟨gS1, rfl, oS1, g1⟩
      have NS1 := oS1.nodesC
      clear oS1
      refine ⟨_, rfl, hK.out _ _ ((hd0).trans g1) (fun _ => ?_)⟩
      clear hK K
      simp only [Act.put, List.setIfInBounds_toArray, List.set_cons_zero, List.set_cons_succ]
      refine wpAnyH_ready (rs := [4, 9]) (by kernel_rfl) (by simp) ?_
      refine AllReadyH.cons getop4 (fun K hK => ?_) ?_
      ·
        rw [if_pos (by rfl)]
        refine op_callN (xs := #[.tmp 33]) (vs := #[.agg #[.slice A2 z2.length c2]]) rfl rfl (run_callFunc Try.func26 (by kernel_rfl) rfl) ((toTable_c _ _ _ _ (h2.keep ((hd0).trans g1)) m2).mono ?_)
        rintro e u2 ⟨gT2, rfl, oT2, g2⟩
        have NT2 := Recs.of_own (ks := k_rule) rfl oT2
        clear oT2
        refine ⟨_, rfl, hK.out _ _ (((hd0).trans g1).trans g2) (fun _ => ?_)⟩
        clear hK K
        simp only [Act.put, List.setIfInBounds_toArray, List.set_cons_zero, List.set_cons_succ]
        refine wpAnyH_ready (rs := [5, 9]) (by kernel_rfl) (by simp) ?_
        refine AllReadyH.cons getop5 (fun K hK => ?_) ?_
        ·
          rw [if_pos (by rfl)]
          refine op_callN (xs := #[.tmp 31, .tmp 32, .tmp 34]) (vs := #[treeV (some ⟨gS1, 0, none⟩) z0.length z0.length, .int .i64 n1, tableV (some ⟨gT2, 0, none⟩) z2.length z2.length]) rfl rfl (run_callFunc Try.func25 (by kernel_rfl) rfl) ((sSetTable_c _ _ _ _ _ _ _ _ ((NS1).keep g2) m0 (NT2.keep (by first | exact Bel.refl _ | exact (Bel.refl _).alloc _)) (fun h => by cases h) m2).mono ?_)
          rintro e u3 ⟨A3, c3, rfl, t3, g3⟩
          refine ⟨_, rfl, hK.out _ _ ((((hd0).trans g1).trans g2).trans g3) (fun _ => ?_)⟩
          clear hK K
          simp only [Act.put, List.setIfInBounds_toArray, List.set_cons_zero, List.set_cons_succ]
          refine wpAnyH_take (i := 6) (v := .tuple #[treeV A3 ((setTableT z0 n1 z2).1).length c3, .int .i64 ((setTableT z0 n1 z2).2)]) getop6 (by kernel_rfl) (by kernel_rfl) (by kernel_rfl) (by rintro c a w ⟨h, _⟩; cases h) (Or.inl ⟨rfl, fun u _ => y_move rfl rfl⟩) ((((hd0).trans g1).trans g2).trans g3) ?_
          simp only [Act.put, List.setIfInBounds_toArray, List.set_cons_zero, List.set_cons_succ]
          refine wpAnyH_take (i := 7) (v := treeV A3 ((setTableT z0 n1 z2).1).length c3) getop7 (by kernel_rfl) (by kernel_rfl) (by kernel_rfl) (by rintro c a w ⟨h, _⟩; cases h) (Or.inl ⟨rfl, fun u _ => y_extract0 rfl rfl⟩) ((((hd0).trans g1).trans g2).trans g3) ?_
          simp only [Act.put, List.setIfInBounds_toArray, List.set_cons_zero, List.set_cons_succ]
          refine wpAnyH_take (i := 8) (v := .int .i64 ((setTableT z0 n1 z2).2)) getop8 (by kernel_rfl) (by kernel_rfl) (by kernel_rfl) (by rintro c a w ⟨h, _⟩; cases h) (Or.inl ⟨rfl, fun u _ => y_extract1 rfl rfl⟩) ((((hd0).trans g1).trans g2).trans g3) ?_
          simp only [Act.put, List.setIfInBounds_toArray, List.set_cons_zero, List.set_cons_succ]
          refine wpAnyH_ready (rs := [9]) (by kernel_rfl) (by simp) ?_
          refine AllReadyH.cons getop9 (fun K hK => ?_) ?_
          ·
            rw [if_pos (by rfl)]
            refine op_allocTree rfl ?_
            refine hK.out _ _ (((((hd0).trans g1).trans g2).trans g3).alloc _) (fun _ => ?_)
            clear hK K
            simp only [Act.put, List.setIfInBounds_toArray, List.set_cons_zero, List.set_cons_succ]
            refine wpAnyH_ready (rs := [10]) (by kernel_rfl) (by simp) ?_
            refine AllReadyH.cons getop10 (fun K hK => ?_) ?_
            ·
              rw [if_pos (by rfl)]
              refine op_storeTree rfl rfl rfl (there_kept (there_one u3 (.slice none 0 0) 30) (Bel.refl (u3.alloc (.cells #[.slice none 0 0] 30))) (by simp)) ?_
              refine hK.out _ _ ((((((hd0).trans g1).trans g2).trans g3).alloc (.cells #[.slice none 0 0] 30)).setCell (show w2.heap.size ≤ (u3).heap.size from ((((hd0).trans g1).trans g2).trans g3).sz) _) (fun _ => ?_)
              clear hK K
              simp only [Act.put, List.setIfInBounds_toArray, List.set_cons_zero, List.set_cons_succ]
              refine wpAnyH_take (i := 11) (v := .int .i64 ((setTableT z0 n1 z2).2)) getop11 (by kernel_rfl) (by kernel_rfl) (by kernel_rfl) (by rintro c a w ⟨h, _⟩; cases h) (Or.inl ⟨rfl, fun u _ => y_assign rfl rfl⟩) ((((((hd0).trans g1).trans g2).trans g3).alloc (.cells #[.slice none 0 0] 30)).setCell (show w2.heap.size ≤ (u3).heap.size from ((((hd0).trans g1).trans g2).trans g3).sz) _) ?_
              simp only [Act.put, List.setIfInBounds_toArray, List.set_cons_zero, List.set_cons_succ]
              obtain ⟨KS, RS, k1, k2, hF2, hB2⟩ := joinC (((hd0).trans g1).trans g2) g3 t3
              refine wpAnyH_done (by kernel_rfl) (join_here (by kernel_rfl) ?_) _
              exact ⟨_, _, _, KS, RS, rfl, rfl, k1, k2, hF2, hB2⟩
            exact AllReadyH.nil
          exact AllReadyH.nil
        refine AllReadyH.cons getop9 (fun K hK => ?_) ?_
        ·
          rw [if_pos (by rfl)]
          refine op_allocTree rfl ?_
          refine hK.out _ _ ((((hd0).trans g1).trans g2).alloc _) (fun _ => ?_)
          clear hK K
          simp only [Act.put, List.setIfInBounds_toArray, List.set_cons_zero, List.set_cons_succ]
          refine wpAnyH_ready (rs := [5]) (by kernel_rfl) (by simp) ?_
          refine AllReadyH.cons getop5 (fun K hK => ?_) ?_
          ·
            rw [if_pos (by rfl)]
            refine op_callN (xs := #[.tmp 31, .tmp 32, .tmp 34]) (vs := #[treeV (some ⟨gS1, 0, none⟩) z0.length z0.length, .int .i64 n1, tableV (some ⟨gT2, 0, none⟩) z2.length z2.length]) rfl rfl (run_callFunc Try.func25 (by kernel_rfl) rfl) ((sSetTable_c _ _ _ _ _ _ _ _ (((NS1).keep g2).keep ((Bel.refl _).alloc _)) m0 (NT2.keep (by first | exact Bel.refl _ | exact (Bel.refl _).alloc _)) (fun h => by cases h) m2).mono ?_)
            rintro e u7 ⟨A7, c7, rfl, t7, g7⟩
            refine ⟨_, rfl, hK.out _ _ (((((hd0).trans g1).trans g2).alloc (.cells #[.slice none 0 0] 30)).trans g7) (fun _ => ?_)⟩
            clear hK K
            simp only [Act.put, List.setIfInBounds_toArray, List.set_cons_zero, List.set_cons_succ]
            refine wpAnyH_take (i := 6) (v := .tuple #[treeV A7 ((setTableT z0 n1 z2).1).length c7, .int .i64 ((setTableT z0 n1 z2).2)]) getop6 (by kernel_rfl) (by kernel_rfl) (by kernel_rfl) (by rintro c a w ⟨h, _⟩; cases h) (Or.inl ⟨rfl, fun u _ => y_move rfl rfl⟩) (((((hd0).trans g1).trans g2).alloc (.cells #[.slice none 0 0] 30)).trans g7) ?_
            simp only [Act.put, List.setIfInBounds_toArray, List.set_cons_zero, List.set_cons_succ]
            refine wpAnyH_take (i := 7) (v := treeV A7 ((setTableT z0 n1 z2).1).length c7) getop7 (by kernel_rfl) (by kernel_rfl) (by kernel_rfl) (by rintro c a w ⟨h, _⟩; cases h) (Or.inl ⟨rfl, fun u _ => y_extract0 rfl rfl⟩) (((((hd0).trans g1).trans g2).alloc (.cells #[.slice none 0 0] 30)).trans g7) ?_
            simp only [Act.put, List.setIfInBounds_toArray, List.set_cons_zero, List.set_cons_succ]
            refine wpAnyH_take (i := 8) (v := .int .i64 ((setTableT z0 n1 z2).2)) getop8 (by kernel_rfl) (by kernel_rfl) (by kernel_rfl) (by rintro c a w ⟨h, _⟩; cases h) (Or.inl ⟨rfl, fun u _ => y_extract1 rfl rfl⟩) (((((hd0).trans g1).trans g2).alloc (.cells #[.slice none 0 0] 30)).trans g7) ?_
            simp only [Act.put, List.setIfInBounds_toArray, List.set_cons_zero, List.set_cons_succ]
            refine wpAnyH_ready (rs := [10]) (by kernel_rfl) (by simp) ?_
            refine AllReadyH.cons getop10 (fun K hK => ?_) ?_
            ·
              rw [if_pos (by rfl)]
              refine op_storeTree rfl rfl rfl (there_kept (there_one u2 (.slice none 0 0) 30) ((Bel.refl (u2.alloc (.cells #[.slice none 0 0] 30))).trans g7) (by simp)) ?_
              refine hK.out _ _ ((((((hd0).trans g1).trans g2).alloc (.cells #[.slice none 0 0] 30)).trans g7).setCell (show w2.heap.size ≤ (u2).heap.size from (((hd0).trans g1).trans g2).sz) _) (fun _ => ?_)
              clear hK K
              simp only [Act.put, List.setIfInBounds_toArray, List.set_cons_zero, List.set_cons_succ]
              refine wpAnyH_take (i := 11) (v := .int .i64 ((setTableT z0 n1 z2).2)) getop11 (by kernel_rfl) (by kernel_rfl) (by kernel_rfl) (by rintro c a w ⟨h, _⟩; cases h) (Or.inl ⟨rfl, fun u _ => y_assign rfl rfl⟩) ((((((hd0).trans g1).trans g2).alloc (.cells #[.slice none 0 0] 30)).trans g7).setCell (show w2.heap.size ≤ (u2).heap.size from (((hd0).trans g1).trans g2).sz) _) ?_
              simp only [Act.put, List.setIfInBounds_toArray, List.set_cons_zero, List.set_cons_succ]
              obtain ⟨KS, RS, k1, k2, hF2, hB2⟩ := joinB (((hd0).trans g1).trans g2) (Bel.refl (u2.alloc (.cells #[.slice none 0 0] 30))) g7 t7
              refine wpAnyH_done (by kernel_rfl) (join_here (by kernel_rfl) ?_) _
              exact ⟨_, _, _, KS, RS, rfl, rfl, k1, k2, hF2, hB2⟩
            exact AllReadyH.nil
          exact AllReadyH.nil
        exact AllReadyH.nil
      refine AllReadyH.cons getop9 (fun K hK => ?_) ?_
      ·
        rw [if_pos (by rfl)]
        refine op_allocTree rfl ?_
        refine hK.out _ _ (((hd0).trans g1).alloc _) (fun _ => ?_)
        clear hK K
        simp only [Act.put, List.setIfInBounds_toArray, List.set_cons_zero, List.set_cons_succ]
        refine wpAnyH_ready (rs := [4]) (by kernel_rfl) (by simp) ?_
        refine AllReadyH.cons getop4 (fun K hK => ?_) ?_
        ·
          rw [if_pos (by rfl)]
          refine op_callN (xs := #[.tmp 33]) (vs := #[.agg #[.slice A2 z2.length c2]]) rfl rfl (run_callFunc Try.func26 (by kernel_rfl) rfl) ((toTable_c _ _ _ _ (h2.keep (((hd0).trans g1).alloc (.cells #[.slice none 0 0] 30))) m2).mono ?_)
          rintro e u10 ⟨gT10, rfl, oT10, g10⟩
          have NT10 := Recs.of_own (ks := k_rule) rfl oT10
          clear oT10
          refine ⟨_, rfl, hK.out _ _ ((((hd0).trans g1).alloc (.cells #[.slice none 0 0] 30)).trans g10) (fun _ => ?_)⟩
          clear hK K
          simp only [Act.put, List.setIfInBounds_toArray, List.set_cons_zero, List.set_cons_succ]
          refine wpAnyH_ready (rs := [5]) (by kernel_rfl) (by simp) ?_
          refine AllReadyH.cons getop5 (fun K hK => ?_) ?_
          ·
            rw [if_pos (by rfl)]
            refine op_callN (xs := #[.tmp 31, .tmp 32, .tmp 34]) (vs := #[treeV (some ⟨gS1, 0, none⟩) z0.length z0.length, .int .i64 n1, tableV (some ⟨gT10, 0, none⟩) z2.length z2.length]) rfl rfl (run_callFunc Try.func25 (by kernel_rfl) rfl) ((sSetTable_c _ _ _ _ _ _ _ _ (((NS1).keep ((Bel.refl _).alloc _)).keep g10) m0 (NT10.keep (by first | exact Bel.refl _ | exact (Bel.refl _).alloc _)) (fun h => by cases h) m2).mono ?_)
            rintro e u11 ⟨A11, c11, rfl, t11, g11⟩
            refine ⟨_, rfl, hK.out _ _ (((((hd0).trans g1).alloc (.cells #[.slice none 0 0] 30)).trans g10).trans g11) (fun _ => ?_)⟩
            clear hK K
            simp only [Act.put, List.setIfInBounds_toArray, List.set_cons_zero, List.set_cons_succ]
            refine wpAnyH_take (i := 6) (v := .tuple #[treeV A11 ((setTableT z0 n1 z2).1).length c11, .int .i64 ((setTableT z0 n1 z2).2)]) getop6 (by kernel_rfl) (by kernel_rfl) (by kernel_rfl) (by rintro c a w ⟨h, _⟩; cases h) (Or.inl ⟨rfl, fun u _ => y_move rfl rfl⟩) (((((hd0).trans g1).alloc (.cells #[.slice none 0 0] 30)).trans g10).trans g11) ?_
            simp only [Act.put, List.setIfInBounds_toArray, List.set_cons_zero, List.set_cons_succ]
            refine wpAnyH_take (i := 7) (v := treeV A11 ((setTableT z0 n1 z2).1).length c11) getop7 (by kernel_rfl) (by kernel_rfl) (by kernel_rfl) (by rintro c a w ⟨h, _⟩; cases h) (Or.inl ⟨rfl, fun u _ => y_extract0 rfl rfl⟩) (((((hd0).trans g1).alloc (.cells #[.slice none 0 0] 30)).trans g10).trans g11) ?_
            simp only [Act.put, List.setIfInBounds_toArray, List.set_cons_zero, List.set_cons_succ]
            refine wpAnyH_take (i := 8) (v := .int .i64 ((setTableT z0 n1 z2).2)) getop8 (by kernel_rfl) (by kernel_rfl) (by kernel_rfl) (by rintro c a w ⟨h, _⟩; cases h) (Or.inl ⟨rfl, fun u _ => y_extract1 rfl rfl⟩) (((((hd0).trans g1).alloc (.cells #[.slice none 0 0] 30)).trans g10).trans g11) ?_
            simp only [Act.put, List.setIfInBounds_toArray, List.set_cons_zero, List.set_cons_succ]
            refine wpAnyH_ready (rs := [10]) (by kernel_rfl) (by simp) ?_
            refine AllReadyH.cons getop10 (fun K hK => ?_) ?_
            ·
              rw [if_pos (by rfl)]
              refine op_storeTree rfl rfl rfl (there_kept (there_one u1 (.slice none 0 0) 30) (((Bel.refl (u1.alloc (.cells #[.slice none 0 0] 30))).trans g10).trans g11) (by simp)) ?_
              refine hK.out _ _ ((((((hd0).trans g1).alloc (.cells #[.slice none 0 0] 30)).trans g10).trans g11).setCell (show w2.heap.size ≤ (u1).heap.size from ((hd0).trans g1).sz) _) (fun _ => ?_)
              clear hK K
              simp only [Act.put, List.setIfInBounds_toArray, List.set_cons_zero, List.set_cons_succ]
              refine wpAnyH_take (i := 11) (v := .int .i64 ((setTableT z0 n1 z2).2)) getop11 (by kernel_rfl) (by kernel_rfl) (by kernel_rfl) (by rintro c a w ⟨h, _⟩; cases h) (Or.inl ⟨rfl, fun u _ => y_assign rfl rfl⟩) ((((((hd0).trans g1).alloc (.cells #[.slice none 0 0] 30)).trans g10).trans g11).setCell (show w2.heap.size ≤ (u1).heap.size from ((hd0).trans g1).sz) _) ?_
              simp only [Act.put, List.setIfInBounds_toArray, List.set_cons_zero, List.set_cons_succ]
              obtain ⟨KS, RS, k1, k2, hF2, hB2⟩ := joinB ((hd0).trans g1) ((Bel.refl (u1.alloc (.cells #[.slice none 0 0] 30))).trans g10) g11 t11
              refine wpAnyH_done (by kernel_rfl) (join_here (by kernel_rfl) ?_) _
              exact ⟨_, _, _, KS, RS, rfl, rfl, k1, k2, hF2, hB2⟩
            exact AllReadyH.nil
          exact AllReadyH.nil
        exact AllReadyH.nil
      exact AllReadyH.nil
    refine AllReadyH.cons getop9 (fun K hK => ?_) ?_
    ·
      rw [if_pos (by rfl)]
      refine op_allocTree rfl ?_
      refine hK.out _ _ ((hd0).alloc _) (fun _ => ?_)
      clear hK K
      simp only [Act.put, List.setIfInBounds_toArray, List.set_cons_zero, List.set_cons_succ]
      refine wpAnyH_ready (rs := [1]) (by kernel_rfl) (by simp) ?_
      refine AllReadyH.cons getop1 (fun K hK => ?_) ?_
      ·
        rw [if_pos (by rfl)]
        refine op_callN (xs := #[.tmp 30]) (vs := #[.agg #[.slice A0 z0.length c0]]) rfl rfl (run_callFunc Try.func13 (by kernel_rfl) rfl) ((toTree_c _ _ _ _ (h0.keep ((hd0).alloc (.cells #[.slice none 0 0] 30))) m0).mono ?_)
        rintro e u14 ⟨gS14, rfl, oS14, g14⟩
        have NS14 := oS14.nodesC
        clear oS14
        refine ⟨_, rfl, hK.out _ _ (((hd0).alloc (.cells #[.slice none 0 0] 30)).trans g14) (fun _ => ?_)⟩
        clear hK K
        simp only [Act.put, List.setIfInBounds_toArray, List.set_cons_zero, List.set_cons_succ]
        refine wpAnyH_ready (rs := [4]) (by kernel_rfl) (by simp) ?_
        refine AllReadyH.cons getop4 (fun K hK => ?_) ?_
        ·
          rw [if_pos (by rfl)]
          refine op_callN (xs := #[.tmp 33]) (vs := #[.agg #[.slice A2 z2.length c2]]) rfl rfl (run_callFunc Try.func26 (by kernel_rfl) rfl) ((toTable_c _ _ _ _ (h2.keep (((hd0).alloc (.cells #[.slice none 0 0] 30)).trans g14)) m2).mono ?_)
          rintro e u15 ⟨gT15, rfl, oT15, g15⟩
          have NT15 := Recs.of_own (ks := k_rule) rfl oT15
          clear oT15
          refine ⟨_, rfl, hK.out _ _ ((((hd0).alloc (.cells #[.slice none 0 0] 30)).trans g14).trans g15) (fun _ => ?_)⟩
          clear hK K
          simp only [Act.put, List.setIfInBounds_toArray, List.set_cons_zero, List.set_cons_succ]
          refine wpAnyH_ready (rs := [5]) (by kernel_rfl) (by simp) ?_
          refine AllReadyH.cons getop5 (fun K hK => ?_) ?_
          ·
            rw [if_pos (by rfl)]
            refine op_callN (xs := #[.tmp 31, .tmp 32, .tmp 34]) (vs := #[treeV (some ⟨gS14, 0, none⟩) z0.length z0.length, .int .i64 n1, tableV (some ⟨gT15, 0, none⟩) z2.length z2.length]) rfl rfl (run_callFunc Try.func25 (by kernel_rfl) rfl) ((sSetTable_c _ _ _ _ _ _ _ _ ((NS14).keep g15) m0 (NT15.keep (by first | exact Bel.refl _ | exact (Bel.refl _).alloc _)) (fun h => by cases h) m2).mono ?_)
            rintro e u16 ⟨A16, c16, rfl, t16, g16⟩
            refine ⟨_, rfl, hK.out _ _ (((((hd0).alloc (.cells #[.slice none 0 0] 30)).trans g14).trans g15).trans g16) (fun _ => ?_)⟩
            clear hK K
            simp only [Act.put, List.setIfInBounds_toArray, List.set_cons_zero, List.set_cons_succ]
            refine wpAnyH_take (i := 6) (v := .tuple #[treeV A16 ((setTableT z0 n1 z2).1).length c16, .int .i64 ((setTableT z0 n1 z2).2)]) getop6 (by kernel_rfl) (by kernel_rfl) (by kernel_rfl) (by rintro c a w ⟨h, _⟩; cases h) (Or.inl ⟨rfl, fun u _ => y_move rfl rfl⟩) (((((hd0).alloc (.cells #[.slice none 0 0] 30)).trans g14).trans g15).trans g16) ?_
            simp only [Act.put, List.setIfInBounds_toArray, List.set_cons_zero, List.set_cons_succ]
            refine wpAnyH_take (i := 7) (v := treeV A16 ((setTableT z0 n1 z2).1).length c16) getop7 (by kernel_rfl) (by kernel_rfl) (by kernel_rfl) (by rintro c a w ⟨h, _⟩; cases h) (Or.inl ⟨rfl, fun u _ => y_extract0 rfl rfl⟩) (((((hd0).alloc (.cells #[.slice none 0 0] 30)).trans g14).trans g15).trans g16) ?_
            simp only [Act.put, List.setIfInBounds_toArray, List.set_cons_zero, List.set_cons_succ]
            refine wpAnyH_take (i := 8) (v := .int .i64 ((setTableT z0 n1 z2).2)) getop8 (by kernel_rfl) (by kernel_rfl) (by kernel_rfl) (by rintro c a w ⟨h, _⟩; cases h) (Or.inl ⟨rfl, fun u _ => y_extract1 rfl rfl⟩) (((((hd0).alloc (.cells #[.slice none 0 0] 30)).trans g14).trans g15).trans g16) ?_
            simp only [Act.put, List.setIfInBounds_toArray, List.set_cons_zero, List.set_cons_succ]
            refine wpAnyH_ready (rs := [10]) (by kernel_rfl) (by simp) ?_
            refine AllReadyH.cons getop10 (fun K hK => ?_) ?_
            ·
              rw [if_pos (by rfl)]
              refine op_storeTree rfl rfl rfl (there_kept (there_one w2.drew (.slice none 0 0) 30) ((((Bel.refl (w2.drew.alloc (.cells #[.slice none 0 0] 30))).trans g14).trans g15).trans g16) (by simp)) ?_
              refine hK.out _ _ ((((((hd0).alloc (.cells #[.slice none 0 0] 30)).trans g14).trans g15).trans g16).setCell (show w2.heap.size ≤ (w2.drew).heap.size from (hd0).sz) _) (fun _ => ?_)
              clear hK K
              simp only [Act.put, List.setIfInBounds_toArray, List.set_cons_zero, List.set_cons_succ]
              refine wpAnyH_take (i := 11) (v := .int .i64 ((setTableT z0 n1 z2).2)) getop11 (by kernel_rfl) (by kernel_rfl) (by kernel_rfl) (by rintro c a w ⟨h, _⟩; cases h) (Or.inl ⟨rfl, fun u _ => y_assign rfl rfl⟩) ((((((hd0).alloc (.cells #[.slice none 0 0] 30)).trans g14).trans g15).trans g16).setCell (show w2.heap.size ≤ (w2.drew).heap.size from (hd0).sz) _) ?_
              simp only [Act.put, List.setIfInBounds_toArray, List.set_cons_zero, List.set_cons_succ]
              obtain ⟨KS, RS, k1, k2, hF2, hB2⟩ := joinB (hd0) (((Bel.refl (w2.drew.alloc (.cells #[.slice none 0 0] 30))).trans g14).trans g15) g16 t16
              refine wpAnyH_done (by kernel_rfl) (join_here (by kernel_rfl) ?_) _
              exact ⟨_, _, _, KS, RS, rfl, rfl, k1, k2, hF2, hB2⟩
            exact AllReadyH.nil
          exact AllReadyH.nil
        exact AllReadyH.nil
      exact AllReadyH.nil
    exact AllReadyH.nil
  rintro y w3 ⟨bk_w0, A_w0, c_w0, KS_w0, RS_w0, hy1, hy2, k1_w0, k2_w0, HN0, hb3⟩
  simp only [setAll, List.foldl_cons, List.foldl_nil, List.setIfInBounds_toArray, List.set_cons_zero, List.set_cons_succ]
  rw [hy1, hy2]
  clear hy1 hy2 hd0
  have B3 : Bel w2 w3 := Bel.trans (by repeat (first | exact Bel.refl _ | refine Bel.alloc ?_ _ | refine Bel.drew ?_ | refine Bel.drewN ?_ _)) hb3
  have T3 : Bel w w3 := T2.trans B3
  replace xb0 := (B3.cell _ _ lb0).trans xb0
  replace lb0 := Nat.lt_of_lt_of_le lb0 B3.sz
  replace xb2 := (B3.cell _ _ lb2).trans xb2
  replace lb2 := Nat.lt_of_lt_of_le lb2 B3.sz
  replace h0 := h0.keep B3
  replace h2 := h2.keep B3
  have xw0b := boxF_cell (R := treeF (.slice A_w0 ((setTableT z0 n1 z2).1).length c_w0) ((setTableT z0 n1 z2).1) KS_w0 RS_w0) HN0
  have lw0b := World.block_lt_of_cell? _ _ xw0b
  replace HF := HF.more2 B3 HN0 hs
  clear HN0
  replace hs := Nat.le_trans hs B3.sz
  go_wp2_with fail
  refine (toTree_c _ _ _ _ (h0.keep (by repeat (first | exact Bel.refl _ | refine Bel.alloc ?_ _ | refine Bel.drew ?_))) m0).mono ?_
  rintro e w4 ⟨g_X0, rfl, o_X0, hb4⟩
  obtain ⟨KS_X0, RS_X0, k1_X0, k2_X0, f_X0⟩ := o_X0
  have B4 : Bel w3 w4 := Bel.trans (by repeat (first | exact Bel.refl _ | refine Bel.alloc ?_ _ | refine Bel.drew ?_ | refine Bel.drewN ?_ _)) hb4
  have T4 : Bel w w4 := T3.trans B4
  replace xb0 := (B4.cell _ _ lb0).trans xb0
  replace lb0 := Nat.lt_of_lt_of_le lb0 B4.sz
  replace xb2 := (B4.cell _ _ lb2).trans xb2
  replace lb2 := Nat.lt_of_lt_of_le lb2 B4.sz
  replace xw0b := (B4.cell _ _ lw0b).trans xw0b
  replace lw0b := Nat.lt_of_lt_of_le lw0b B4.sz
  replace h0 := h0.keep B4
  replace h2 := h2.keep B4
  have HN : Fam w4 w3.heap.size (treeF (.slice (some ⟨g_X0, 0, none⟩) z0.length z0.length) z0 KS_X0 RS_X0) := (f_X0).base (by repeat (first | exact Nat.le_refl _ | (simp; done) | (simp; omega)))
  replace HF := HF.more B4 HN hs
  clear HN
  replace hs := Nat.le_trans hs B4.sz
  clear f_X0
  have xab0 := (((Bel.refl w4).alloc (.cells #[.slice (some ⟨g_X0, 0, none⟩) z0.length z0.length] 30)).cell _ _ lb0).trans xb0
  have xab2 := (((Bel.refl w4).alloc (.cells #[.slice (some ⟨g_X0, 0, none⟩) z0.length z0.length] 30)).cell _ _ lb2).trans xb2
  have xaw0b := (((Bel.refl w4).alloc (.cells #[.slice (some ⟨g_X0, 0, none⟩) z0.length z0.length] 30)).cell _ _ lw0b).trans xw0b
  go_wp2_with fail
  clear xab0
  clear xab2
  clear xaw0b
  obtain ⟨w5, hwB⟩ : ∃ u, u = (w4.alloc (.cells #[.slice (some ⟨g_X0, 0, none⟩) z0.length z0.length] 30)) := ⟨_, rfl⟩
  rw [← hwB]
  have hb5 : Bel w4 w5 := by rw [hwB]; exact (Bel.refl _).alloc _
  have HN0 : Fam w5 w4.heap.size (boxF w4.heap.size (.slice (some ⟨g_X0, 0, none⟩) z0.length z0.length)) := by rw [hwB]; exact boxF_new _ _
  have xx0 : w5.cell? ⟨w4.heap.size, 0, none⟩ = some (.slice (some ⟨g_X0, 0, none⟩) z0.length z0.length) := by rw [hwB]; exact (new_cell1 _ _ _).1
  have lx0 : w4.heap.size < w5.heap.size := by rw [hwB]; simp
  clear hwB
  have B5 : Bel w4 w5 := Bel.trans (by repeat (first | exact Bel.refl _ | refine Bel.alloc ?_ _ | refine Bel.drew ?_ | refine Bel.drewN ?_ _)) hb5
  have T5 : Bel w w5 := T4.trans B5
  replace xb0 := (B5.cell _ _ lb0).trans xb0
  replace lb0 := Nat.lt_of_lt_of_le lb0 B5.sz
  replace xb2 := (B5.cell _ _ lb2).trans xb2
  replace lb2 := Nat.lt_of_lt_of_le lb2 B5.sz
  replace xw0b := (B5.cell _ _ lw0b).trans xw0b
  replace lw0b := Nat.lt_of_lt_of_le lw0b B5.sz
  replace h0 := h0.keep B5
  replace h2 := h2.keep B5
  have HN : Fam w5 w4.heap.size (boxF w4.heap.size (.slice (some ⟨g_X0, 0, none⟩) z0.length z0.length)) := (HN0).base (by repeat (first | exact Nat.le_refl _ | (simp; done) | (simp; omega)))
  replace HF := HF.more B5 HN hs
  clear HN
  replace hs := Nat.le_trans hs B5.sz
  clear HN0
  refine (toTable_c _ _ _ _ (h2.keep (by repeat (first | exact Bel.refl _ | refine Bel.alloc ?_ _ | refine Bel.drew ?_))) m2).mono ?_
  rintro e w6 ⟨g_X2, rfl, o_X2, hb6⟩
  have B6 : Bel w5 w6 := Bel.trans (by repeat (first | exact Bel.refl _ | refine Bel.alloc ?_ _ | refine Bel.drew ?_ | refine Bel.drewN ?_ _)) hb6
  have T6 : Bel w w6 := T5.trans B6
  replace xb0 := (B6.cell _ _ lb0).trans xb0
  replace lb0 := Nat.lt_of_lt_of_le lb0 B6.sz
  replace xb2 := (B6.cell _ _ lb2).trans xb2
  replace lb2 := Nat.lt_of_lt_of_le lb2 B6.sz
  replace xw0b := (B6.cell _ _ lw0b).trans xw0b
  replace lw0b := Nat.lt_of_lt_of_le lw0b B6.sz
  replace xx0 := (B6.cell _ _ lx0).trans xx0
  replace lx0 := Nat.lt_of_lt_of_le lx0 B6.sz
  replace h0 := h0.keep B6
  replace h2 := h2.keep B6
  have HN : Fam w6 w5.heap.size (tabF g_X2 z2.length z2) := (tabF_of o_X2).base (by repeat (first | exact Nat.le_refl _ | (simp; done) | (simp; omega)))
  replace HF := HF.more B6 HN hs
  clear HN
  replace hs := Nat.le_trans hs B6.sz
  clear o_X2
  have xab0 := (((Bel.refl w6).alloc (.cells #[.slice (some ⟨g_X2, 0, none⟩) z2.length z2.length] 45)).cell _ _ lb0).trans xb0
  have xab2 := (((Bel.refl w6).alloc (.cells #[.slice (some ⟨g_X2, 0, none⟩) z2.length z2.length] 45)).cell _ _ lb2).trans xb2
  have xaw0b := (((Bel.refl w6).alloc (.cells #[.slice (some ⟨g_X2, 0, none⟩) z2.length z2.length] 45)).cell _ _ lw0b).trans xw0b
  have xax0 := (((Bel.refl w6).alloc (.cells #[.slice (some ⟨g_X2, 0, none⟩) z2.length z2.length] 45)).cell _ _ lx0).trans xx0
  go_wp2_with fail
  clear xab0
  clear xab2
  clear xaw0b
  clear xax0
  obtain ⟨w7, hwB⟩ : ∃ u, u = (w6.alloc (.cells #[.slice (some ⟨g_X2, 0, none⟩) z2.length z2.length] 45)) := ⟨_, rfl⟩
  rw [← hwB]
  have hb7 : Bel w6 w7 := by rw [hwB]; exact (Bel.refl _).alloc _
  have HN0 : Fam w7 w6.heap.size (boxG w6.heap.size (.slice (some ⟨g_X2, 0, none⟩) z2.length z2.length)) := by rw [hwB]; exact boxG_new _ _
  have xx2 : w7.cell? ⟨w6.heap.size, 0, none⟩ = some (.slice (some ⟨g_X2, 0, none⟩) z2.length z2.length) := by rw [hwB]; exact (new_cell1 _ _ _).1
  have lx2 : w6.heap.size < w7.heap.size := by rw [hwB]; simp
  clear hwB
  have B7 : Bel w6 w7 := Bel.trans (by repeat (first | exact Bel.refl _ | refine Bel.alloc ?_ _ | refine Bel.drew ?_ | refine Bel.drewN ?_ _)) hb7
  have T7 : Bel w w7 := T6.trans B7
  replace xb0 := (B7.cell _ _ lb0).trans xb0
  replace lb0 := Nat.lt_of_lt_of_le lb0 B7.sz
  replace xb2 := (B7.cell _ _ lb2).trans xb2
  replace lb2 := Nat.lt_of_lt_of_le lb2 B7.sz
  replace xw0b := (B7.cell _ _ lw0b).trans xw0b
  replace lw0b := Nat.lt_of_lt_of_le lw0b B7.sz
  replace xx0 := (B7.cell _ _ lx0).trans xx0
  replace lx0 := Nat.lt_of_lt_of_le lx0 B7.sz
  replace h0 := h0.keep B7
  replace h2 := h2.keep B7
  have HN : Fam w7 w6.heap.size (boxG w6.heap.size (.slice (some ⟨g_X2, 0, none⟩) z2.length z2.length)) := (HN0).base (by repeat (first | exact Nat.le_refl _ | (simp; done) | (simp; omega)))
  replace HF := HF.more B7 HN hs
  clear HN
  replace hs := Nat.le_trans hs B7.sz
  clear HN0
  refine (iSetTable_c _ _ _ _ _ _ _ _ (((treeF_nodesC k1_X0 k2_X0 (Fam.f3 HF))).keep (by repeat (first | exact Bel.refl _ | refine Bel.alloc ?_ _))) m0 (((Recs.of_own rfl (tabF_own (Fam.f1 HF)))).keep (by repeat (first | exact Bel.refl _ | refine Bel.alloc ?_ _))) (fun h => by cases h) m2).mono ?_
  rintro e w8 ⟨A_g0, c_g0, rfl, t_g0, hb8⟩
  obtain ⟨KS_g0, RS_g0, k1_g0, k2_g0, f_g0⟩ := t_g0
  have B8 : Bel w7 w8 := Bel.trans (by repeat (first | exact Bel.refl _ | refine Bel.alloc ?_ _ | refine Bel.drew ?_ | refine Bel.drewN ?_ _)) hb8
  have T8 : Bel w w8 := T7.trans B8
  replace xb0 := (B8.cell _ _ lb0).trans xb0
  replace lb0 := Nat.lt_of_lt_of_le lb0 B8.sz
  replace xb2 := (B8.cell _ _ lb2).trans xb2
  replace lb2 := Nat.lt_of_lt_of_le lb2 B8.sz
  replace xw0b := (B8.cell _ _ lw0b).trans xw0b
  replace lw0b := Nat.lt_of_lt_of_le lw0b B8.sz
  replace xx0 := (B8.cell _ _ lx0).trans xx0
  replace lx0 := Nat.lt_of_lt_of_le lx0 B8.sz
  replace xx2 := (B8.cell _ _ lx2).trans xx2
  replace lx2 := Nat.lt_of_lt_of_le lx2 B8.sz
  replace h0 := h0.keep B8
  replace h2 := h2.keep B8
  have HN : Fam w8 w7.heap.size (treeF (.slice A_g0 ((setTableT z0 n1 z2).1).length c_g0) ((setTableT z0 n1 z2).1) KS_g0 RS_g0) := (f_g0).base (by repeat (first | exact Nat.le_refl _ | (simp; done) | (simp; omega)))
  replace HF := HF.more B8 HN hs
  clear HN
  replace hs := Nat.le_trans hs B8.sz
  clear f_g0
  have xab0 := (((Bel.refl w8).alloc (.cells #[.slice A_g0 ((setTableT z0 n1 z2).1).length c_g0] 30)).cell _ _ lb0).trans xb0
  have xab2 := (((Bel.refl w8).alloc (.cells #[.slice A_g0 ((setTableT z0 n1 z2).1).length c_g0] 30)).cell _ _ lb2).trans xb2
  have xaw0b := (((Bel.refl w8).alloc (.cells #[.slice A_g0 ((setTableT z0 n1 z2).1).length c_g0] 30)).cell _ _ lw0b).trans xw0b
  have xax0 := (((Bel.refl w8).alloc (.cells #[.slice A_g0 ((setTableT z0 n1 z2).1).length c_g0] 30)).cell _ _ lx0).trans xx0
  have xax2 := (((Bel.refl w8).alloc (.cells #[.slice A_g0 ((setTableT z0 n1 z2).1).length c_g0] 30)).cell _ _ lx2).trans xx2
  go_wp2_with fail
  clear xab0
  clear xab2
  clear xaw0b
  clear xax0
  clear xax2
  obtain ⟨w9, hwB⟩ : ∃ u, u = (w8.alloc (.cells #[.slice A_g0 ((setTableT z0 n1 z2).1).length c_g0] 30)) := ⟨_, rfl⟩
  rw [← hwB]
  have hb9 : Bel w8 w9 := by rw [hwB]; exact (Bel.refl _).alloc _
  have HN0 : Fam w9 w8.heap.size (boxF w8.heap.size (.slice A_g0 ((setTableT z0 n1 z2).1).length c_g0)) := by rw [hwB]; exact boxF_new _ _
  have xg0b : w9.cell? ⟨w8.heap.size, 0, none⟩ = some (.slice A_g0 ((setTableT z0 n1 z2).1).length c_g0) := by rw [hwB]; exact (new_cell1 _ _ _).1
  have lg0b : w8.heap.size < w9.heap.size := by rw [hwB]; simp
  clear hwB
  have B9 : Bel w8 w9 := Bel.trans (by repeat (first | exact Bel.refl _ | refine Bel.alloc ?_ _ | refine Bel.drew ?_ | refine Bel.drewN ?_ _)) hb9
  have T9 : Bel w w9 := T8.trans B9
  replace xb0 := (B9.cell _ _ lb0).trans xb0
  replace lb0 := Nat.lt_of_lt_of_le lb0 B9.sz
  replace xb2 := (B9.cell _ _ lb2).trans xb2
  replace lb2 := Nat.lt_of_lt_of_le lb2 B9.sz
  replace xw0b := (B9.cell _ _ lw0b).trans xw0b
  replace lw0b := Nat.lt_of_lt_of_le lw0b B9.sz
  replace xx0 := (B9.cell _ _ lx0).trans xx0
  replace lx0 := Nat.lt_of_lt_of_le lx0 B9.sz
  replace xx2 := (B9.cell _ _ lx2).trans xx2
  replace lx2 := Nat.lt_of_lt_of_le lx2 B9.sz
  replace h0 := h0.keep B9
  replace h2 := h2.keep B9
  have HN : Fam w9 w8.heap.size (boxF w8.heap.size (.slice A_g0 ((setTableT z0 n1 z2).1).length c_g0)) := (HN0).base (by repeat (first | exact Nat.le_refl _ | (simp; done) | (simp; omega)))
  replace HF := HF.more B9 HN hs
  clear HN
  replace hs := Nat.le_trans hs B9.sz
  clear HN0
  refine (eqTree_c _ _ _ _ _ _ (treeF_nodesA k1_g0 k2_g0 (Fam.f1 HF)) (treeF_nodesA k1_w0 k2_w0 (Fam.f7 HF)) hzR).mono ?_
  rintro e w10 ⟨rfl, hb10⟩
  have B10 : Bel w9 w10 := Bel.trans (by repeat (first | exact Bel.refl _ | refine Bel.alloc ?_ _ | refine Bel.drew ?_ | refine Bel.drewN ?_ _)) hb10
  have T10 : Bel w w10 := T9.trans B10
  replace xb0 := (B10.cell _ _ lb0).trans xb0
  replace lb0 := Nat.lt_of_lt_of_le lb0 B10.sz
  replace xb2 := (B10.cell _ _ lb2).trans xb2
  replace lb2 := Nat.lt_of_lt_of_le lb2 B10.sz
  replace xw0b := (B10.cell _ _ lw0b).trans xw0b
  replace lw0b := Nat.lt_of_lt_of_le lw0b B10.sz
  replace xx0 := (B10.cell _ _ lx0).trans xx0
  replace lx0 := Nat.lt_of_lt_of_le lx0 B10.sz
  replace xx2 := (B10.cell _ _ lx2).trans xx2
  replace lx2 := Nat.lt_of_lt_of_le lx2 B10.sz
  replace xg0b := (B10.cell _ _ lg0b).trans xg0b
  replace lg0b := Nat.lt_of_lt_of_le lg0b B10.sz
  replace h0 := h0.keep B10
  replace h2 := h2.keep B10
  replace HF := HF.keep B10
  replace hs := Nat.le_trans hs B10.sz
  have VX0 := (treeF_nodesC k1_X0 k2_X0 (Fam.f5 HF))
  go_wp2_with fail
  have hd0 : Bel w10 (w10).drew := by repeat (first | exact Bel.refl _ | refine Bel.drew ?_ | refine Bel.alloc ?_ _)
  have xdb0 : ((w10).drew).cell? ⟨w.heap.size, 0, none⟩ = some (.slice A0 z0.length c0) := (hd0.cell _ _ lb0).trans xb0
  have ldb0 : w.heap.size < ((w10).drew).heap.size := Nat.lt_of_lt_of_le lb0 hd0.sz
  have xdb2 : ((w10).drew).cell? ⟨w.heap.size + 1, 0, none⟩ = some (.slice A2 z2.length c2) := (hd0.cell _ _ lb2).trans xb2
  have ldb2 : w.heap.size + 1 < ((w10).drew).heap.size := Nat.lt_of_lt_of_le lb2 hd0.sz
  have xdw0b : ((w10).drew).cell? ⟨bk_w0, 0, none⟩ = some (.slice A_w0 ((setTableT z0 n1 z2).1).length c_w0) := (hd0.cell _ _ lw0b).trans xw0b
  have ldw0b : bk_w0 < ((w10).drew).heap.size := Nat.lt_of_lt_of_le lw0b hd0.sz
  have xdx0 : ((w10).drew).cell? ⟨w4.heap.size, 0, none⟩ = some (.slice (some ⟨g_X0, 0, none⟩) z0.length z0.length) := (hd0.cell _ _ lx0).trans xx0
  have ldx0 : w4.heap.size < ((w10).drew).heap.size := Nat.lt_of_lt_of_le lx0 hd0.sz
  have xdx2 : ((w10).drew).cell? ⟨w6.heap.size, 0, none⟩ = some (.slice (some ⟨g_X2, 0, none⟩) z2.length z2.length) := (hd0.cell _ _ lx2).trans xx2
  have ldx2 : w6.heap.size < ((w10).drew).heap.size := Nat.lt_of_lt_of_le lx2 hd0.sz
  have xdg0b : ((w10).drew).cell? ⟨w8.heap.size, 0, none⟩ = some (.slice A_g0 ((setTableT z0 n1 z2).1).length c_g0) := (hd0.cell _ _ lg0b).trans xg0b
  have ldg0b : w8.heap.size < ((w10).drew).heap.size := Nat.lt_of_lt_of_le lg0b hd0.sz
  have tok0 : True := trivial
  have tok1 : True := trivial
  go_region_held3 (fun u => Bel w10 u ∧ u.cell? ⟨w.heap.size, 0, none⟩ = some (.slice A0 z0.length c0) ∧ u.cell? ⟨w.heap.size + 1, 0, none⟩ = some (.slice A2 z2.length c2) ∧ u.cell? ⟨bk_w0, 0, none⟩ = some (.slice A_w0 ((setTableT z0 n1 z2).1).length c_w0) ∧ u.cell? ⟨w4.heap.size, 0, none⟩ = some (.slice (some ⟨g_X0, 0, none⟩) z0.length z0.length) ∧ u.cell? ⟨w6.heap.size, 0, none⟩ = some (.slice (some ⟨g_X2, 0, none⟩) z2.length z2.length) ∧ u.cell? ⟨w8.heap.size, 0, none⟩ = some (.slice A_g0 ((setTableT z0 n1 z2).1).length c_g0))
    ((first | exact ⟨bq1, yb0_1, yb2_1, yw0b_1, yx0_1, yx2_1, yg0b_1⟩ | exact ⟨bq0, yb0_0, yb2_0, yw0b_0, yx0_0, yx2_0, yg0b_0⟩ | exact ⟨hd0, xdb0, xdb2, xdw0b, xdx0, xdx2, xdg0b⟩))
    (first | (go_at_call 13; have _t := tok0; refine (toTree_c _ _ _ _ (h0.keep hd0) m0).mono ?_; rintro e u0 ⟨g_Q, rfl, o_Q, hq0⟩; have bq0 : Bel w10 u0 := hd0.trans hq0; have yb0_0 := (hq0.cell _ _ ldb0).trans xdb0; have nb0_0 : w.heap.size < u0.heap.size := Nat.lt_of_lt_of_le ldb0 hq0.sz; have yb2_0 := (hq0.cell _ _ ldb2).trans xdb2; have nb2_0 : w.heap.size + 1 < u0.heap.size := Nat.lt_of_lt_of_le ldb2 hq0.sz; have yw0b_0 := (hq0.cell _ _ ldw0b).trans xdw0b; have nw0b_0 : bk_w0 < u0.heap.size := Nat.lt_of_lt_of_le ldw0b hq0.sz; have yx0_0 := (hq0.cell _ _ ldx0).trans xdx0; have nx0_0 : w4.heap.size < u0.heap.size := Nat.lt_of_lt_of_le ldx0 hq0.sz; have yx2_0 := (hq0.cell _ _ ldx2).trans xdx2; have nx2_0 : w6.heap.size < u0.heap.size := Nat.lt_of_lt_of_le ldx2 hq0.sz; have yg0b_0 := (hq0.cell _ _ ldg0b).trans xdg0b; have ng0b_0 : w8.heap.size < u0.heap.size := Nat.lt_of_lt_of_le ldg0b hq0.sz; have Q0 := (o_Q).nodes1; clear o_Q; clear tok0 _t) | (go_at_call 16; have _t := tok1; refine (eqTree_c _ _ _ _ _ _ (VX0.keep bq0).nodes Q0 m0).mono ?_; rintro e w11 ⟨rfl, hq1⟩; have bq1 : Bel w10 w11 := bq0.trans hq1; have yb0_1 := (hq1.cell _ _ nb0_0).trans yb0_0; have nb0_1 : w.heap.size < w11.heap.size := Nat.lt_of_lt_of_le nb0_0 hq1.sz; have yb2_1 := (hq1.cell _ _ nb2_0).trans yb2_0; have nb2_1 : w.heap.size + 1 < w11.heap.size := Nat.lt_of_lt_of_le nb2_0 hq1.sz; have yw0b_1 := (hq1.cell _ _ nw0b_0).trans yw0b_0; have nw0b_1 : bk_w0 < w11.heap.size := Nat.lt_of_lt_of_le nw0b_0 hq1.sz; have yx0_1 := (hq1.cell _ _ nx0_0).trans yx0_0; have nx0_1 : w4.heap.size < w11.heap.size := Nat.lt_of_lt_of_le nx0_0 hq1.sz; have yx2_1 := (hq1.cell _ _ nx2_0).trans yx2_0; have nx2_1 : w6.heap.size < w11.heap.size := Nat.lt_of_lt_of_le nx2_0 hq1.sz; have yg0b_1 := (hq1.cell _ _ ng0b_0).trans yg0b_0; have ng0b_1 : w8.heap.size < w11.heap.size := Nat.lt_of_lt_of_le ng0b_0 hq1.sz; clear Q0 VX0; clear tok1 _t))
  have B11 : Bel w10 w11 := bq1
  have T11 : Bel w w11 := T10.trans B11
  replace xb0 := yb0_1
  replace lb0 := nb0_1
  replace xb2 := yb2_1
  replace lb2 := nb2_1
  replace xw0b := yw0b_1
  replace lw0b := nw0b_1
  replace xx0 := yx0_1
  replace lx0 := nx0_1
  replace xx2 := yx2_1
  replace lx2 := nx2_1
  replace xg0b := yg0b_1
  replace lg0b := ng0b_1
  replace h0 := h0.keep B11
  replace h2 := h2.keep B11
  clear bq0 hq0 yb0_0 nb0_0 yb2_0 nb2_0 yw0b_0 nw0b_0 yx0_0 nx0_0 yx2_0 nx2_0 yg0b_0 ng0b_0
  clear bq1 hq1 hd0 yb0_1 nb0_1 xdb0 ldb0 yb2_1 nb2_1 xdb2 ldb2 yw0b_1 nw0b_1 xdw0b ldw0b yx0_1 nx0_1 xdx0 ldx0 yx2_1 nx2_1 xdx2 ldx2 yg0b_1 ng0b_1 xdg0b ldg0b
  replace HF := HF.keep B11
  replace hs := Nat.le_trans hs B11.sz
  have VX2 := (Recs.of_own rfl (tabF_own (Fam.f3 HF)))
  go_wp2_with fail
  have hd0 : Bel w11 (w11).drew := by repeat (first | exact Bel.refl _ | refine Bel.drew ?_ | refine Bel.alloc ?_ _)
  have xdb0 : ((w11).drew).cell? ⟨w.heap.size, 0, none⟩ = some (.slice A0 z0.length c0) := (hd0.cell _ _ lb0).trans xb0
  have ldb0 : w.heap.size < ((w11).drew).heap.size := Nat.lt_of_lt_of_le lb0 hd0.sz
  have xdb2 : ((w11).drew).cell? ⟨w.heap.size + 1, 0, none⟩ = some (.slice A2 z2.length c2) := (hd0.cell _ _ lb2).trans xb2
  have ldb2 : w.heap.size + 1 < ((w11).drew).heap.size := Nat.lt_of_lt_of_le lb2 hd0.sz
  have xdw0b : ((w11).drew).cell? ⟨bk_w0, 0, none⟩ = some (.slice A_w0 ((setTableT z0 n1 z2).1).length c_w0) := (hd0.cell _ _ lw0b).trans xw0b
  have ldw0b : bk_w0 < ((w11).drew).heap.size := Nat.lt_of_lt_of_le lw0b hd0.sz
  have xdx0 : ((w11).drew).cell? ⟨w4.heap.size, 0, none⟩ = some (.slice (some ⟨g_X0, 0, none⟩) z0.length z0.length) := (hd0.cell _ _ lx0).trans xx0
  have ldx0 : w4.heap.size < ((w11).drew).heap.size := Nat.lt_of_lt_of_le lx0 hd0.sz
  have xdx2 : ((w11).drew).cell? ⟨w6.heap.size, 0, none⟩ = some (.slice (some ⟨g_X2, 0, none⟩) z2.length z2.length) := (hd0.cell _ _ lx2).trans xx2
  have ldx2 : w6.heap.size < ((w11).drew).heap.size := Nat.lt_of_lt_of_le lx2 hd0.sz
  have xdg0b : ((w11).drew).cell? ⟨w8.heap.size, 0, none⟩ = some (.slice A_g0 ((setTableT z0 n1 z2).1).length c_g0) := (hd0.cell _ _ lg0b).trans xg0b
  have ldg0b : w8.heap.size < ((w11).drew).heap.size := Nat.lt_of_lt_of_le lg0b hd0.sz
  have tok0 : True := trivial
  have tok1 : True := trivial
  go_region_held3 (fun u => Bel w11 u ∧ u.cell? ⟨w.heap.size, 0, none⟩ = some (.slice A0 z0.length c0) ∧ u.cell? ⟨w.heap.size + 1, 0, none⟩ = some (.slice A2 z2.length c2) ∧ u.cell? ⟨bk_w0, 0, none⟩ = some (.slice A_w0 ((setTableT z0 n1 z2).1).length c_w0) ∧ u.cell? ⟨w4.heap.size, 0, none⟩ = some (.slice (some ⟨g_X0, 0, none⟩) z0.length z0.length) ∧ u.cell? ⟨w6.heap.size, 0, none⟩ = some (.slice (some ⟨g_X2, 0, none⟩) z2.length z2.length) ∧ u.cell? ⟨w8.heap.size, 0, none⟩ = some (.slice A_g0 ((setTableT z0 n1 z2).1).length c_g0))
    ((first | exact ⟨bq1, yb0_1, yb2_1, yw0b_1, yx0_1, yx2_1, yg0b_1⟩ | exact ⟨bq0, yb0_0, yb2_0, yw0b_0, yx0_0, yx2_0, yg0b_0⟩ | exact ⟨hd0, xdb0, xdb2, xdw0b, xdx0, xdx2, xdg0b⟩))
    (first | (go_at_call 26; have _t := tok0; refine (toTable_c _ _ _ _ (h2.keep hd0) m2).mono ?_; rintro e u0 ⟨g_Q, rfl, o_Q, hq0⟩; have bq0 : Bel w11 u0 := hd0.trans hq0; have yb0_0 := (hq0.cell _ _ ldb0).trans xdb0; have nb0_0 : w.heap.size < u0.heap.size := Nat.lt_of_lt_of_le ldb0 hq0.sz; have yb2_0 := (hq0.cell _ _ ldb2).trans xdb2; have nb2_0 : w.heap.size + 1 < u0.heap.size := Nat.lt_of_lt_of_le ldb2 hq0.sz; have yw0b_0 := (hq0.cell _ _ ldw0b).trans xdw0b; have nw0b_0 : bk_w0 < u0.heap.size := Nat.lt_of_lt_of_le ldw0b hq0.sz; have yx0_0 := (hq0.cell _ _ ldx0).trans xdx0; have nx0_0 : w4.heap.size < u0.heap.size := Nat.lt_of_lt_of_le ldx0 hq0.sz; have yx2_0 := (hq0.cell _ _ ldx2).trans xdx2; have nx2_0 : w6.heap.size < u0.heap.size := Nat.lt_of_lt_of_le ldx2 hq0.sz; have yg0b_0 := (hq0.cell _ _ ldg0b).trans xdg0b; have ng0b_0 : w8.heap.size < u0.heap.size := Nat.lt_of_lt_of_le ldg0b hq0.sz; have Q2 := Recs.of_own rfl o_Q; clear o_Q; clear tok0 _t) | (go_at_call 28; have _t := tok1; refine (eqTable_c _ _ _ _ _ _ (VX2.keep bq0) Q2 m2).mono ?_; rintro e w12 ⟨rfl, hq1⟩; have bq1 : Bel w11 w12 := bq0.trans hq1; have yb0_1 := (hq1.cell _ _ nb0_0).trans yb0_0; have nb0_1 : w.heap.size < w12.heap.size := Nat.lt_of_lt_of_le nb0_0 hq1.sz; have yb2_1 := (hq1.cell _ _ nb2_0).trans yb2_0; have nb2_1 : w.heap.size + 1 < w12.heap.size := Nat.lt_of_lt_of_le nb2_0 hq1.sz; have yw0b_1 := (hq1.cell _ _ nw0b_0).trans yw0b_0; have nw0b_1 : bk_w0 < w12.heap.size := Nat.lt_of_lt_of_le nw0b_0 hq1.sz; have yx0_1 := (hq1.cell _ _ nx0_0).trans yx0_0; have nx0_1 : w4.heap.size < w12.heap.size := Nat.lt_of_lt_of_le nx0_0 hq1.sz; have yx2_1 := (hq1.cell _ _ nx2_0).trans yx2_0; have nx2_1 : w6.heap.size < w12.heap.size := Nat.lt_of_lt_of_le nx2_0 hq1.sz; have yg0b_1 := (hq1.cell _ _ ng0b_0).trans yg0b_0; have ng0b_1 : w8.heap.size < w12.heap.size := Nat.lt_of_lt_of_le ng0b_0 hq1.sz; clear Q2 VX2; clear tok1 _t))
  have B12 : Bel w11 w12 := bq1
  have T12 : Bel w w12 := T11.trans B12
  replace xb0 := yb0_1
  replace lb0 := nb0_1
  replace xb2 := yb2_1
  replace lb2 := nb2_1
  replace xw0b := yw0b_1
  replace lw0b := nw0b_1
  replace xx0 := yx0_1
  replace lx0 := nx0_1
  replace xx2 := yx2_1
  replace lx2 := nx2_1
  replace xg0b := yg0b_1
  replace lg0b := ng0b_1
  replace h0 := h0.keep B12
  replace h2 := h2.keep B12
  clear bq0 hq0 yb0_0 nb0_0 yb2_0 nb2_0 yw0b_0 nw0b_0 yx0_0 nx0_0 yx2_0 nx2_0 yg0b_0 ng0b_0
  clear bq1 hq1 hd0 yb0_1 nb0_1 xdb0 ldb0 yb2_1 nb2_1 xdb2 ldb2 yw0b_1 nw0b_1 xdw0b ldw0b yx0_1 nx0_1 xdx0 ldx0 yx2_1 nx2_1 xdx2 ldx2 yg0b_1 ng0b_1 xdg0b ldg0b
  replace HF := HF.keep B12
  replace hs := Nat.le_trans hs B12.sz
  go_wp2_with fail
  clear xw0b lw0b
  clear xx0 lx0
  clear xx2 lx2
  clear xg0b lg0b
  replace HF := Fam.f5 HF
  refine (markTree_c _ _ _ _ _ _ _ _ _ k1_X0 k2_X0 HF hs m0 (by omega)).mono ?_
  rintro e w13 ⟨rfl, HF', hlow⟩
  replace HF := HF'
  clear HF'
  have B13 : Below w2.heap.size w12 w13 := hlow
  have T13 : Bel w w13 := T12.belowT hlow hBS
  replace xb0 := (Below.cell (p := ⟨w.heap.size, 0, none⟩) hlow lbb0).trans xb0
  replace lb0 := Nat.lt_of_lt_of_le lb0 hlow.size
  replace xb2 := (Below.cell (p := ⟨w.heap.size + 1, 0, none⟩) hlow lbb2).trans xb2
  replace lb2 := Nat.lt_of_lt_of_le lb2 hlow.size
  replace h0 := h00.keep T13
  replace h2 := h20.keep T13
  replace hs := Nat.le_trans hs hlow.size
  clear hlow
  have xw0b := boxF_cell (Fam.f6 HF)
  have lw0b := World.block_lt_of_cell? _ _ xw0b
  have xx0 := boxF_cell (Fam.f5 HF)
  have lx0 := World.block_lt_of_cell? _ _ xx0
  have xx2 := boxG_cell (Fam.f3 HF)
  have lx2 := World.block_lt_of_cell? _ _ xx2
  have xg0b := boxF_cell (Fam.f1 HF)
  have lg0b := World.block_lt_of_cell? _ _ xg0b
  replace HF := HF.tail1
  go_wp2_with fail
  clear xw0b lw0b
  clear xx0 lx0
  clear xx2 lx2
  clear xg0b lg0b
  replace HF := Fam.f3 HF
  refine (markTable_c _ _ _ _ _ _ _ HF hs m2 rfl (by omega)).mono ?_
  rintro e w14 ⟨rfl, HF', hlow⟩
  replace HF := HF'
  clear HF'
  have B14 : Below w2.heap.size w13 w14 := hlow
  have T14 : Bel w w14 := T13.belowT hlow hBS
  replace xb0 := (Below.cell (p := ⟨w.heap.size, 0, none⟩) hlow lbb0).trans xb0
  replace lb0 := Nat.lt_of_lt_of_le lb0 hlow.size
  replace xb2 := (Below.cell (p := ⟨w.heap.size + 1, 0, none⟩) hlow lbb2).trans xb2
  replace lb2 := Nat.lt_of_lt_of_le lb2 hlow.size
  replace h0 := h00.keep T14
  replace h2 := h20.keep T14
  replace hs := Nat.le_trans hs hlow.size
  clear hlow
  have xw0b := boxF_cell (Fam.f5 HF)
  have lw0b := World.block_lt_of_cell? _ _ xw0b
  have xx0 := boxF_cell (Fam.f4 HF)
  have lx0 := World.block_lt_of_cell? _ _ xx0
  have xx2 := boxG_cell (Fam.f3 HF)
  have lx2 := World.block_lt_of_cell? _ _ xx2
  have xg0b := boxF_cell (Fam.f1 HF)
  have lg0b := World.block_lt_of_cell? _ _ xg0b
  replace HF := HF.tail1
  go_wp2_with fail
  refine (eqTree_c _ _ _ _ _ _ (treeF_nodesA k1_g0 k2_g0 (Fam.f1 HF)) (treeF_nodesA k1_w0 k2_w0 (Fam.f5 HF)) hzR).mono ?_
  rintro e w15 ⟨rfl, hb15⟩
  have B15 : Bel w14 w15 := Bel.trans (by repeat (first | exact Bel.refl _ | refine Bel.alloc ?_ _ | refine Bel.drew ?_ | refine Bel.drewN ?_ _)) hb15
  have T15 : Bel w w15 := T14.trans B15
  replace xb0 := (B15.cell _ _ lb0).trans xb0
  replace lb0 := Nat.lt_of_lt_of_le lb0 B15.sz
  replace xb2 := (B15.cell _ _ lb2).trans xb2
  replace lb2 := Nat.lt_of_lt_of_le lb2 B15.sz
  replace xw0b := (B15.cell _ _ lw0b).trans xw0b
  replace lw0b := Nat.lt_of_lt_of_le lw0b B15.sz
  replace xx0 := (B15.cell _ _ lx0).trans xx0
  replace lx0 := Nat.lt_of_lt_of_le lx0 B15.sz
  replace xx2 := (B15.cell _ _ lx2).trans xx2
  replace lx2 := Nat.lt_of_lt_of_le lx2 B15.sz
  replace xg0b := (B15.cell _ _ lg0b).trans xg0b
  replace lg0b := Nat.lt_of_lt_of_le lg0b B15.sz
  replace h0 := h0.keep B15
  replace h2 := h2.keep B15
  replace HF := HF.keep B15
  replace hs := Nat.le_trans hs B15.sz
  go_wp2_with fail
  replace HF := Fam.f1 HF
  clear xw0b lw0b
  clear xx0 lx0
  clear xx2 lx2
  clear xg0b lg0b
  refine (markTree_c _ _ _ _ _ _ _ _ _ k1_g0 k2_g0 HF hs hzR (by omega)).mono ?_
  rintro e w16 ⟨rfl, HF', hlow⟩
  replace HF := HF'
  clear HF'
  have B16 : Below w2.heap.size w15 w16 := hlow
  have T16 : Bel w w16 := T15.belowT hlow hBS
  replace xb0 := (Below.cell (p := ⟨w.heap.size, 0, none⟩) hlow lbb0).trans xb0
  replace lb0 := Nat.lt_of_lt_of_le lb0 hlow.size
  replace xb2 := (Below.cell (p := ⟨w.heap.size + 1, 0, none⟩) hlow lbb2).trans xb2
  replace lb2 := Nat.lt_of_lt_of_le lb2 hlow.size
  replace h0 := h00.keep T16
  replace h2 := h20.keep T16
  replace hs := Nat.le_trans hs hlow.size
  clear hlow
  have xw0b := boxF_cell (Fam.f4 HF)
  have lw0b := World.block_lt_of_cell? _ _ xw0b
  have xx0 := boxF_cell (Fam.f3 HF)
  have lx0 := World.block_lt_of_cell? _ _ xx0
  have xx2 := boxG_cell (Fam.f2 HF)
  have lx2 := World.block_lt_of_cell? _ _ xx2
  have xg0b := boxF_cell (Fam.f1 HF)
  have lg0b := World.block_lt_of_cell? _ _ xg0b
  go_wp2_with fail
  refine (heldTree_c _ _ _ _ _ _ _ _ _ k1_g0 k2_g0 HF hzR (by omega)).mono ?_
  rintro e w17 ⟨rfl, hb17⟩
  have B17 : Bel w16 w17 := Bel.trans (by repeat (first | exact Bel.refl _ | refine Bel.alloc ?_ _ | refine Bel.drew ?_ | refine Bel.drewN ?_ _)) hb17
  have T17 : Bel w w17 := T16.trans B17
  replace xb0 := (B17.cell _ _ lb0).trans xb0
  replace lb0 := Nat.lt_of_lt_of_le lb0 B17.sz
  replace xb2 := (B17.cell _ _ lb2).trans xb2
  replace lb2 := Nat.lt_of_lt_of_le lb2 B17.sz
  replace xw0b := (B17.cell _ _ lw0b).trans xw0b
  replace lw0b := Nat.lt_of_lt_of_le lw0b B17.sz
  replace xx0 := (B17.cell _ _ lx0).trans xx0
  replace lx0 := Nat.lt_of_lt_of_le lx0 B17.sz
  replace xx2 := (B17.cell _ _ lx2).trans xx2
  replace lx2 := Nat.lt_of_lt_of_le lx2 B17.sz
  replace xg0b := (B17.cell _ _ lg0b).trans xg0b
  replace lg0b := Nat.lt_of_lt_of_le lg0b B17.sz
  replace h0 := h0.keep B17
  replace h2 := h2.keep B17
  replace HF := HF.keep B17
  replace hs := Nat.le_trans hs B17.sz
  go_wp2_with fail
  have hd0 : Bel w17 w17.drew := (Bel.refl w17).drew
  refine wp_join [17, 18, 98, 99, 100, 101, 102, 103, 104, 105, 106] (fun y u => ∃ bk A c' KS RS, y 17 = .pointer (some ⟨bk, 0, none⟩) ∧ y 18 = .int .i64 ((setTableT z0 n1 z2).2) ∧ KS.length = ((setTableT z0 n1 z2).1).length ∧ RS.length = ((setTableT z0 n1 z2).1).length ∧ Fam u w17.heap.size (boxF bk (.slice A ((setTableT z0 n1 z2).1).length c') ++ treeF (.slice A ((setTableT z0 n1 z2).1).length c') ((setTableT z0 n1 z2).1) KS RS) ∧ Bel w17 u) ?_ ?_
  ·
    refine wp_region_held_drew (S := (fun u => Bel w17 u)) (by kernel_rfl) hd0 (fun _ => ?_)
    refine wpAnyH_take (i := 0) (v := (.agg #[.slice A0 z0.length c0])) getop0 (by kernel_rfl) (by kernel_rfl) (by kernel_rfl) (by rintro c a w ⟨h, _⟩; cases h) (yieldsIf_load_mid (by rfl) 24 _ rfl (w.heap.size) 0 rfl [.slice A0 z0.length c0] _ (fun u hu => range_one ((hu.cell _ _ lb0).trans xb0)) Try.underlying24 rfl (by show _ = some 1; kernel_rfl)) (hd0) ?_
    simp only [Act.put, List.setIfInBounds_toArray, List.set_cons_zero, List.set_cons_succ]
    refine wpAnyH_take (i := 2) (v := .int .i64 n1) getop2 (by kernel_rfl) (by kernel_rfl) (by kernel_rfl) (by rintro c a w ⟨h, _⟩; cases h) (Or.inl ⟨rfl, fun u _ => y_move rfl rfl⟩) (hd0) ?_
    simp only [Act.put, List.setIfInBounds_toArray, List.set_cons_zero, List.set_cons_succ]
    refine wpAnyH_take (i := 3) (v := (.agg #[.slice A2 z2.length c2])) getop3 (by kernel_rfl) (by kernel_rfl) (by kernel_rfl) (by rintro c a w ⟨h, _⟩; cases h) (yieldsIf_load_mid (by rfl) 39 _ rfl (w.heap.size + 1) 0 rfl [.slice A2 z2.length c2] _ (fun u hu => range_one ((hu.cell _ _ lb2).trans xb2)) Try.underlying39 rfl (by show _ = some 1; kernel_rfl)) (hd0) ?_
    simp only [Act.put, List.setIfInBounds_toArray, List.set_cons_zero, List.set_cons_succ]
    refine wpAnyH_ready (rs := [1, 9]) (by kernel_rfl) (by simp) ?_
    refine AllReadyH.cons getop1 (fun K hK => ?_) ?_
    ·
      rw [if_pos (by rfl)]
      refine op_callN (xs := #[.tmp 99]) (vs := #[.agg #[.slice A0 z0.length c0]]) rfl rfl (run_callFunc Try.func13 (by kernel_rfl) rfl) ((toTree_c _ _ _ _ (h0.keep (hd0)) m0).mono ?_)
      rintro e u1 ⟨gS1, rfl, oS1, g1⟩
      have NS1 := oS1.nodesC
      clear oS1
      refine ⟨_, rfl, hK.out _ _ ((hd0).trans g1) (fun _ => ?_)⟩
      clear hK K
      simp only [Act.put, List.setIfInBounds_toArray, List.set_cons_zero, List.set_cons_succ]
      refine wpAnyH_ready (rs := [4, 9]) (by kernel_rfl) (by simp) ?_
      refine AllReadyH.cons getop4 (fun K hK => ?_) ?_
      ·
        rw [if_pos (by rfl)]
        refine op_callN (xs := #[.tmp 102]) (vs := #[.agg #[.slice A2 z2.length c2]]) rfl rfl (run_callFunc Try.func26 (by kernel_rfl) rfl) ((toTable_c _ _ _ _ (h2.keep ((hd0).trans g1)) m2).mono ?_)
        rintro e u2 ⟨gT2, rfl, oT2, g2⟩
        have NT2 := Recs.of_own (ks := k_rule) rfl oT2
        clear oT2
        refine ⟨_, rfl, hK.out _ _ (((hd0).trans g1).trans g2) (fun _ => ?_)⟩
        clear hK K
        simp only [Act.put, List.setIfInBounds_toArray, List.set_cons_zero, List.set_cons_succ]
        refine wpAnyH_ready (rs := [5, 9]) (by kernel_rfl) (by simp) ?_
        refine AllReadyH.cons getop5 (fun K hK => ?_) ?_
        ·
          rw [if_pos (by rfl)]
          refine op_callN (xs := #[.tmp 100, .tmp 101, .tmp 103]) (vs := #[treeV (some ⟨gS1, 0, none⟩) z0.length z0.length, .int .i64 n1, tableV (some ⟨gT2, 0, none⟩) z2.length z2.length]) rfl rfl (run_callFunc Try.func27 (by kernel_rfl) rfl) ((iSetTable_c _ _ _ _ _ _ _ _ ((NS1).keep g2) m0 (NT2.keep (by first | exact Bel.refl _ | exact (Bel.refl _).alloc _)) (fun h => by cases h) m2).mono ?_)
          rintro e u3 ⟨A3, c3, rfl, t3, g3⟩
          refine ⟨_, rfl, hK.out _ _ ((((hd0).trans g1).trans g2).trans g3) (fun _ => ?_)⟩
          clear hK K
          simp only [Act.put, List.setIfInBounds_toArray, List.set_cons_zero, List.set_cons_succ]
          refine wpAnyH_take (i := 6) (v := .tuple #[treeV A3 ((setTableT z0 n1 z2).1).length c3, .int .i64 ((setTableT z0 n1 z2).2)]) getop6 (by kernel_rfl) (by kernel_rfl) (by kernel_rfl) (by rintro c a w ⟨h, _⟩; cases h) (Or.inl ⟨rfl, fun u _ => y_move rfl rfl⟩) ((((hd0).trans g1).trans g2).trans g3) ?_
          simp only [Act.put, List.setIfInBounds_toArray, List.set_cons_zero, List.set_cons_succ]
          refine wpAnyH_take (i := 7) (v := treeV A3 ((setTableT z0 n1 z2).1).length c3) getop7 (by kernel_rfl) (by kernel_rfl) (by kernel_rfl) (by rintro c a w ⟨h, _⟩; cases h) (Or.inl ⟨rfl, fun u _ => y_extract0 rfl rfl⟩) ((((hd0).trans g1).trans g2).trans g3) ?_
          simp only [Act.put, List.setIfInBounds_toArray, List.set_cons_zero, List.set_cons_succ]
          refine wpAnyH_take (i := 8) (v := .int .i64 ((setTableT z0 n1 z2).2)) getop8 (by kernel_rfl) (by kernel_rfl) (by kernel_rfl) (by rintro c a w ⟨h, _⟩; cases h) (Or.inl ⟨rfl, fun u _ => y_extract1 rfl rfl⟩) ((((hd0).trans g1).trans g2).trans g3) ?_
          simp only [Act.put, List.setIfInBounds_toArray, List.set_cons_zero, List.set_cons_succ]
          refine wpAnyH_ready (rs := [9]) (by kernel_rfl) (by simp) ?_
          refine AllReadyH.cons getop9 (fun K hK => ?_) ?_
          ·
            rw [if_pos (by rfl)]
            refine op_allocTree rfl ?_
            refine hK.out _ _ (((((hd0).trans g1).trans g2).trans g3).alloc _) (fun _ => ?_)
            clear hK K
            simp only [Act.put, List.setIfInBounds_toArray, List.set_cons_zero, List.set_cons_succ]
            refine wpAnyH_ready (rs := [10]) (by kernel_rfl) (by simp) ?_
            refine AllReadyH.cons getop10 (fun K hK => ?_) ?_
            ·
              rw [if_pos (by rfl)]
              refine op_storeTree rfl rfl rfl (there_kept (there_one u3 (.slice none 0 0) 30) (Bel.refl (u3.alloc (.cells #[.slice none 0 0] 30))) (by simp)) ?_
              refine hK.out _ _ ((((((hd0).trans g1).trans g2).trans g3).alloc (.cells #[.slice none 0 0] 30)).setCell (show w17.heap.size ≤ (u3).heap.size from ((((hd0).trans g1).trans g2).trans g3).sz) _) (fun _ => ?_)
              clear hK K
              simp only [Act.put, List.setIfInBounds_toArray, List.set_cons_zero, List.set_cons_succ]
              refine wpAnyH_take (i := 11) (v := .int .i64 ((setTableT z0 n1 z2).2)) getop11 (by kernel_rfl) (by kernel_rfl) (by kernel_rfl) (by rintro c a w ⟨h, _⟩; cases h) (Or.inl ⟨rfl, fun u _ => y_assign rfl rfl⟩) ((((((hd0).trans g1).trans g2).trans g3).alloc (.cells #[.slice none 0 0] 30)).setCell (show w17.heap.size ≤ (u3).heap.size from ((((hd0).trans g1).trans g2).trans g3).sz) _) ?_
              simp only [Act.put, List.setIfInBounds_toArray, List.set_cons_zero, List.set_cons_succ]
              obtain ⟨KS, RS, k1, k2, hF2, hB2⟩ := joinC (((hd0).trans g1).trans g2) g3 t3
              refine wpAnyH_done (by kernel_rfl) (join_here (by kernel_rfl) ?_) _
              exact ⟨_, _, _, KS, RS, rfl, rfl, k1, k2, hF2, hB2⟩
            exact AllReadyH.nil
          exact AllReadyH.nil
        refine AllReadyH.cons getop9 (fun K hK => ?_) ?_
        ·
          rw [if_pos (by rfl)]
          refine op_allocTree rfl ?_
          refine hK.out _ _ ((((hd0).trans g1).trans g2).alloc _) (fun _ => ?_)
          clear hK K
          simp only [Act.put, List.setIfInBounds_toArray, List.set_cons_zero, List.set_cons_succ]
          refine wpAnyH_ready (rs := [5]) (by kernel_rfl) (by simp) ?_
          refine AllReadyH.cons getop5 (fun K hK => ?_) ?_
          ·
            rw [if_pos (by rfl)]
            refine op_callN (xs := #[.tmp 100, .tmp 101, .tmp 103]) (vs := #[treeV (some ⟨gS1, 0, none⟩) z0.length z0.length, .int .i64 n1, tableV (some ⟨gT2, 0, none⟩) z2.length z2.length]) rfl rfl (run_callFunc Try.func27 (by kernel_rfl) rfl) ((iSetTable_c _ _ _ _ _ _ _ _ (((NS1).keep g2).keep ((Bel.refl _).alloc _)) m0 (NT2.keep (by first | exact Bel.refl _ | exact (Bel.refl _).alloc _)) (fun h => by cases h) m2).mono ?_)
            rintro e u7 ⟨A7, c7, rfl, t7, g7⟩
            refine ⟨_, rfl, hK.out _ _ (((((hd0).trans g1).trans g2).alloc (.cells #[.slice none 0 0] 30)).trans g7) (fun _ => ?_)⟩
            clear hK K
            simp only [Act.put, List.setIfInBounds_toArray, List.set_cons_zero, List.set_cons_succ]
            refine wpAnyH_take (i := 6) (v := .tuple #[treeV A7 ((setTableT z0 n1 z2).1).length c7, .int .i64 ((setTableT z0 n1 z2).2)]) getop6 (by kernel_rfl) (by kernel_rfl) (by kernel_rfl) (by rintro c a w ⟨h, _⟩; cases h) (Or.inl ⟨rfl, fun u _ => y_move rfl rfl⟩) (((((hd0).trans g1).trans g2).alloc (.cells #[.slice none 0 0] 30)).trans g7) ?_
            simp only [Act.put, List.setIfInBounds_toArray, List.set_cons_zero, List.set_cons_succ]
            refine wpAnyH_take (i := 7) (v := treeV A7 ((setTableT z0 n1 z2).1).length c7) getop7 (by kernel_rfl) (by kernel_rfl) (by kernel_rfl) (by rintro c a w ⟨h, _⟩; cases h) (Or.inl ⟨rfl, fun u _ => y_extract0 rfl rfl⟩) (((((hd0).trans g1).trans g2).alloc (.cells #[.slice none 0 0] 30)).trans g7) ?_
            simp only [Act.put, List.setIfInBounds_toArray, List.set_cons_zero, List.set_cons_succ]
            refine wpAnyH_take (i := 8) (v := .int .i64 ((setTableT z0 n1 z2).2)) getop8 (by kernel_rfl) (by kernel_rfl) (by kernel_rfl) (by rintro c a w ⟨h, _⟩; cases h) (Or.inl ⟨rfl, fun u _ => y_extract1 rfl rfl⟩) (((((hd0).trans g1).trans g2).alloc (.cells #[.slice none 0 0] 30)).trans g7) ?_
            simp only [Act.put, List.setIfInBounds_toArray, List.set_cons_zero, List.set_cons_succ]
            refine wpAnyH_ready (rs := [10]) (by kernel_rfl) (by simp) ?_
            refine AllReadyH.cons getop10 (fun K hK => ?_) ?_
            ·
              rw [if_pos (by rfl)]
              refine op_storeTree rfl rfl rfl (there_kept (there_one u2 (.slice none 0 0) 30) ((Bel.refl (u2.alloc (.cells #[.slice none 0 0] 30))).trans g7) (by simp)) ?_
              refine hK.out _ _ ((((((hd0).trans g1).trans g2).alloc (.cells #[.slice none 0 0] 30)).trans g7).setCell (show w17.heap.size ≤ (u2).heap.size from (((hd0).trans g1).trans g2).sz) _) (fun _ => ?_)
              clear hK K
              simp only [Act.put, List.setIfInBounds_toArray, List.set_cons_zero, List.set_cons_succ]
              refine wpAnyH_take (i := 11) (v := .int .i64 ((setTableT z0 n1 z2).2)) getop11 (by kernel_rfl) (by kernel_rfl) (by kernel_rfl) (by rintro c a w ⟨h, _⟩; cases h) (Or.inl ⟨rfl, fun u _ => y_assign rfl rfl⟩) ((((((hd0).trans g1).trans g2).alloc (.cells #[.slice none 0 0] 30)).trans g7).setCell (show w17.heap.size ≤ (u2).heap.size from (((hd0).trans g1).trans g2).sz) _) ?_
              simp only [Act.put, List.setIfInBounds_toArray, List.set_cons_zero, List.set_cons_succ]
              obtain ⟨KS, RS, k1, k2, hF2, hB2⟩ := joinB (((hd0).trans g1).trans g2) (Bel.refl (u2.alloc (.cells #[.slice none 0 0] 30))) g7 t7
              refine wpAnyH_done (by kernel_rfl) (join_here (by kernel_rfl) ?_) _
              exact ⟨_, _, _, KS, RS, rfl, rfl, k1, k2, hF2, hB2⟩
            exact AllReadyH.nil
          exact AllReadyH.nil
        exact AllReadyH.nil
      refine AllReadyH.cons getop9 (fun K hK => ?_) ?_
      ·
        rw [if_pos (by rfl)]
        refine op_allocTree rfl ?_
        refine hK.out _ _ (((hd0).trans g1).alloc _) (fun _ => ?_)
        clear hK K
        simp only [Act.put, List.setIfInBounds_toArray, List.set_cons_zero, List.set_cons_succ]
        refine wpAnyH_ready (rs := [4]) (by kernel_rfl) (by simp) ?_
        refine AllReadyH.cons getop4 (fun K hK => ?_) ?_
        ·
          rw [if_pos (by rfl)]
          refine op_callN (xs := #[.tmp 102]) (vs := #[.agg #[.slice A2 z2.length c2]]) rfl rfl (run_callFunc Try.func26 (by kernel_rfl) rfl) ((toTable_c _ _ _ _ (h2.keep (((hd0).trans g1).alloc (.cells #[.slice none 0 0] 30))) m2).mono ?_)
          rintro e u10 ⟨gT10, rfl, oT10, g10⟩
          have NT10 := Recs.of_own (ks := k_rule) rfl oT10
          clear oT10
          refine ⟨_, rfl, hK.out _ _ ((((hd0).trans g1).alloc (.cells #[.slice none 0 0] 30)).trans g10) (fun _ => ?_)⟩
          clear hK K
          simp only [Act.put, List.setIfInBounds_toArray, List.set_cons_zero, List.set_cons_succ]
          refine wpAnyH_ready (rs := [5]) (by kernel_rfl) (by simp) ?_
          refine AllReadyH.cons getop5 (fun K hK => ?_) ?_
          ·
            rw [if_pos (by rfl)]
            refine op_callN (xs := #[.tmp 100, .tmp 101, .tmp 103]) (vs := #[treeV (some ⟨gS1, 0, none⟩) z0.length z0.length, .int .i64 n1, tableV (some ⟨gT10, 0, none⟩) z2.length z2.length]) rfl rfl (run_callFunc Try.func27 (by kernel_rfl) rfl) ((iSetTable_c _ _ _ _ _ _ _ _ (((NS1).keep ((Bel.refl _).alloc _)).keep g10) m0 (NT10.keep (by first | exact Bel.refl _ | exact (Bel.refl _).alloc _)) (fun h => by cases h) m2).mono ?_)
            rintro e u11 ⟨A11, c11, rfl, t11, g11⟩
            refine ⟨_, rfl, hK.out _ _ (((((hd0).trans g1).alloc (.cells #[.slice none 0 0] 30)).trans g10).trans g11) (fun _ => ?_)⟩
            clear hK K
            simp only [Act.put, List.setIfInBounds_toArray, List.set_cons_zero, List.set_cons_succ]
            refine wpAnyH_take (i := 6) (v := .tuple #[treeV A11 ((setTableT z0 n1 z2).1).length c11, .int .i64 ((setTableT z0 n1 z2).2)]) getop6 (by kernel_rfl) (by kernel_rfl) (by kernel_rfl) (by rintro c a w ⟨h, _⟩; cases h) (Or.inl ⟨rfl, fun u _ => y_move rfl rfl⟩) (((((hd0).trans g1).alloc (.cells #[.slice none 0 0] 30)).trans g10).trans g11) ?_
            simp only [Act.put, List.setIfInBounds_toArray, List.set_cons_zero, List.set_cons_succ]
            refine wpAnyH_take (i := 7) (v := treeV A11 ((setTableT z0 n1 z2).1).length c11) getop7 (by kernel_rfl) (by kernel_rfl) (by kernel_rfl) (by rintro c a w ⟨h, _⟩; cases h) (Or.inl ⟨rfl, fun u _ => y_extract0 rfl rfl⟩) (((((hd0).trans g1).alloc (.cells #[.slice none 0 0] 30)).trans g10).trans g11) ?_
            simp only [Act.put, List.setIfInBounds_toArray, List.set_cons_zero, List.set_cons_succ]
            refine wpAnyH_take (i := 8) (v := .int .i64 ((setTableT z0 n1 z2).2)) getop8 (by kernel_rfl) (by kernel_rfl) (by kernel_rfl) (by rintro c a w ⟨h, _⟩; cases h) (Or.inl ⟨rfl, fun u _ => y_extract1 rfl rfl⟩) (((((hd0).trans g1).alloc (.cells #[.slice none 0 0] 30)).trans g10).trans g11) ?_
            simp only [Act.put, List.setIfInBounds_toArray, List.set_cons_zero, List.set_cons_succ]
            refine wpAnyH_ready (rs := [10]) (by kernel_rfl) (by simp) ?_
            refine AllReadyH.cons getop10 (fun K hK => ?_) ?_
            ·
              rw [if_pos (by rfl)]
              refine op_storeTree rfl rfl rfl (there_kept (there_one u1 (.slice none 0 0) 30) (((Bel.refl (u1.alloc (.cells #[.slice none 0 0] 30))).trans g10).trans g11) (by simp)) ?_
              refine hK.out _ _ ((((((hd0).trans g1).alloc (.cells #[.slice none 0 0] 30)).trans g10).trans g11).setCell (show w17.heap.size ≤ (u1).heap.size from ((hd0).trans g1).sz) _) (fun _ => ?_)
              clear hK K
              simp only [Act.put, List.setIfInBounds_toArray, List.set_cons_zero, List.set_cons_succ]
              refine wpAnyH_take (i := 11) (v := .int .i64 ((setTableT z0 n1 z2).2)) getop11 (by kernel_rfl) (by kernel_rfl) (by kernel_rfl) (by rintro c a w ⟨h, _⟩; cases h) (Or.inl ⟨rfl, fun u _ => y_assign rfl rfl⟩) ((((((hd0).trans g1).alloc (.cells #[.slice none 0 0] 30)).trans g10).trans g11).setCell (show w17.heap.size ≤ (u1).heap.size from ((hd0).trans g1).sz) _) ?_
              simp only [Act.put, List.setIfInBounds_toArray, List.set_cons_zero, List.set_cons_succ]
              obtain ⟨KS, RS, k1, k2, hF2, hB2⟩ := joinB ((hd0).trans g1) ((Bel.refl (u1.alloc (.cells #[.slice none 0 0] 30))).trans g10) g11 t11
              refine wpAnyH_done (by kernel_rfl) (join_here (by kernel_rfl) ?_) _
              exact ⟨_, _, _, KS, RS, rfl, rfl, k1, k2, hF2, hB2⟩
            exact AllReadyH.nil
          exact AllReadyH.nil
        exact AllReadyH.nil
      exact AllReadyH.nil
    refine AllReadyH.cons getop9 (fun K hK => ?_) ?_
    ·
      rw [if_pos (by rfl)]
      refine op_allocTree rfl ?_
      refine hK.out _ _ ((hd0).alloc _) (fun _ => ?_)
      clear hK K
      simp only [Act.put, List.setIfInBounds_toArray, List.set_cons_zero, List.set_cons_succ]
      refine wpAnyH_ready (rs := [1]) (by kernel_rfl) (by simp) ?_
      refine AllReadyH.cons getop1 (fun K hK => ?_) ?_
      ·
        rw [if_pos (by rfl)]
        refine op_callN (xs := #[.tmp 99]) (vs := #[.agg #[.slice A0 z0.length c0]]) rfl rfl (run_callFunc Try.func13 (by kernel_rfl) rfl) ((toTree_c _ _ _ _ (h0.keep ((hd0).alloc (.cells #[.slice none 0 0] 30))) m0).mono ?_)
        rintro e u14 ⟨gS14, rfl, oS14, g14⟩
        have NS14 := oS14.nodesC
        clear oS14
        refine ⟨_, rfl, hK.out _ _ (((hd0).alloc (.cells #[.slice none 0 0] 30)).trans g14) (fun _ => ?_)⟩
        clear hK K
        simp only [Act.put, List.setIfInBounds_toArray, List.set_cons_zero, List.set_cons_succ]
        refine wpAnyH_ready (rs := [4]) (by kernel_rfl) (by simp) ?_
        refine AllReadyH.cons getop4 (fun K hK => ?_) ?_
        ·
          rw [if_pos (by rfl)]
          refine op_callN (xs := #[.tmp 102]) (vs := #[.agg #[.slice A2 z2.length c2]]) rfl rfl (run_callFunc Try.func26 (by kernel_rfl) rfl) ((toTable_c _ _ _ _ (h2.keep (((hd0).alloc (.cells #[.slice none 0 0] 30)).trans g14)) m2).mono ?_)
          rintro e u15 ⟨gT15, rfl, oT15, g15⟩
          have NT15 := Recs.of_own (ks := k_rule) rfl oT15
          clear oT15
          refine ⟨_, rfl, hK.out _ _ ((((hd0).alloc (.cells #[.slice none 0 0] 30)).trans g14).trans g15) (fun _ => ?_)⟩
          clear hK K
          simp only [Act.put, List.setIfInBounds_toArray, List.set_cons_zero, List.set_cons_succ]
          refine wpAnyH_ready (rs := [5]) (by kernel_rfl) (by simp) ?_
          refine AllReadyH.cons getop5 (fun K hK => ?_) ?_
          ·
            rw [if_pos (by rfl)]
            refine op_callN (xs := #[.tmp 100, .tmp 101, .tmp 103]) (vs := #[treeV (some ⟨gS14, 0, none⟩) z0.length z0.length, .int .i64 n1, tableV (some ⟨gT15, 0, none⟩) z2.length z2.length]) rfl rfl (run_callFunc Try.func27 (by kernel_rfl) rfl) ((iSetTable_c _ _ _ _ _ _ _ _ ((NS14).keep g15) m0 (NT15.keep (by first | exact Bel.refl _ | exact (Bel.refl _).alloc _)) (fun h => by cases h) m2).mono ?_)
            rintro e u16 ⟨A16, c16, rfl, t16, g16⟩
            refine ⟨_, rfl, hK.out _ _ (((((hd0).alloc (.cells #[.slice none 0 0] 30)).trans g14).trans g15).trans g16) (fun _ => ?_)⟩
            clear hK K
            simp only [Act.put, List.setIfInBounds_toArray, List.set_cons_zero, List.set_cons_succ]
            refine wpAnyH_take (i := 6) (v := .tuple #[treeV A16 ((setTableT z0 n1 z2).1).length c16, .int .i64 ((setTableT z0 n1 z2).2)]) getop6 (by kernel_rfl) (by kernel_rfl) (by kernel_rfl) (by rintro c a w ⟨h, _⟩; cases h) (Or.inl ⟨rfl, fun u _ => y_move rfl rfl⟩) (((((hd0).alloc (.cells #[.slice none 0 0] 30)).trans g14).trans g15).trans g16) ?_
            simp only [Act.put, List.setIfInBounds_toArray, List.set_cons_zero, List.set_cons_succ]
            refine wpAnyH_take (i := 7) (v := treeV A16 ((setTableT z0 n1 z2).1).length c16) getop7 (by kernel_rfl) (by kernel_rfl) (by kernel_rfl) (by rintro c a w ⟨h, _⟩; cases h) (Or.inl ⟨rfl, fun u _ => y_extract0 rfl rfl⟩) (((((hd0).alloc (.cells #[.slice none 0 0] 30)).trans g14).trans g15).trans g16) ?_
            simp only [Act.put, List.setIfInBounds_toArray, List.set_cons_zero, List.set_cons_succ]
            refine wpAnyH_take (i := 8) (v := .int .i64 ((setTableT z0 n1 z2).2)) getop8 (by kernel_rfl) (by kernel_rfl) (by kernel_rfl) (by rintro c a w ⟨h, _⟩; cases h) (Or.inl ⟨rfl, fun u _ => y_extract1 rfl rfl⟩) (((((hd0).alloc (.cells #[.slice none 0 0] 30)).trans g14).trans g15).trans g16) ?_
            simp only [Act.put, List.setIfInBounds_toArray, List.set_cons_zero, List.set_cons_succ]
            refine wpAnyH_ready (rs := [10]) (by kernel_rfl) (by simp) ?_
            refine AllReadyH.cons getop10 (fun K hK => ?_) ?_
            ·
              rw [if_pos (by rfl)]
              refine op_storeTree rfl rfl rfl (there_kept (there_one w17.drew (.slice none 0 0) 30) ((((Bel.refl (w17.drew.alloc (.cells #[.slice none 0 0] 30))).trans g14).trans g15).trans g16) (by simp)) ?_
              refine hK.out _ _ ((((((hd0).alloc (.cells #[.slice none 0 0] 30)).trans g14).trans g15).trans g16).setCell (show w17.heap.size ≤ (w17.drew).heap.size from (hd0).sz) _) (fun _ => ?_)
              clear hK K
              simp only [Act.put, List.setIfInBounds_toArray, List.set_cons_zero, List.set_cons_succ]
              refine wpAnyH_take (i := 11) (v := .int .i64 ((setTableT z0 n1 z2).2)) getop11 (by kernel_rfl) (by kernel_rfl) (by kernel_rfl) (by rintro c a w ⟨h, _⟩; cases h) (Or.inl ⟨rfl, fun u _ => y_assign rfl rfl⟩) ((((((hd0).alloc (.cells #[.slice none 0 0] 30)).trans g14).trans g15).trans g16).setCell (show w17.heap.size ≤ (w17.drew).heap.size from (hd0).sz) _) ?_
              simp only [Act.put, List.setIfInBounds_toArray, List.set_cons_zero, List.set_cons_succ]
              obtain ⟨KS, RS, k1, k2, hF2, hB2⟩ := joinB (hd0) (((Bel.refl (w17.drew.alloc (.cells #[.slice none 0 0] 30))).trans g14).trans g15) g16 t16
              refine wpAnyH_done (by kernel_rfl) (join_here (by kernel_rfl) ?_) _
              exact ⟨_, _, _, KS, RS, rfl, rfl, k1, k2, hF2, hB2⟩
            exact AllReadyH.nil
          exact AllReadyH.nil
        exact AllReadyH.nil
      exact AllReadyH.nil
    exact AllReadyH.nil
  rintro y w18 ⟨bk_h0r, A_h0r, c_h0r, KS_h0r, RS_h0r, hy1, hy2, k1_h0r, k2_h0r, HN0, hb18⟩
  simp only [setAll, List.foldl_cons, List.foldl_nil, List.setIfInBounds_toArray, List.set_cons_zero, List.set_cons_succ]
  rw [hy1, hy2]
  clear hy1 hy2 hd0
  have B18 : Bel w17 w18 := Bel.trans (by repeat (first | exact Bel.refl _ | refine Bel.alloc ?_ _ | refine Bel.drew ?_ | refine Bel.drewN ?_ _)) hb18
  have T18 : Bel w w18 := T17.trans B18
  replace xb0 := (B18.cell _ _ lb0).trans xb0
  replace lb0 := Nat.lt_of_lt_of_le lb0 B18.sz
  replace xb2 := (B18.cell _ _ lb2).trans xb2
  replace lb2 := Nat.lt_of_lt_of_le lb2 B18.sz
  replace xw0b := (B18.cell _ _ lw0b).trans xw0b
  replace lw0b := Nat.lt_of_lt_of_le lw0b B18.sz
  replace xx0 := (B18.cell _ _ lx0).trans xx0
  replace lx0 := Nat.lt_of_lt_of_le lx0 B18.sz
  replace xx2 := (B18.cell _ _ lx2).trans xx2
  replace lx2 := Nat.lt_of_lt_of_le lx2 B18.sz
  replace xg0b := (B18.cell _ _ lg0b).trans xg0b
  replace lg0b := Nat.lt_of_lt_of_le lg0b B18.sz
  replace h0 := h0.keep B18
  replace h2 := h2.keep B18
  have xh0b := boxF_cell (R := treeF (.slice A_h0r ((setTableT z0 n1 z2).1).length c_h0r) ((setTableT z0 n1 z2).1) KS_h0r RS_h0r) HN0
  have lh0b := World.block_lt_of_cell? _ _ xh0b
  replace HF := HF.more2 B18 HN0 hs
  clear HN0
  replace hs := Nat.le_trans hs B18.sz
  go_wp2_with fail
  refine (eqTree_c _ _ _ _ _ _ (treeF_nodesA k1_h0r k2_h0r (Fam.f1 HF)) (treeF_nodesA k1_w0 k2_w0 (Fam.f7 HF)) hzR).mono ?_
  rintro e w19 ⟨rfl, hb19⟩
  have B19 : Bel w18 w19 := Bel.trans (by repeat (first | exact Bel.refl _ | refine Bel.alloc ?_ _ | refine Bel.drew ?_ | refine Bel.drewN ?_ _)) hb19
  have T19 : Bel w w19 := T18.trans B19
  replace xb0 := (B19.cell _ _ lb0).trans xb0
  replace lb0 := Nat.lt_of_lt_of_le lb0 B19.sz
  replace xb2 := (B19.cell _ _ lb2).trans xb2
  replace lb2 := Nat.lt_of_lt_of_le lb2 B19.sz
  replace xw0b := (B19.cell _ _ lw0b).trans xw0b
  replace lw0b := Nat.lt_of_lt_of_le lw0b B19.sz
  replace xx0 := (B19.cell _ _ lx0).trans xx0
  replace lx0 := Nat.lt_of_lt_of_le lx0 B19.sz
  replace xx2 := (B19.cell _ _ lx2).trans xx2
  replace lx2 := Nat.lt_of_lt_of_le lx2 B19.sz
  replace xg0b := (B19.cell _ _ lg0b).trans xg0b
  replace lg0b := Nat.lt_of_lt_of_le lg0b B19.sz
  replace xh0b := (B19.cell _ _ lh0b).trans xh0b
  replace lh0b := Nat.lt_of_lt_of_le lh0b B19.sz
  replace h0 := h0.keep B19
  replace h2 := h2.keep B19
  replace HF := HF.keep B19
  replace hs := Nat.le_trans hs B19.sz
  go_wp2_with fail
  refine (heldTree_c _ _ _ _ _ _ _ _ _ k1_g0 k2_g0 (Fam.f2 HF) hzR (by omega)).mono ?_
  rintro e w20 ⟨rfl, hb20⟩
  have B20 : Bel w19 w20 := Bel.trans (by repeat (first | exact Bel.refl _ | refine Bel.alloc ?_ _ | refine Bel.drew ?_ | refine Bel.drewN ?_ _)) hb20
  have T20 : Bel w w20 := T19.trans B20
  replace xb0 := (B20.cell _ _ lb0).trans xb0
  replace lb0 := Nat.lt_of_lt_of_le lb0 B20.sz
  replace xb2 := (B20.cell _ _ lb2).trans xb2
  replace lb2 := Nat.lt_of_lt_of_le lb2 B20.sz
  replace xw0b := (B20.cell _ _ lw0b).trans xw0b
  replace lw0b := Nat.lt_of_lt_of_le lw0b B20.sz
  replace xx0 := (B20.cell _ _ lx0).trans xx0
  replace lx0 := Nat.lt_of_lt_of_le lx0 B20.sz
  replace xx2 := (B20.cell _ _ lx2).trans xx2
  replace lx2 := Nat.lt_of_lt_of_le lx2 B20.sz
  replace xg0b := (B20.cell _ _ lg0b).trans xg0b
  replace lg0b := Nat.lt_of_lt_of_le lg0b B20.sz
  replace xh0b := (B20.cell _ _ lh0b).trans xh0b
  replace lh0b := Nat.lt_of_lt_of_le lh0b B20.sz
  replace h0 := h0.keep B20
  replace h2 := h2.keep B20
  replace HF := HF.keep B20
  replace hs := Nat.le_trans hs B20.sz
  go_wp2_with fail
  go_ret
  exact ⟨rfl, T20⟩

set_option maxRecDepth 100000 in
set_option maxHeartbeats 8000000 in
set_option maxRecDepth 100000 in
theorem ExactSetTable_lifted (os : Os) (started : os.Started) (H : Type) (enc : TypeId × Value → H) :
    ReturnsInHanded {} Try.checked os 6 .any (Rows.fnExactSetTableSpec.pre6 enc Try.prog Try.f6 Rows.fnExactSetTableRow.domain false) (Rows.fnExactSetTableSpec.post enc Try.prog Try.f6 false true false false) := by
  refine law_lifted (C := Try.checked) (tb := 4) own started (by kernel_rfl) Try.func6 laidOut rfl rfl Try.underlying4 (by kernel_rfl)
    (fun ds h => match ds, h with | [_, _, _], _ => rfl)
    (ChangeSpec.witness6 (enc := enc) (C := Try.checked) false ⟨#[], #[.agg #[.slice none 0 0], .int .i64 0, tableV none 0 0], []⟩ 8 (by kernel_rfl) (by kernel_rfl) (by kernel_rfl) (by kernel_rfl)) ?_
  intro W base args ds ps hval0 hA0
  have hval : ∀ (j : Nat) t v, Try.f6.params[j]? = some t → args[j]? = some v → Value.okWide Try.prog W .any base t v := hval0
  have hA : DataW.TrodAll enc Try.prog W 0 (fun _ => true) true Try.f6.params.toList args.toList ds ps := hA0
  clear hval0 hA0
  rw [Try.params6] at hA hval
  obtain ⟨v0, v1, v2, d0, d1, d2, p0, p1, p2, rfl, rfl, rfl, g0, g1, g2⟩ := trodAll_three hA
  obtain ⟨A0, c0, z0, rfl, k0, k0', -, -, h0⟩ := open_tree (ti := 3) (tk := 26) (tb := 4) (tr := 37) (er := 108) (tst := [3, 3, 3, 3, 3, 3, 4, 4, 3, 3, 3, 3, 3, 3, 3, 3, 3, 3, 3, 3, 3, 3, 3, 3, 3, 3, 3, 3, 3, 3, 3, 3, 3, 3, 3, 3, 3, 3, 3, 3, 3, 3, 3, 3, 3, 3, 3, 3, 3, 3, 3, 3, 3, 3, 3, 3, 3, 3, 3, 3]) (rts := [3, 3, 3]) (ts := 3 :: 26 :: ([3, 3, 3, 3, 3, 3, 4, 4, 3, 3, 3, 3, 3, 3, 3, 3, 3, 3, 3, 3, 3, 3, 3, 3, 3, 3, 3, 3, 3, 3, 3, 3, 3, 3, 3, 3, 3, 3, 3, 3, 3, 3, 3, 3, 3, 3, 3, 3, 3, 3, 3, 3, 3, 3, 3, 3, 3, 3, 3, 3] ++ [4, 37])) Try.underlying24 (by kernel_rfl) Try.underlying22 (by kernel_rfl) rfl (by kernel_rfl) Try.underlying3 (by kernel_rfl) Try.underlying26 (by kernel_rfl) Try.underlying4 Try.underlying37 (by kernel_rfl) (by kernel_rfl) (by kernel_rfl) (hval 0 24 v0 rfl rfl) g0
  obtain ⟨n1, i1, rfl⟩ := open_num Try.underlying3 (hval 1 3 v1 rfl rfl) g1
  obtain ⟨A2, c2, z2, rfl, k2, k2', -, h2⟩ := open_table Try.underlying39 Try.underlying37 (ts' := [3, 3, 3]) (ks := k_rule) (by kernel_rfl) rfl (by kernel_rfl) (by kernel_rfl) (by kernel_rfl) (by decide) (hval 2 39 v2 rfl rfl) g2
  exact lawSetTable_c _ _ _ _ _ _ _ W h0 (by unfold maxLen at k0'; omega) i1 h2 (by unfold maxLen at k2'; omega)

theorem ExactSetTable_holds : Rows.FnExactSetTableSaid :=
  OpenClaim.holds_of_wide 6 Try.f6 rfl rfl rfl rfl rfl rfl rfl ⟨rfl, rfl, rfl, rfl, rfl⟩ rfl rfl rfl rfl rfl (by kernel_rfl) Try.func6 (by kernel_rfl)
    (of_decide_eq_true (by kernel_rfl)) (by unfold Func.isWrapper; first | (rw [if_pos (by decide +kernel)]; kernel_rfl) | (rw [if_neg (by decide +kernel)]; exact ⟨rfl, rfl⟩))
    (fun os started H enc _ => ExactSetTable_lifted os started H enc)
#print axioms ExactSetTable_holds
end Go.Proofs.Ytcdneamoemmohaa
