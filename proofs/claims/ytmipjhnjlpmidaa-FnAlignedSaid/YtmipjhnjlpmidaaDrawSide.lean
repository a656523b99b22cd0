/- Draws of sides: l17Side, l17Any, l17List, DrawPlaceAcross, DrawCrossOf. -/
import Derived.Test.YtmipjhnjlpmidaaDrawIt
import Derived.Test.YtmipjhnjlpmidaaSideS
import Derived.OwnWalk
import Derived.Deep.CutBlock
namespace Go.Proofs.Ytmipjhnjlpmidaa
open Go.RowKit Go.ChangeShapes Go.WideShapes
set_option linter.unusedVariables false
set_option linter.unusedSimpArgs false

def sideR (x : Rec) : Value := sideV (x.s 0) (x.s 1) (x.s 2) (x.b 3) (x.b 4) (x.s 5) (x.s 6)
set_option maxRecDepth 100000 in
set_option maxHeartbeats 2000000 in
theorem l17Side_c (p : Nat) (w : World) (hc : Cur w p) :
    Calls Try.prog 109 #[.pointer (some ⟨p, 0, none⟩)] w fun r w' => ∃ x : Rec, r = .returned (sideR x) ∧ Cur w' p ∧ CB p w w' := by
  have hlt := hc.lt
  go_enter Try.func109, Try.ntmps109
  go_wp2_with fail
  refine (l01Below_c _ _ _ (hc.keep ((Bel.refl _).alloc _))).mono ?_; rintro e w1 ⟨x, rfl, hx, hc1, hb1⟩
  have hB2 : BX w1 w.heap.size k_side := (BX.new w k_side Rec.zero 51).cb hb1 (by omega)
  have hcb1 : CB p w w1 := ((CB.refl p w).alloc _).trans hb1
  go_wp2_with fail
  refine (pickLit_c _ [0, 64, 100, 33, x] w1 _ hc1 (by simp) (by simp) (by simp)).mono ?_; rintro e w2 ⟨z, rfl, hz, hc2, hb2⟩
  have hB2' := hB2.cb hb2 (by omega)
  have hcb2 := hcb1.trans hb2
  clear hB2 hcb1 hb1 hb2 hc1 hc hz hx
  go_wp2_with fail
  refine (l01Below_c _ _ _ hc2).mono ?_; rintro e w3 ⟨al, rfl, hal, hc3, hb3⟩
  have hB3 := hB2'.cb hb3 (by omega)
  have hcb3 := hcb2.trans hb3
  have hl2 := hB3.1
  clear hB2' hcb2 hb3 hc2
  have ha0 := hal.1
  have ha1 := hal.2.1 (by omega)
  have hI : It k_side w (w3.alloc (.cells (rcells k_side ⟨fun i => if i = 0 then z else if i = 5 then 1 + al else 0, fun _ => false⟩).toArray 51)) p w.heap.size w3.heap.size :=
    ⟨hc3.keep ((Bel.refl _).alloc _), hcb3.alloc _, Nat.le_refl _, hcb3.sz, hlt, by omega, hB3.keep ((Bel.refl _).alloc _), BX.new w3 k_side _ 51⟩
  clear hB3 hc3 hcb3
  go_wp2_with fail
  refine (l01Once_c _ _ _ hI.cur).mono ?_; rintro e w4 ⟨b, rfl, hc4, hb4⟩
  have hK := hI.go hc4 hb4
  clear hI hc4 hb4
  obtain ⟨g2, hg2⟩ : ∃ g, w.heap.size = g := ⟨_, rfl⟩
  obtain ⟨g3, hg3⟩ : ∃ g, w3.heap.size = g := ⟨_, rfl⟩
  rw [hg2, hg3] at hK ⊢
  go_upto_if 14 with fail
  go_cut [] from 15 (fun wx => It k_side w wx p g2 g3)
  case first =>
    cases b
    · go_wp2_with fail
      go_meet
      exact hK
    · go_wp2_with fail
      refine (pickLit_c _ [0, 10, 33, -10] _ _ hK.cur (by simp) (by simp) (by simp)).mono ?_; rintro e w4 ⟨z4, rfl, hz4, hc4, hb4⟩
      have hJ := hK.go hc4 hb4
      obtain ⟨n4, hn4⟩ := hJ.b3.cellI (j := 1) rfl
      have hf4 := hJ.b3.2.2 1
      clear hc4 hb4 hK
      go_wp2_with fail
      have hI := hJ.setI (j := 1) rfl z4
      clear hJ hn4 hf4
      refine (pickLit_c _ [0, 10, 33, -10] _ _ hI.cur (by simp) (by simp) (by simp)).mono ?_; rintro e w4 ⟨z4, rfl, hz4, hc4, hb4⟩
      have hJ := hI.go hc4 hb4
      obtain ⟨n4, hn4⟩ := hJ.b3.cellI (j := 2) rfl
      have hf4 := hJ.b3.2.2 2
      clear hc4 hb4 hI
      go_wp2_with fail
      go_meet
      exact hJ.setI rfl _
  case rest =>
  have hI := hcut
  clear hcut hK
  go_wp2_with fail
  refine (l01Once_c _ _ _ hI.cur).mono ?_; rintro e w4 ⟨z4, rfl, hc4, hb4⟩
  have hJ := hI.go hc4 hb4
  obtain ⟨n4, hn4⟩ := hJ.b3.cellB (j := 3) rfl
  have hf4 := hJ.b3.2.2 3
  clear hc4 hb4 hI
  go_wp2_with fail
  have hI := hJ.setB (j := 3) rfl z4
  clear hJ hn4 hf4
  refine (l01Once_c _ _ _ hI.cur).mono ?_; rintro e w4 ⟨z4, rfl, hc4, hb4⟩
  have hJ := hI.go hc4 hb4
  obtain ⟨n4, hn4⟩ := hJ.b3.cellB (j := 4) rfl
  have hf4 := hJ.b3.2.2 4
  obtain ⟨n0, hn0⟩ := hJ.b3.cellI (j := 0) rfl
  clear hc4 hb4 hI
  go_wp2_with fail
  have hI := hJ.setB (j := 4) rfl z4
  clear hJ hn4 hf4 hn0
  refine (l01Below_c _ _ _ hI.cur).mono ?_; rintro e w4 ⟨ba, rfl, hba, hc4, hb4⟩
  have hJ := hI.go hc4 hb4
  clear hc4 hb4 hI
  obtain ⟨hl3, ⟨r, hr⟩, hf3⟩ := hJ.b3
  obtain ⟨hl2, ⟨r2, hr2⟩, hf2⟩ := hJ.b2
  have xf := hf3 6
  have hne := hJ.ne
  have hne2 : ¬ g3 = g2 := by omega
  have x0 := hr 0 _ rfl
  have x1 := hr 1 _ rfl
  have x2 := hr 2 _ rfl
  have x3 := hr 3 _ rfl
  have x4 := hr 4 _ rfl
  have x5 := hr 5 _ rfl
  have x6 := hr 6 _ rfl
  have y0 := hr2 0 _ rfl
  have y1 := hr2 1 _ rfl
  have y2 := hr2 2 _ rfl
  have y3 := hr2 3 _ rfl
  have y4 := hr2 4 _ rfl
  have y5 := hr2 5 _ rfl
  have y6 := hr2 6 _ rfl
  have z0 := hf2 0
  have z1 := hf2 1
  have z2 := hf2 2
  have z3 := hf2 3
  have z4' := hf2 4
  have z5 := hf2 5
  have z6 := hf2 6
  have HJ := Lib.hid hJ
  clear hr hr2 hf3 hf2 hJ
  go_wp2_with fail
  have hI := HJ.out.setI (j := 6) rfl ba
  have hp2 : p < g2 := by have := HJ.out.lo2; have := HJ.out.plt; omega
  refine bodyPost_ret (v := sideV (r.s 0) (r.s 1) (r.s 2) (r.b 3) (r.b 4) (r.s 5) ba) (by simp [results, Try.results109, go_sem, y0, y1, y2, y3, y4, y5, y6, hne, hne2]) rfl ⟨⟨fun i => if i = 6 then ba else r.s i, r.b⟩, rfl, ?_, ?_⟩
  · repeat (refine Cur.setNew ?_ hp2 _ _)
    exact hI.cur
  · repeat (refine CB.setNew ?_ HJ.out.lo2 _ _)
    exact hI.cb
set_option maxRecDepth 100000 in
set_option maxHeartbeats 2000000 in
theorem l17Any_c (p : Nat) (w : World) (hc : Cur w p) :
    Calls Try.prog 79 #[.pointer (some ⟨p, 0, none⟩)] w fun r w' => ∃ x : Rec, r = .returned (sideR x) ∧ Cur w' p ∧ CB p w w' := by
  have hlt := hc.lt
  go_enter Try.func79, Try.ntmps79
  go_wp2_with fail
  refine (l17Side_c _ _ (hc.keep ((Bel.refl _).alloc _))).mono ?_; rintro e w1 ⟨x, rfl, hc1, hb1⟩
  have hB2 : BX w1 w.heap.size k_side := (BX.new w k_side Rec.zero 51).cb hb1 (by omega)
  have hcb1 : CB p w w1 := ((CB.refl p w).alloc _).trans hb1
  have hl2 := hB2.1
  have hI : It k_side w (w1.alloc (.cells (rcells k_side x).toArray 51)) p w.heap.size w1.heap.size :=
    ⟨hc1.keep ((Bel.refl _).alloc _), hcb1.alloc _, Nat.le_refl _, hcb1.sz, hlt, by omega, hB2.keep ((Bel.refl _).alloc _), BX.new w1 k_side _ 51⟩
  clear hB2 hcb1 hb1 hc1 hc
  unfold sideR
  go_wp2_with fail
  refine (l01Below_c _ _ _ hI.cur).mono ?_; rintro e w4 ⟨b, rfl, hb, hc4, hb4⟩
  have hK := hI.go hc4 hb4
  clear hI hc4 hb4
  obtain ⟨g2, hg2⟩ : ∃ g, w.heap.size = g := ⟨_, rfl⟩
  obtain ⟨g3, hg3⟩ : ∃ g, w1.heap.size = g := ⟨_, rfl⟩
  rw [hg2, hg3] at hK ⊢
  go_upto_block 0 with fail
  go_cut [] from 7 (fun wx => It k_side w wx p g2 g3)
  case first =>
    by_cases e0 : b = 0
    · go_wp2_with fail
      refine (l02Int_c _ _ hK.cur).mono ?_; rintro e w4 ⟨z4, rfl, hz4, hc4, hb4⟩
      have hJ := hK.go hc4 hb4
      obtain ⟨n4, hn4⟩ := hJ.b3.cellI (j := 0) rfl
      have hf4 := hJ.b3.2.2 0
      go_wp2_with fail
      go_meet
      exact hJ.setI rfl _
    · by_cases e1 : b = 1
      · go_wp2_with fail
        refine (l01Below_c _ _ _ hK.cur).mono ?_; rintro e w4 ⟨z4, rfl, hz4, hc4, hb4⟩
        have hJ := hK.go hc4 hb4
        obtain ⟨n4, hn4⟩ := hJ.b3.cellI (j := 5) rfl
        have hf4 := hJ.b3.2.2 5
        go_wp2_with fail
        go_meet
        exact hJ.setI rfl _
      · by_cases e2 : b = 2
        · go_wp2_with fail
          refine (l02Int_c _ _ hK.cur).mono ?_; rintro e w4 ⟨z4, rfl, hz4, hc4, hb4⟩
          have hJ := hK.go hc4 hb4
          obtain ⟨n4, hn4⟩ := hJ.b3.cellI (j := 1) rfl
          have hf4 := hJ.b3.2.2 1
          go_wp2_with fail
          go_meet
          exact hJ.setI rfl _
        · go_wp2_with fail
          go_meet
          exact hK
  case rest =>
  have hJ := hcut
  clear hcut hK
  obtain ⟨hl3, ⟨r, hr⟩, hf3⟩ := hJ.b3
  obtain ⟨hl2', ⟨r2, hr2⟩, hf2⟩ := hJ.b2
  have hne := hJ.ne
  have hne2 : ¬ g3 = g2 := by omega
  have x0 := hr 0 _ rfl
  have x1 := hr 1 _ rfl
  have x2 := hr 2 _ rfl
  have x3 := hr 3 _ rfl
  have x4 := hr 4 _ rfl
  have x5 := hr 5 _ rfl
  have x6 := hr 6 _ rfl
  have y0 := hr2 0 _ rfl
  have y1 := hr2 1 _ rfl
  have y2 := hr2 2 _ rfl
  have y3 := hr2 3 _ rfl
  have y4 := hr2 4 _ rfl
  have y5 := hr2 5 _ rfl
  have y6 := hr2 6 _ rfl
  have z0 := hf2 0
  have z1 := hf2 1
  have z2 := hf2 2
  have z3 := hf2 3
  have z4' := hf2 4
  have z5 := hf2 5
  have z6 := hf2 6
  have HJ := Lib.hid hJ
  clear hr hr2 hf3 hf2 hJ
  go_wp2_with fail
  have hp2 : p < g2 := by have := HJ.out.lo2; have := HJ.out.plt; omega
  refine bodyPost_ret (v := sideR r) (by simp [sideR, results, Try.results79, go_sem, y0, y1, y2, y3, y4, y5, y6, hne, hne2]) rfl ⟨r, rfl, ?_, ?_⟩
  · repeat (refine Cur.setNew ?_ hp2 _ _)
    exact HJ.out.cur
  · repeat (refine CB.setNew ?_ HJ.out.lo2 _ _)
    exact HJ.out.cb
set_option maxRecDepth 100000 in
set_option maxHeartbeats 2000000 in
theorem l17List_c (p : Nat) (w : World) (hc : Cur w p) :
    Calls Try.prog 80 #[.pointer (some ⟨p, 0, none⟩)] w fun r w' => ∃ v L, r = .returned v ∧ w'.ownsRow w.heap.size 51 7 v L.length (RV k_side L) ∧ L.length ≤ 13 ∧ Cur w' p ∧ CB p w w' := by
  have hlt := hc.lt
  go_enter Try.func80, Try.ntmps80
  go_wp2_with fail
  have ho0 : (w.alloc (.cells #[] 51)).ownsRow w.heap.size 51 7 (.slice (some ⟨w.heap.size, 0, none⟩) 0 0) 0 (RV k_side []) := World.ownsRow_lit w #[] 0 (Nat.le_refl _) (by unfold maxLen; omega) rfl
  go_loopw [3, 4] (fun v i wr => ∃ (k : Nat) (L : List Rec), k ≤ 5 ∧ i = .int .i64 k ∧ L.length = k ∧ wr.ownsRow w.heap.size 51 7 v k (RV k_side L) ∧ Cur wr p ∧ CB p w wr) (fun _ i _ => 5 - (intOf i).toNat)
  case atStart => exact ⟨0, [], by omega, by go_num, rfl, ho0, hc.keep ((Bel.refl _).alloc _), (CB.refl _ _).alloc _⟩
  case round =>
    obtain ⟨k, L, hk, rfl, hl, ho, hcr, hb⟩ := hrel
    go_wp2_with fail
    refine (l01Below_c _ _ _ hcr).mono ?_; rintro e w2 ⟨x, rfl, hx, hc2, hb2⟩
    have hx1 := hx.2.1 (by omega)
    have ho2 := own_cb ho hb2 hlt
    have hbb2 := hb.trans hb2
    clear ho hx hb hb2
    by_cases hkx : (k : Int) < x
    · go_wp2_with fail
      refine (l01Once_c _ _ _ hc2).mono ?_; rintro e w3 ⟨b, rfl, hc3, hb3⟩
      have ho3 := own_cb ho2 hb3 hlt
      have hbb3 := hbb2.trans hb3
      clear ho2 hb3 hbb2 hc2
      cases b
      · go_wp2_with fail
        refine (l17Side_c _ _ hc3).mono ?_; rintro e w6 ⟨y, rfl, hc6, hb6⟩
        unfold sideR
        have ho6 := own_cb ho3 hb6 hlt
        have hbb6 := hbb3.trans hb6
        have hsz := hbb6.sz
        clear ho3
        go_wp2_with (at_builtin; refine appG rfl (.tmp 19) (.tmp 22) 55 51 rfl (sideV 0 0 0 false false 0 0) 7 48 Try.underlying55 Try.info_side rfl (by decide) (by decide) w.heap.size _ _ _ rfl (ho6.alloc _) w6.heap.size rfl (rcells k_side y) rfl (new_cells _ (rcells k_side y) _) (rcells_one _ _) (by omega) (by simp; omega) ?_; intro v' w7 ho7 hg7 hl7)
        have hbl : ∀ q, _ = some q → w.heap.size ≤ q := fun q e => ((ho6.alloc (.cells (rcells k_side y).toArray 51)).lt q e).1
        obtain ⟨A7, c7, rfl⟩ := own_sliceV ho7
        go_roundw
        case rel =>
          exact ⟨k + 1, L ++ [y], by omega, by go_num, by simp [hl], by rw [← RV_snoc]; exact ho7, (hc6.keep ((Bel.refl _).alloc _)).grown hg7 (fun q e => by have := hbl q e; omega), (hbb6.alloc _).grown hg7 hbl⟩
        case measure => simp [intOf]; omega
      · go_wp2_with fail
        refine (l17Any_c _ _ hc3).mono ?_; rintro e w6 ⟨y, rfl, hc6, hb6⟩
        unfold sideR
        have ho6 := own_cb ho3 hb6 hlt
        have hbb6 := hbb3.trans hb6
        have hsz := hbb6.sz
        clear ho3
        go_wp2_with (at_builtin; refine appG rfl (.tmp 14) (.tmp 17) 55 51 rfl (sideV 0 0 0 false false 0 0) 7 48 Try.underlying55 Try.info_side rfl (by decide) (by decide) w.heap.size _ _ _ rfl (ho6.alloc _) w6.heap.size rfl (rcells k_side y) rfl (new_cells _ (rcells k_side y) _) (rcells_one _ _) (by omega) (by simp; omega) ?_; intro v' w7 ho7 hg7 hl7)
        have hbl : ∀ q, _ = some q → w.heap.size ≤ q := fun q e => ((ho6.alloc (.cells (rcells k_side y).toArray 51)).lt q e).1
        obtain ⟨A7, c7, rfl⟩ := own_sliceV ho7
        go_roundw
        case rel =>
          exact ⟨k + 1, L ++ [y], by omega, by go_num, by simp [hl], by rw [← RV_snoc]; exact ho7, (hc6.keep ((Bel.refl _).alloc _)).grown hg7 (fun q e => by have := hbl q e; omega), (hbb6.alloc _).grown hg7 hbl⟩
        case measure => simp [intOf]; omega
    · go_wp2_with fail
      refine (l01Once_c _ _ _ hc2).mono ?_; rintro e w3 ⟨b, rfl, hc3, hb3⟩
      have ho3 := own_cb ho2 hb3 hlt
      have hbb3 := hbb2.trans hb3
      clear ho2 hb3 hbb2 hc2
      rw [← hl] at ho3
      cases b
      · go_wp2_with fail
        go_ret
        exact ⟨_, L, rfl, ho3, by omega, hc3, hbb3⟩
      · go_wp2_with fail
        go_loopw [3] (fun v wr => ∃ M : List Rec, M.length ≤ 13 ∧ wr.ownsRow w.heap.size 51 7 v M.length (RV k_side M) ∧ Cur wr p ∧ CB p w wr) (fun v _ => 13 - lenV v)
        case atStart => exact ⟨L, by omega, ho3, hc3, hbb3⟩
        case round =>
          obtain ⟨M, hM, hoM, hcM, hbM⟩ := hrel
          obtain ⟨A', c', rfl⟩ := own_sliceV hoM
          go_wp2_with fail
          refine (l01Below_c _ _ _ hcM).mono ?_; rintro e w5 ⟨x2, rfl, hx2, hc5, hb5⟩
          have hx20 := hx2.1
          have hx21 := hx2.2.1 (by omega)
          have ho5 := own_cb hoM hb5 hlt
          clear hoM hx2
          by_cases hkx2 : (M.length : Int) < 12 + x2
          · go_wp2_with fail
            refine (l17Side_c _ _ hc5).mono ?_; rintro e w6 ⟨y, rfl, hc6, hb6⟩
            unfold sideR
            have ho6 := own_cb ho5 hb6 hlt
            have hbb6 := (hbM.trans hb5).trans hb6
            have hsz := hbb6.sz
            clear ho5
            go_wp2_with (at_builtin; refine appG rfl (.tmp 32) (.tmp 35) 55 51 rfl (sideV 0 0 0 false false 0 0) 7 48 Try.underlying55 Try.info_side rfl (by decide) (by decide) w.heap.size _ _ _ rfl (ho6.alloc _) w6.heap.size rfl (rcells k_side y) rfl (new_cells _ (rcells k_side y) _) (rcells_one _ _) (by omega) (by simp; omega) ?_; intro v' w7 ho7 hg7 hl7)
            have hbl : ∀ q, _ = some q → w.heap.size ≤ q := fun q e => ((ho6.alloc (.cells (rcells k_side y).toArray 51)).lt q e).1
            obtain ⟨A7, c7, rfl⟩ := own_sliceV ho7
            go_roundw
            case rel =>
              exact ⟨M ++ [y], by simp; omega, by rw [← RV_snoc, List.length_append]; exact ho7, (hc6.keep ((Bel.refl _).alloc _)).grown hg7 (fun q e => by have := hbl q e; omega), (hbb6.alloc _).grown hg7 hbl⟩
            case measure => simp [lenV]; omega
          · go_wp2_with fail
            go_ret
            exact ⟨_, M, rfl, ho5, hM, hc5, hbM.trans hb5⟩
set_option maxRecDepth 100000 in
set_option maxHeartbeats 1000000 in
theorem drawCrossOf_c (A : Option Addr) (n c : Nat) (w : World) (h : Byts w A n) (hn : n ≤ 1048576) :
    Calls Try.prog 37 #[.slice A n c] w fun r w' => ∃ B d L, r = .returned (.slice B L.length d) ∧ Recs w' B k_side L ∧ L.length ≤ 13 ∧ Bel w w' := by
  go_enter Try.func37, Try.ntmps37
  go_wp2_with fail
  refine (l01New_c _ _ _ _ h (by omega)).mono ?_; rintro e w1 ⟨rfl, hc1, hb1⟩
  go_wp2_with fail
  refine (l17List_c _ _ hc1).mono ?_; rintro e w2 ⟨v, L, rfl, ho, hl, hc2, hb2⟩
  obtain ⟨B, d, rfl, -, -, hR⟩ := own_openR (ks := k_side) rfl ho
  go_wp2_with fail
  go_ret
  exact ⟨B, d, L, rfl, hR, hl, hb2.toBel hb1 (Nat.le_refl _)⟩
set_option maxRecDepth 100000 in
set_option maxHeartbeats 1000000 in
theorem drawPlaceAcross_c (A : Option Addr) (n c : Nat) (w : World) (h : Byts w A n) (hn : n ≤ 1048576) :
    Calls Try.prog 35 #[.slice A n c] w fun r w' => ∃ (x : Rec) (cross base : Int), r = .returned (.tuple #[sideR x, .int .i64 cross, .int .i64 base]) ∧ (0 ≤ cross ∧ cross ≤ 1000) ∧ (0 ≤ base ∧ base ≤ 300) ∧ Bel w w' := by
  go_enter Try.func35, Try.ntmps35
  go_wp2_with fail
  have hb0 : Bel w (w.alloc (.cells (rcells k_side Rec.zero).toArray 51)) := (Bel.refl _).alloc _
  refine (l01New_c _ _ _ _ (h.keep hb0) (by omega)).mono ?_; rintro e w1 ⟨rfl, hc1, hb1⟩
  have hB1 : BX w1 w.heap.size k_side := (BX.new w k_side Rec.zero 51).keep hb1
  have hl1 : w.heap.size < (w.alloc (.cells (rcells k_side Rec.zero).toArray 51)).heap.size := by simp
  obtain ⟨p, hp⟩ : ∃ p, (w.alloc (.cells (rcells k_side Rec.zero).toArray 51)).heap.size = p := ⟨_, rfl⟩
  have hw1 := hb0.trans hb1
  rw [hp] at hc1 hl1
  have hp1 : w.heap.size + 1 = p := by simpa using hp
  go_wp2_with fail
  (try rw [hp1])
  clear hp hb0 hb1
  refine (l17Any_c _ _ hc1).mono ?_; rintro e w2 ⟨x, rfl, hc2, hb2⟩
  have hB2 := hB1.cb hb2 (by omega)
  go_wp2_with fail
  refine (pickLit_c _ [0, 100, 640, 1000, 33] _ _ hc2 (by simp) (by simp) (by simp)).mono ?_; rintro e w3 ⟨cr, rfl, hcr, hc3, hb3⟩
  have hB3 := hB2.cb hb3 (by omega)
  go_wp2_with fail
  refine (pickLit_c _ [0, 10, 300, 100] _ _ hc3 (by simp) (by simp) (by simp)).mono ?_; rintro e w4 ⟨ba, rfl, hba, hc4, hb4⟩
  have hB4 := hB3.cb hb4 (by omega)
  have hb14 := ((hb2.trans hb3).trans hb4)
  have hW4 : Bel w w4 := hb14.toBel hw1 (by omega)
  obtain ⟨hl2, ⟨r2, hr2⟩, hf2⟩ := hB4
  have y0 := hr2 0 _ rfl
  have y1 := hr2 1 _ rfl
  have y2 := hr2 2 _ rfl
  have y3 := hr2 3 _ rfl
  have y4 := hr2 4 _ rfl
  have y5 := hr2 5 _ rfl
  have y6 := hr2 6 _ rfl
  have z0 := hf2 0
  have z1 := hf2 1
  have z2 := hf2 2
  have z3 := hf2 3
  have z4 := hf2 4
  have z5 := hf2 5
  have z6 := hf2 6
  unfold sideR
  simp only [List.mem_cons, List.not_mem_nil, or_false] at hcr hba
  clear hr2 hf2 hb14 hb2 hb3 hb4 hB1 hB2 hB3 hw1
  go_wp2_with fail
  refine bodyPost_ret (v := .tuple #[sideR x, .int .i64 cr, .int .i64 ba]) (by simp [sideR, results, Try.results35, go_sem, y0, y1, y2, y3, y4, y5, y6]) rfl ⟨x, cr, ba, rfl, by omega, by omega, ?_⟩
  repeat (refine Bel.setCell ?_ (Nat.le_refl _) _)
  exact hW4
end Go.Proofs.Ytmipjhnjlpmidaa
