/- Draws of styles. (printed by mkdrawst.py) -/
import Derived.Test.YtfmijkedhlnccaaDrawS
import Derived.Deep.CutRange
namespace Go.Proofs.Ytfmijkedhlnccaa
open Go.RowKit Go.ChangeShapes Go.WideShapes Go.ChangeAt
set_option linter.unusedVariables false
set_option linter.unusedSimpArgs false
def rNew : Rec := ⟨fun i => if i = 0 then 2 else if i = 1 then 1 else if i = 2 then 1 else if i = 3 then 1 else if i = 5 then 2 else 0, fun _ => false⟩
set_option maxRecDepth 100000 in
set_option maxHeartbeats 4000000 in
theorem sStyleNew_c (w : World) : Calls Try.prog 36 #[] w fun e w' => e = .returned (styleV rNew) ∧ Bel w w' := by
  have HTB := Lib.hid ((BX.new w k_style Rec.zero 31).there 60 rfl)
  have HRG := Lib.hid (World.rangeAt_setCells_same (w.alloc (.cells (rcells k_style Rec.zero).toArray 31)) w.heap.size 0 (rcells k_style rNew) (HTB.out))
  have HBL := Lib.hid ((((Bel.refl w).alloc (.cells (rcells k_style Rec.zero).toArray 31))).grown (setCells_gb w.heap.size (rcells k_style rNew) 0 _) (fun q e => by injection e with e; omega))
  go_enter Try.func36, Try.ntmps36
  go_wp2_with (first
    | ((with_reducible show wpList _ _ _ (Oper.mk _ (Op.alloc 31) _ _ _ _ :: _) _ _); refine allocR (N := 60) (L := rcells k_style Rec.zero) (by kernel_rfl) rfl rfl ?_; intro wB HB)
    | ((with_reducible show wpList _ _ _ (Oper.mk _ (Op.store 31 _ _) _ _ _ _ :: _) _ _); refine storeR (N := 60) (L := rcells k_style rNew) (by kernel_rfl) rfl _ _ rfl w.heap.size rfl rfl (by rw [rcells_length]; rfl) (rcells_one _ _) (by rw [HB.out]; exact HTB.out) ?_; intro wC HC))
  have R1 := HRG.out
  have R2 := HBL.out
  rw [← HB.out, ← HC.out] at R1 R2
  exact bodyPost_ret_by (results_cell_any Try.results36 _ _ w.heap.size (rcells k_style rNew) _ rfl R1 Try.underlying31 rfl (by kernel_rfl)) rfl ⟨rfl, R2⟩
theorem sStyleNew_d (p : Nat) (w : World) (hc : Cur w p) : Calls Try.prog 36 #[] w fun e w' => ∃ r : Rec, e = .returned (styleV r) ∧ Cur w' p ∧ CB p w w' :=
  (sStyleNew_c w).mono fun _ _ h => ⟨rNew, h.1, hc.keep h.2, CB.of h.2⟩
set_option maxRecDepth 100000 in
set_option maxHeartbeats 4000000 in
theorem l06Style_c (p : Nat) (w : World) (hc : Cur w p) :
    Calls Try.prog 42 #[.pointer (some ⟨p, 0, none⟩)] w fun e w' => ∃ r : Rec, e = .returned (styleV r) ∧ Cur w' p ∧ CB p w w' := by
  have hlt := hc.lt
  go_enter Try.func42, Try.ntmps42
  go_wp2_with ((with_reducible show wpList _ _ _ (Oper.mk _ (Op.alloc 31) _ _ _ _ :: _) _ _); refine allocR (N := 60) (L := rcells k_style Rec.zero) (by kernel_rfl) rfl rfl ?_; intro wA HA)
  have hcA : Cur wA p := by rw [HA.out]; exact hc.keep ((Bel.refl _).alloc _)
  refine (sStyleNew_d _ _ hcA).mono ?_; rintro e w1 ⟨r0, rfl, hc1, hb1⟩
  have hB2 : BX w1 w.heap.size k_style := BX.cb (by rw [HA.out]; exact BX.new w k_style Rec.zero 31) hb1 (by omega)
  have hcb1 : CB p w w1 := CB.trans (by rw [HA.out]; exact (CB.refl p w).alloc _) hb1
  have hl2 := hB2.1
  have hI0 : It k_style w (w1.alloc (.cells (rcells k_style Rec.zero).toArray 31)) p w.heap.size w1.heap.size :=
    ⟨hc1.keep ((Bel.refl _).alloc _), hcb1.alloc _, Nat.le_refl _, hcb1.sz, hlt, by omega, hB2.keep ((Bel.refl _).alloc _), BX.new w1 k_style _ 31⟩
  have HTB := Lib.hid (hI0.b3.there 60 rfl)
  have HI1 := Lib.hid (hI0.setAll r0)
  clear hI0 hB2 hcb1 hc1 hb1
  go_wp2_with (first
    | ((with_reducible show wpList _ _ _ (Oper.mk _ (Op.alloc 31) _ _ _ _ :: _) _ _); refine allocR (N := 60) (L := rcells k_style Rec.zero) (by kernel_rfl) rfl rfl ?_; intro wB HB)
    | ((with_reducible show wpList _ _ _ (Oper.mk _ (Op.store 31 _ _) _ _ _ _ :: _) _ _); refine storeR (N := 60) (L := rcells k_style r0) (by kernel_rfl) rfl _ _ rfl w1.heap.size rfl rfl (by rw [rcells_length]; rfl) (rcells_one _ _) (by rw [HB.out]; exact HTB.out) ?_; intro wC HC))
  have hI : It k_style w wC p w.heap.size w1.heap.size := by rw [HC.out, HB.out]; exact HI1.out
  clear HA HB HC HTB HI1
  obtain ⟨g2, hg2⟩ : ∃ g, w.heap.size = g := ⟨_, rfl⟩
  obtain ⟨g3, hg3⟩ : ∃ g, w1.heap.size = g := ⟨_, rfl⟩
  rw [hg2, hg3] at hI ⊢
  rw [hg2] at hlt hl2
  refine (l01Below_c _ _ _ hI.cur).mono ?_; rintro e w4 ⟨y, rfl, hy, hc4, hb4⟩
  have hy0 := hy.1
  have hy1 := hy.2.1 (by omega)
  have hJ := hI.go hc4 hb4
  obtain ⟨m0, hm0⟩ := hJ.b3.cellI (j := 0) rfl
  have hf0 := hJ.b3.2.2 0
  clear hc4 hb4 hI
  go_wp2_with fail
  have hI := (hJ.setI (j := 0) rfl (1 + y))
  clear hJ hm0 hf0
  refine (l01Once_c _ _ _ hI.cur).mono ?_; rintro e w3 ⟨b, rfl, hc3, hb3⟩
  have hK := hI.go hc3 hb3
  clear hI hc3 hb3
  go_upto_if 10 with fail
  go_cut [] from 11 (fun wx => It k_style w wx p g2 g3)
  case first =>
    cases b
    · go_wp2_with fail
      go_meet
      exact hK
    · have hI := hK
      clear hK
      go_wp2_with fail
      refine (l01Below_c _ _ _ hI.cur).mono ?_; rintro e w4 ⟨y, rfl, hy, hc4, hb4⟩
      have hy0 := hy.1
      have hy1 := hy.2.1 (by omega)
      have hJ := hI.go hc4 hb4
      obtain ⟨m0, hm0⟩ := hJ.b3.cellI (j := 1) rfl
      have hf0 := hJ.b3.2.2 1
      clear hc4 hb4 hI
      go_wp2_with fail
      have hI := (hJ.setI (j := 1) rfl (1 + y))
      clear hJ hm0 hf0
      go_meet
      exact hI
  case rest =>
  have hI := hcut
  clear hcut hK
  go_wp2_with fail
  refine (l01Below_c _ _ _ hI.cur).mono ?_; rintro e w4 ⟨y, rfl, hy, hc4, hb4⟩
  have hy0 := hy.1
  have hy1 := hy.2.1 (by omega)
  have hJ := hI.go hc4 hb4
  obtain ⟨m0, hm0⟩ := hJ.b3.cellI (j := 2) rfl
  have hf0 := hJ.b3.2.2 2
  clear hc4 hb4 hI
  go_wp2_with fail
  have hI := (hJ.setI (j := 2) rfl (1 + y))
  clear hJ hm0 hf0
  refine (l01Below_c _ _ _ hI.cur).mono ?_; rintro e w4 ⟨y, rfl, hy, hc4, hb4⟩
  have hy0 := hy.1
  have hy1 := hy.2.1 (by omega)
  have hJ := hI.go hc4 hb4
  obtain ⟨m0, hm0⟩ := hJ.b3.cellI (j := 3) rfl
  have hf0 := hJ.b3.2.2 3
  clear hc4 hb4 hI
  go_wp2_with fail
  have hI := (hJ.setI (j := 3) rfl (1 + y))
  clear hJ hm0 hf0
  refine (l01Once_c _ _ _ hI.cur).mono ?_; rintro e w3 ⟨b, rfl, hc3, hb3⟩
  have hK := hI.go hc3 hb3
  clear hI hc3 hb3
  go_upto_if 24 with fail
  go_cut [] from 25 (fun wx => It k_style w wx p g2 g3)
  case first =>
    cases b
    · go_wp2_with fail
      go_meet
      exact hK
    · have hI := hK
      clear hK
      go_wp2_with fail
      refine (l01Below_c _ _ _ hI.cur).mono ?_; rintro e w4 ⟨y, rfl, hy, hc4, hb4⟩
      have hy0 := hy.1
      have hy1 := hy.2.1 (by omega)
      have hJ := hI.go hc4 hb4
      obtain ⟨m0, hm0⟩ := hJ.b3.cellI (j := 4) rfl
      have hf0 := hJ.b3.2.2 4
      clear hc4 hb4 hI
      go_wp2_with fail
      have hI := (hJ.setI (j := 4) rfl y)
      clear hJ hm0 hf0
      go_meet
      exact hI
  case rest =>
  have hI := hcut
  clear hcut hK
  go_wp2_with fail
  refine (l01Below_c _ _ _ hI.cur).mono ?_; rintro e w4 ⟨y, rfl, hy, hc4, hb4⟩
  have hy0 := hy.1
  have hy1 := hy.2.1 (by omega)
  have hJ := hI.go hc4 hb4
  obtain ⟨m0, hm0⟩ := hJ.b3.cellI (j := 5) rfl
  have hf0 := hJ.b3.2.2 5
  clear hc4 hb4 hI
  go_wp2_with fail
  have hI := (hJ.setI (j := 5) rfl (1 + y))
  clear hJ hm0 hf0
  refine (l01Once_c _ _ _ hI.cur).mono ?_; rintro e w4 ⟨y, rfl, hc4, hb4⟩
  have hJ := hI.go hc4 hb4
  obtain ⟨m0, hm0⟩ := hJ.b3.cellB (j := 6) rfl
  have hf0 := hJ.b3.2.2 6
  clear hc4 hb4 hI
  go_wp2_with fail
  have hI := (hJ.setB (j := 6) rfl y)
  clear hJ hm0 hf0
  refine (l01Once_c _ _ _ hI.cur).mono ?_; rintro e w4 ⟨y, rfl, hc4, hb4⟩
  have hJ := hI.go hc4 hb4
  obtain ⟨m0, hm0⟩ := hJ.b3.cellB (j := 7) rfl
  have hf0 := hJ.b3.2.2 7
  clear hc4 hb4 hI
  go_wp2_with fail
  have hI := (hJ.setB (j := 7) rfl y)
  clear hJ hm0 hf0
  refine (l01Once_c _ _ _ hI.cur).mono ?_; rintro e w3 ⟨b, rfl, hc3, hb3⟩
  have hK := hI.go hc3 hb3
  clear hI hc3 hb3
  go_upto_if 39 with fail
  go_cut [] from 40 (fun wx => It k_style w wx p g2 g3)
  case first =>
    cases b
    · go_wp2_with fail
      go_meet
      exact hK
    · have hI := hK
      clear hK
      go_wp2_with fail
      refine (l01Below_c _ _ _ hI.cur).mono ?_; rintro e w4 ⟨y, rfl, hy, hc4, hb4⟩
      have hy0 := hy.1
      have hy1 := hy.2.1 (by omega)
      have hJ := hI.go hc4 hb4
      obtain ⟨m0, hm0⟩ := hJ.b3.cellI (j := 8) rfl
      have hf0 := hJ.b3.2.2 8
      clear hc4 hb4 hI
      go_wp2_with fail
      have hI := (hJ.setI (j := 8) rfl (y - 2))
      clear hJ hm0 hf0
      go_meet
      exact hI
  case rest =>
  have hI := hcut
  clear hcut hK
  go_wp2_with fail
  refine (pickLit_c _ [0, 0, 1, 1, 2, 1000] _ _ hI.cur (by simp) (by simp) (by simp)).mono ?_; rintro e w4 ⟨y, rfl, hz4, hc4, hb4⟩
  have hJ := hI.go hc4 hb4
  obtain ⟨m0, hm0⟩ := hJ.b3.cellI (j := 9) rfl
  have hf0 := hJ.b3.2.2 9
  clear hc4 hb4 hI
  go_wp2_with fail
  have hI := (hJ.setI (j := 9) rfl y)
  clear hJ hm0 hf0
  refine (pickLit_c _ [0, 1, 1, 2, 1000] _ _ hI.cur (by simp) (by simp) (by simp)).mono ?_; rintro e w4 ⟨y, rfl, hz4, hc4, hb4⟩
  have hJ := hI.go hc4 hb4
  obtain ⟨m0, hm0⟩ := hJ.b3.cellI (j := 10) rfl
  have hf0 := hJ.b3.2.2 10
  clear hc4 hb4 hI
  go_wp2_with fail
  have hI := (hJ.setI (j := 10) rfl y)
  clear hJ hm0 hf0
  refine (l04Value_c _ _ hI.cur).mono ?_; rintro e w4 ⟨y0, y1, rfl, hc4, hb4⟩
  have hJ := hI.go hc4 hb4
  obtain ⟨m0, hm0⟩ := hJ.b3.cellI (j := 11) rfl
  have hf0 := hJ.b3.2.2 11
  obtain ⟨m1, hm1⟩ := hJ.b3.cellI (j := 12) rfl
  have hf1 := hJ.b3.2.2 12
  clear hc4 hb4 hI
  go_wp2_with fail
  have hI := ((hJ.setI (j := 11) rfl y0).setI (j := 12) rfl y1)
  clear hJ hm0 hf0 hm1 hf1
  refine (l04Value_c _ _ hI.cur).mono ?_; rintro e w4 ⟨y0, y1, rfl, hc4, hb4⟩
  have hJ := hI.go hc4 hb4
  obtain ⟨m0, hm0⟩ := hJ.b3.cellI (j := 13) rfl
  have hf0 := hJ.b3.2.2 13
  obtain ⟨m1, hm1⟩ := hJ.b3.cellI (j := 14) rfl
  have hf1 := hJ.b3.2.2 14
  clear hc4 hb4 hI
  go_wp2_with fail
  have hI := ((hJ.setI (j := 13) rfl y0).setI (j := 14) rfl y1)
  clear hJ hm0 hf0 hm1 hf1
  refine (l04Value_c _ _ hI.cur).mono ?_; rintro e w4 ⟨y0, y1, rfl, hc4, hb4⟩
  have hJ := hI.go hc4 hb4
  obtain ⟨m0, hm0⟩ := hJ.b3.cellI (j := 15) rfl
  have hf0 := hJ.b3.2.2 15
  obtain ⟨m1, hm1⟩ := hJ.b3.cellI (j := 16) rfl
  have hf1 := hJ.b3.2.2 16
  clear hc4 hb4 hI
  go_wp2_with fail
  have hI := ((hJ.setI (j := 15) rfl y0).setI (j := 16) rfl y1)
  clear hJ hm0 hf0 hm1 hf1
  refine (l01Once_c _ _ _ hI.cur).mono ?_; rintro e w3 ⟨b, rfl, hc3, hb3⟩
  have hK := hI.go hc3 hb3
  clear hI hc3 hb3
  go_upto_if 62 with fail
  go_cut [] from 63 (fun wx => It k_style w wx p g2 g3)
  case first =>
    cases b
    · go_wp2_with fail
      go_meet
      exact hK
    · have hI := hK
      clear hK
      go_wp2_with fail
      refine (l04Value_c _ _ hI.cur).mono ?_; rintro e w4 ⟨y0, y1, rfl, hc4, hb4⟩
      have hJ := hI.go hc4 hb4
      obtain ⟨m0, hm0⟩ := hJ.b3.cellI (j := 17) rfl
      have hf0 := hJ.b3.2.2 17
      obtain ⟨m1, hm1⟩ := hJ.b3.cellI (j := 18) rfl
      have hf1 := hJ.b3.2.2 18
      clear hc4 hb4 hI
      go_wp2_with fail
      have hI := ((hJ.setI (j := 17) rfl y0).setI (j := 18) rfl y1)
      clear hJ hm0 hf0 hm1 hf1
      refine (l04Value_c _ _ hI.cur).mono ?_; rintro e w4 ⟨y0, y1, rfl, hc4, hb4⟩
      have hJ := hI.go hc4 hb4
      obtain ⟨m0, hm0⟩ := hJ.b3.cellI (j := 21) rfl
      have hf0 := hJ.b3.2.2 21
      obtain ⟨m1, hm1⟩ := hJ.b3.cellI (j := 22) rfl
      have hf1 := hJ.b3.2.2 22
      clear hc4 hb4 hI
      go_wp2_with fail
      have hI := ((hJ.setI (j := 21) rfl y0).setI (j := 22) rfl y1)
      clear hJ hm0 hf0 hm1 hf1
      go_meet
      exact hI
  case rest =>
  have hI := hcut
  clear hcut hK
  go_wp2_with fail
  refine (l01Once_c _ _ _ hI.cur).mono ?_; rintro e w3 ⟨b, rfl, hc3, hb3⟩
  have hK := hI.go hc3 hb3
  clear hI hc3 hb3
  go_upto_if 70 with fail
  go_cut [] from 71 (fun wx => It k_style w wx p g2 g3)
  case first =>
    cases b
    · go_wp2_with fail
      go_meet
      exact hK
    · have hI := hK
      clear hK
      go_wp2_with fail
      refine (l04Value_c _ _ hI.cur).mono ?_; rintro e w4 ⟨y0, y1, rfl, hc4, hb4⟩
      have hJ := hI.go hc4 hb4
      obtain ⟨m0, hm0⟩ := hJ.b3.cellI (j := 19) rfl
      have hf0 := hJ.b3.2.2 19
      obtain ⟨m1, hm1⟩ := hJ.b3.cellI (j := 20) rfl
      have hf1 := hJ.b3.2.2 20
      clear hc4 hb4 hI
      go_wp2_with fail
      have hI := ((hJ.setI (j := 19) rfl y0).setI (j := 20) rfl y1)
      clear hJ hm0 hf0 hm1 hf1
      refine (l04Value_c _ _ hI.cur).mono ?_; rintro e w4 ⟨y0, y1, rfl, hc4, hb4⟩
      have hJ := hI.go hc4 hb4
      obtain ⟨m0, hm0⟩ := hJ.b3.cellI (j := 23) rfl
      have hf0 := hJ.b3.2.2 23
      obtain ⟨m1, hm1⟩ := hJ.b3.cellI (j := 24) rfl
      have hf1 := hJ.b3.2.2 24
      clear hc4 hb4 hI
      go_wp2_with fail
      have hI := ((hJ.setI (j := 23) rfl y0).setI (j := 24) rfl y1)
      clear hJ hm0 hf0 hm1 hf1
      go_meet
      exact hI
  case rest =>
  have hI := hcut
  clear hcut hK
  go_wp2_with fail
  refine (l01Once_c _ _ _ hI.cur).mono ?_; rintro e w3 ⟨b, rfl, hc3, hb3⟩
  have hK := hI.go hc3 hb3
  clear hI hc3 hb3
  go_upto_if 78 with fail
  go_cut [] from 79 (fun wx => It k_style w wx p g2 g3)
  case first =>
    cases b
    · go_wp2_with fail
      go_meet
      exact hK
    · have hI := hK
      clear hK
      go_wp2_with fail
      refine (pickLit_c _ [64, 32, 128, 100, 1, 6400] _ _ hI.cur (by simp) (by simp) (by simp)).mono ?_; rintro e w4 ⟨y, rfl, hz4, hc4, hb4⟩
      have hJ := hI.go hc4 hb4
      obtain ⟨m0, hm0⟩ := hJ.b3.cellI (j := 25) rfl
      have hf0 := hJ.b3.2.2 25
      clear hc4 hb4 hI
      go_wp2_with fail
      have hI := (hJ.setI (j := 25) rfl y)
      clear hJ hm0 hf0
      go_meet
      exact hI
  case rest =>
  have hI := hcut
  clear hcut hK
  go_wp2_with fail
  refine (l01Once_c _ _ _ hI.cur).mono ?_; rintro e w3 ⟨b, rfl, hc3, hb3⟩
  have hK := hI.go hc3 hb3
  clear hI hc3 hb3
  go_upto_if 84 with fail
  go_cut [] from 85 (fun wx => It k_style w wx p g2 g3)
  case first =>
    cases b
    · go_wp2_with fail
      go_meet
      exact hK
    · have hI := hK
      clear hK
      go_wp2_with fail
      refine (l05Sides_c _ _ hI.cur).mono ?_; rintro e w4 ⟨q, rfl, hc4, hb4⟩
      have hJ := hI.go hc4 hb4
      obtain ⟨m0, hm0⟩ := hJ.b3.cellI (j := 26) rfl
      have hf0 := hJ.b3.2.2 26
      obtain ⟨m1, hm1⟩ := hJ.b3.cellI (j := 27) rfl
      have hf1 := hJ.b3.2.2 27
      obtain ⟨m2, hm2⟩ := hJ.b3.cellI (j := 28) rfl
      have hf2 := hJ.b3.2.2 28
      obtain ⟨m3, hm3⟩ := hJ.b3.cellI (j := 29) rfl
      have hf3 := hJ.b3.2.2 29
      obtain ⟨m4, hm4⟩ := hJ.b3.cellI (j := 30) rfl
      have hf4 := hJ.b3.2.2 30
      obtain ⟨m5, hm5⟩ := hJ.b3.cellI (j := 31) rfl
      have hf5 := hJ.b3.2.2 31
      obtain ⟨m6, hm6⟩ := hJ.b3.cellI (j := 32) rfl
      have hf6 := hJ.b3.2.2 32
      obtain ⟨m7, hm7⟩ := hJ.b3.cellI (j := 33) rfl
      have hf7 := hJ.b3.2.2 33
      obtain ⟨m8, hm8⟩ := hJ.b3.cellI (j := 34) rfl
      have hf8 := hJ.b3.2.2 34
      obtain ⟨m9, hm9⟩ := hJ.b3.cellI (j := 35) rfl
      have hf9 := hJ.b3.2.2 35
      obtain ⟨m10, hm10⟩ := hJ.b3.cellI (j := 36) rfl
      have hf10 := hJ.b3.2.2 36
      obtain ⟨m11, hm11⟩ := hJ.b3.cellI (j := 37) rfl
      have hf11 := hJ.b3.2.2 37
      clear hc4 hb4 hI
      go_wp2_with fail
      have hI := ((((((((((((hJ.setI (j := 26) rfl (q.s 0)).setI (j := 27) rfl (q.s 1)).setI (j := 28) rfl (q.s 2)).setI (j := 29) rfl (q.s 3)).setI (j := 30) rfl (q.s 4)).setI (j := 31) rfl (q.s 5)).setI (j := 32) rfl (q.s 6)).setI (j := 33) rfl (q.s 7)).setI (j := 34) rfl (q.s 8)).setI (j := 35) rfl (q.s 9)).setI (j := 36) rfl (q.s 10)).setI (j := 37) rfl (q.s 11))
      clear hJ hm0 hf0 hm1 hf1 hm2 hf2 hm3 hf3 hm4 hf4 hm5 hf5 hm6 hf6 hm7 hf7 hm8 hf8 hm9 hf9 hm10 hf10 hm11 hf11
      go_meet
      exact hI
  case rest =>
  have hI := hcut
  clear hcut hK
  go_wp2_with fail
  refine (l01Once_c _ _ _ hI.cur).mono ?_; rintro e w3 ⟨b, rfl, hc3, hb3⟩
  have hK := hI.go hc3 hb3
  clear hI hc3 hb3
  go_upto_if 89 with fail
  go_cut [] from 90 (fun wx => It k_style w wx p g2 g3)
  case first =>
    cases b
    · go_wp2_with fail
      go_meet
      exact hK
    · have hI := hK
      clear hK
      go_wp2_with fail
      refine (l05Sides_c _ _ hI.cur).mono ?_; rintro e w4 ⟨q, rfl, hc4, hb4⟩
      have hJ := hI.go hc4 hb4
      obtain ⟨m0, hm0⟩ := hJ.b3.cellI (j := 38) rfl
      have hf0 := hJ.b3.2.2 38
      obtain ⟨m1, hm1⟩ := hJ.b3.cellI (j := 39) rfl
      have hf1 := hJ.b3.2.2 39
      obtain ⟨m2, hm2⟩ := hJ.b3.cellI (j := 40) rfl
      have hf2 := hJ.b3.2.2 40
      obtain ⟨m3, hm3⟩ := hJ.b3.cellI (j := 41) rfl
      have hf3 := hJ.b3.2.2 41
      obtain ⟨m4, hm4⟩ := hJ.b3.cellI (j := 42) rfl
      have hf4 := hJ.b3.2.2 42
      obtain ⟨m5, hm5⟩ := hJ.b3.cellI (j := 43) rfl
      have hf5 := hJ.b3.2.2 43
      obtain ⟨m6, hm6⟩ := hJ.b3.cellI (j := 44) rfl
      have hf6 := hJ.b3.2.2 44
      obtain ⟨m7, hm7⟩ := hJ.b3.cellI (j := 45) rfl
      have hf7 := hJ.b3.2.2 45
      obtain ⟨m8, hm8⟩ := hJ.b3.cellI (j := 46) rfl
      have hf8 := hJ.b3.2.2 46
      obtain ⟨m9, hm9⟩ := hJ.b3.cellI (j := 47) rfl
      have hf9 := hJ.b3.2.2 47
      obtain ⟨m10, hm10⟩ := hJ.b3.cellI (j := 48) rfl
      have hf10 := hJ.b3.2.2 48
      obtain ⟨m11, hm11⟩ := hJ.b3.cellI (j := 49) rfl
      have hf11 := hJ.b3.2.2 49
      clear hc4 hb4 hI
      go_wp2_with fail
      have hI := ((((((((((((hJ.setI (j := 38) rfl (q.s 0)).setI (j := 39) rfl (q.s 1)).setI (j := 40) rfl (q.s 2)).setI (j := 41) rfl (q.s 3)).setI (j := 42) rfl (q.s 4)).setI (j := 43) rfl (q.s 5)).setI (j := 44) rfl (q.s 6)).setI (j := 45) rfl (q.s 7)).setI (j := 46) rfl (q.s 8)).setI (j := 47) rfl (q.s 9)).setI (j := 48) rfl (q.s 10)).setI (j := 49) rfl (q.s 11))
      clear hJ hm0 hf0 hm1 hf1 hm2 hf2 hm3 hf3 hm4 hf4 hm5 hf5 hm6 hf6 hm7 hf7 hm8 hf8 hm9 hf9 hm10 hf10 hm11 hf11
      go_meet
      exact hI
  case rest =>
  have hI := hcut
  clear hcut hK
  go_wp2_with fail
  refine (l01Once_c _ _ _ hI.cur).mono ?_; rintro e w3 ⟨b, rfl, hc3, hb3⟩
  have hK := hI.go hc3 hb3
  clear hI hc3 hb3
  go_upto_if 94 with fail
  go_cut [] from 95 (fun wx => It k_style w wx p g2 g3)
  case first =>
    cases b
    · go_wp2_with fail
      go_meet
      exact hK
    · have hI := hK
      clear hK
      go_wp2_with fail
      refine (l05Edges_c _ _ hI.cur).mono ?_; rintro e w4 ⟨q, rfl, hc4, hb4⟩
      have hJ := hI.go hc4 hb4
      obtain ⟨m0, hm0⟩ := hJ.b3.cellI (j := 50) rfl
      have hf0 := hJ.b3.2.2 50
      obtain ⟨m1, hm1⟩ := hJ.b3.cellI (j := 51) rfl
      have hf1 := hJ.b3.2.2 51
      obtain ⟨m2, hm2⟩ := hJ.b3.cellI (j := 52) rfl
      have hf2 := hJ.b3.2.2 52
      obtain ⟨m3, hm3⟩ := hJ.b3.cellI (j := 53) rfl
      have hf3 := hJ.b3.2.2 53
      clear hc4 hb4 hI
      go_wp2_with fail
      have hI := ((((hJ.setI (j := 50) rfl (q.s 0)).setI (j := 51) rfl (q.s 1)).setI (j := 52) rfl (q.s 2)).setI (j := 53) rfl (q.s 3))
      clear hJ hm0 hf0 hm1 hf1 hm2 hf2 hm3 hf3
      refine (l05Edges_c _ _ hI.cur).mono ?_; rintro e w4 ⟨q, rfl, hc4, hb4⟩
      have hJ := hI.go hc4 hb4
      obtain ⟨m0, hm0⟩ := hJ.b3.cellI (j := 54) rfl
      have hf0 := hJ.b3.2.2 54
      obtain ⟨m1, hm1⟩ := hJ.b3.cellI (j := 55) rfl
      have hf1 := hJ.b3.2.2 55
      obtain ⟨m2, hm2⟩ := hJ.b3.cellI (j := 56) rfl
      have hf2 := hJ.b3.2.2 56
      obtain ⟨m3, hm3⟩ := hJ.b3.cellI (j := 57) rfl
      have hf3 := hJ.b3.2.2 57
      clear hc4 hb4 hI
      go_wp2_with fail
      have hI := ((((hJ.setI (j := 54) rfl (q.s 0)).setI (j := 55) rfl (q.s 1)).setI (j := 56) rfl (q.s 2)).setI (j := 57) rfl (q.s 3))
      clear hJ hm0 hf0 hm1 hf1 hm2 hf2 hm3 hf3
      go_meet
      exact hI
  case rest =>
  have hI := hcut
  clear hcut hK
  go_wp2_with fail
  refine (l01Once_c _ _ _ hI.cur).mono ?_; rintro e w3 ⟨b, rfl, hc3, hb3⟩
  have hK := hI.go hc3 hb3
  clear hI hc3 hb3
  go_upto_if 102 with fail
  go_cut [] from 103 (fun wx => It k_style w wx p g2 g3)
  case first =>
    cases b
    · go_wp2_with fail
      go_meet
      exact hK
    · have hI := hK
      clear hK
      go_wp2_with fail
      refine (l01Below_c _ _ _ hI.cur).mono ?_; rintro e w4 ⟨y, rfl, hy, hc4, hb4⟩
      have hy0 := hy.1
      have hy1 := hy.2.1 (by omega)
      have hJ := hI.go hc4 hb4
      obtain ⟨m0, hm0⟩ := hJ.b3.cellI (j := 58) rfl
      have hf0 := hJ.b3.2.2 58
      clear hc4 hb4 hI
      go_wp2_with fail
      have hI := (hJ.setI (j := 58) rfl y)
      clear hJ hm0 hf0
      refine (l01Below_c _ _ _ hI.cur).mono ?_; rintro e w4 ⟨y, rfl, hy, hc4, hb4⟩
      have hy0 := hy.1
      have hy1 := hy.2.1 (by omega)
      have hJ := hI.go hc4 hb4
      obtain ⟨m0, hm0⟩ := hJ.b3.cellI (j := 59) rfl
      have hf0 := hJ.b3.2.2 59
      clear hc4 hb4 hI
      go_wp2_with fail
      have hI := (hJ.setI (j := 59) rfl y)
      clear hJ hm0 hf0
      go_meet
      exact hI
  case rest =>
  have hI := hcut
  clear hcut hK
  obtain ⟨r, hr⟩ := hI.b3.range
  have HR3 := Lib.hid hr
  have HT2 := Lib.hid (hI.b2.there 60 rfl)
  have HK := Lib.hid hI
  clear hr hI
  go_wp2_with (first
    | ((with_reducible show wpList _ _ _ (Oper.mk _ (Op.load 31 _) _ _ _ _ :: _) _ _); refine wpList_load_mid rfl 31 _ rfl g3 0 rfl (rcells k_style r) _ HR3.out Try.underlying31 rfl (by rw [rcells_length]; kernel_rfl) ?_)
    | ((with_reducible show wpList _ _ _ (Oper.mk _ (Op.store 31 _ _) _ _ _ _ :: _) _ _); refine storeR (N := 60) (L := rcells k_style r) (by kernel_rfl) rfl _ _ rfl g2 rfl rfl (by rw [rcells_length]; rfl) (rcells_one _ _) HT2.out ?_; intro w9 HW9))
  obtain ⟨R1, R2, R3⟩ := HK.out.res r
  rw [← HW9.out] at R1 R2 R3
  exact bodyPost_ret_by (results_cell_any Try.results42 _ _ g2 (rcells k_style r) _ rfl R1 Try.underlying31 rfl (by kernel_rfl)) rfl ⟨r, rfl, R2, R3⟩
end Go.Proofs.Ytfmijkedhlnccaa
