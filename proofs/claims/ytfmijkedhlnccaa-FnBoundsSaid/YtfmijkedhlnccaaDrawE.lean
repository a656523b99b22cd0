/- Draws of edges. (printed by mkdrawst.py) -/
import Derived.Test.YtfmijkedhlnccaaDrawBox
import Derived.Deep.CutRange
namespace Go.Proofs.Ytfmijkedhlnccaa
open Go.RowKit Go.ChangeShapes Go.WideShapes Go.ChangeAt
set_option linter.unusedVariables false
set_option linter.unusedSimpArgs false
abbrev k_12 : List Bool := [true, true, true, true, true, true, true, true, true, true, true, true]
abbrev sides12 (r : Rec) : Value := .agg #[.int .i64 (r.s 0), .int .i64 (r.s 1), .int .i64 (r.s 2), .int .i64 (r.s 3), .int .i64 (r.s 4), .int .i64 (r.s 5), .int .i64 (r.s 6), .int .i64 (r.s 7), .int .i64 (r.s 8), .int .i64 (r.s 9), .int .i64 (r.s 10), .int .i64 (r.s 11)]
set_option maxRecDepth 100000 in
set_option maxHeartbeats 4000000 in
theorem l05Edges_c (p : Nat) (w : World) (hc : Cur w p) :
    Calls Try.prog 63 #[.pointer (some ⟨p, 0, none⟩)] w fun e w' => ∃ r : Rec, e = .returned (edgeV (r.s 0) (r.s 1) (r.s 2) (r.s 3)) ∧ Cur w' p ∧ CB p w w' := by
  have hlt := hc.lt
  go_enter Try.func63, Try.ntmps63
  have hI : It k_4 w ((w.alloc (.cells (rcells k_4 Rec.zero).toArray 29)).alloc (.cells (rcells k_4 Rec.zero).toArray 29)) p w.heap.size (w.heap.size + 1) := by
    have hz : (w.alloc (.cells (rcells k_4 Rec.zero).toArray 29)).heap.size = w.heap.size + 1 := by simp
    have h3 := BX.new (w.alloc (.cells (rcells k_4 Rec.zero).toArray 29)) k_4 Rec.zero 29
    rw [hz] at h3
    exact ⟨(hc.keep ((Bel.refl _).alloc _)).keep ((Bel.refl _).alloc _), ((CB.refl p w).alloc _).alloc _, Nat.le_refl _, Nat.le_succ _, hlt, by omega, (BX.new w k_4 Rec.zero 29).keep ((Bel.refl _).alloc _), h3⟩
  go_wp2_with fail
  refine (l01Once_c _ _ _ hI.cur).mono ?_; rintro e w3 ⟨b, rfl, hc3, hb3⟩
  have hK := hI.go hc3 hb3
  clear hI hc3 hb3
  obtain ⟨g2, hg2⟩ : ∃ g, w.heap.size = g := ⟨_, rfl⟩
  obtain ⟨g3, hg3⟩ : ∃ g, w.heap.size + 1 = g := ⟨_, rfl⟩
  have hg3' : g2 + 1 = g3 := by omega
  rw [hg3, hg2] at hK
  rw [hg2] at hlt
  cases b
  · have hI := hK
    clear hK
    go_wp2_with fail
    refine (pickLit_c _ [0, 64, 10, 33] _ _ hI.cur (by simp) (by simp) (by simp)).mono ?_; rintro e w4 ⟨y, rfl, hz4, hc4, hb4⟩
    have hJ := hI.go hc4 hb4
    obtain ⟨m0, hm0⟩ := hJ.b3.cellI (j := 0) rfl
    have hf0 := hJ.b3.2.2 0
    clear hc4 hb4 hI
    go_wp2_with fail
    have hI := (hJ.setI (j := 0) rfl y)
    clear hJ hm0 hf0
    refine (pickLit_c _ [0, 64, 10, 33] _ _ hI.cur (by simp) (by simp) (by simp)).mono ?_; rintro e w4 ⟨y, rfl, hz4, hc4, hb4⟩
    have hJ := hI.go hc4 hb4
    obtain ⟨m0, hm0⟩ := hJ.b3.cellI (j := 1) rfl
    have hf0 := hJ.b3.2.2 1
    clear hc4 hb4 hI
    go_wp2_with fail
    have hI := (hJ.setI (j := 1) rfl y)
    clear hJ hm0 hf0
    refine (pickLit_c _ [0, 64, 10] _ _ hI.cur (by simp) (by simp) (by simp)).mono ?_; rintro e w4 ⟨y, rfl, hz4, hc4, hb4⟩
    have hJ := hI.go hc4 hb4
    obtain ⟨m0, hm0⟩ := hJ.b3.cellI (j := 2) rfl
    have hf0 := hJ.b3.2.2 2
    clear hc4 hb4 hI
    go_wp2_with fail
    have hI := (hJ.setI (j := 2) rfl y)
    clear hJ hm0 hf0
    refine (pickLit_c _ [0, 64, 10] _ _ hI.cur (by simp) (by simp) (by simp)).mono ?_; rintro e w4 ⟨y, rfl, hz4, hc4, hb4⟩
    have hJ := hI.go hc4 hb4
    obtain ⟨m0, hm0⟩ := hJ.b3.cellI (j := 3) rfl
    have hf0 := hJ.b3.2.2 3
    clear hc4 hb4 hI
    have hI := (hJ.setI (j := 3) rfl y)
    obtain ⟨r, hr⟩ := hI.b3.range
    have HR3 := Lib.hid hr
    have HT2 := Lib.hid (hI.b2.there 4 rfl)
    have HK := Lib.hid hI
    clear hr hI
    go_wp2_with (first
      | ((with_reducible show wpList _ _ _ (Oper.mk _ (Op.load 29 _) _ _ _ _ :: _) _ _); refine wpList_load_mid rfl 29 _ rfl g3 0 rfl (rcells k_4 r) _ HR3.out Try.underlying29 rfl (by rw [rcells_length]; kernel_rfl) ?_)
      | ((with_reducible show wpList _ _ _ (Oper.mk _ (Op.store 29 _ _) _ _ _ _ :: _) _ _); refine storeR (N := 4) (L := rcells k_4 r) (by kernel_rfl) rfl _ _ rfl g2 rfl rfl (by rw [rcells_length]; rfl) (rcells_one _ _) HT2.out ?_; intro w9 HW9))
    obtain ⟨R1, R2, R3⟩ := HK.out.res r
    rw [← HW9.out] at R1 R2 R3
    exact bodyPost_ret_by (results_cell_any Try.results63 _ _ g2 (rcells k_4 r) _ rfl R1 Try.underlying29 rfl (by kernel_rfl)) rfl ⟨r, rfl, R2, R3⟩
  · have hI := hK
    clear hK
    obtain ⟨r, hr⟩ := hI.b3.range
    have HR3 := Lib.hid hr
    have HT2 := Lib.hid (hI.b2.there 4 rfl)
    have HK := Lib.hid hI
    clear hr hI
    go_wp2_with (first
      | ((with_reducible show wpList _ _ _ (Oper.mk _ (Op.load 29 _) _ _ _ _ :: _) _ _); refine wpList_load_mid rfl 29 _ rfl g3 0 rfl (rcells k_4 r) _ HR3.out Try.underlying29 rfl (by rw [rcells_length]; kernel_rfl) ?_)
      | ((with_reducible show wpList _ _ _ (Oper.mk _ (Op.store 29 _ _) _ _ _ _ :: _) _ _); refine storeR (N := 4) (L := rcells k_4 r) (by kernel_rfl) rfl _ _ rfl g2 rfl rfl (by rw [rcells_length]; rfl) (rcells_one _ _) HT2.out ?_; intro w9 HW9))
    obtain ⟨R1, R2, R3⟩ := HK.out.res r
    rw [← HW9.out] at R1 R2 R3
    exact bodyPost_ret_by (results_cell_any Try.results63 _ _ g2 (rcells k_4 r) _ rfl R1 Try.underlying29 rfl (by kernel_rfl)) rfl ⟨r, rfl, R2, R3⟩
set_option maxRecDepth 100000 in
set_option maxHeartbeats 4000000 in
theorem l05AnyEdges_c (p : Nat) (w : World) (hc : Cur w p) :
    Calls Try.prog 47 #[.pointer (some ⟨p, 0, none⟩)] w fun e w' => ∃ r : Rec, e = .returned (edgeV (r.s 0) (r.s 1) (r.s 2) (r.s 3)) ∧ Cur w' p ∧ CB p w w' := by
  have hlt := hc.lt
  go_enter Try.func47, Try.ntmps47
  go_wp2_with ((with_reducible show wpList _ _ _ (Oper.mk _ (Op.alloc 29) _ _ _ _ :: _) _ _); refine allocR (N := 4) (L := rcells k_4 Rec.zero) (by kernel_rfl) rfl rfl ?_; intro wA HA)
  have hcA : Cur wA p := by rw [HA.out]; exact hc.keep ((Bel.refl _).alloc _)
  refine (l05Edges_c _ _ hcA).mono ?_; rintro e w1 ⟨r0, rfl, hc1, hb1⟩
  have hB2 : BX w1 w.heap.size k_4 := BX.cb (by rw [HA.out]; exact BX.new w k_4 Rec.zero 29) hb1 (by omega)
  have hcb1 : CB p w w1 := CB.trans (by rw [HA.out]; exact (CB.refl p w).alloc _) hb1
  have hl2 := hB2.1
  have hI0 : It k_4 w (w1.alloc (.cells (rcells k_4 Rec.zero).toArray 29)) p w.heap.size w1.heap.size :=
    ⟨hc1.keep ((Bel.refl _).alloc _), hcb1.alloc _, Nat.le_refl _, hcb1.sz, hlt, by omega, hB2.keep ((Bel.refl _).alloc _), BX.new w1 k_4 _ 29⟩
  have HTB := Lib.hid (hI0.b3.there 4 rfl)
  have HI1 := Lib.hid (hI0.setAll r0)
  clear hI0 hB2 hcb1 hc1 hb1
  go_wp2_with (first
    | ((with_reducible show wpList _ _ _ (Oper.mk _ (Op.alloc 29) _ _ _ _ :: _) _ _); refine allocR (N := 4) (L := rcells k_4 Rec.zero) (by kernel_rfl) rfl rfl ?_; intro wB HB)
    | ((with_reducible show wpList _ _ _ (Oper.mk _ (Op.store 29 _ _) _ _ _ _ :: _) _ _); refine storeR (N := 4) (L := rcells k_4 r0) (by kernel_rfl) rfl _ _ rfl w1.heap.size rfl rfl (by rw [rcells_length]; rfl) (rcells_one _ _) (by rw [HB.out]; exact HTB.out) ?_; intro wC HC))
  have hI : It k_4 w wC p w.heap.size w1.heap.size := by rw [HC.out, HB.out]; exact HI1.out
  clear HA HB HC HTB HI1
  obtain ⟨g2, hg2⟩ : ∃ g, w.heap.size = g := ⟨_, rfl⟩
  obtain ⟨g3, hg3⟩ : ∃ g, w1.heap.size = g := ⟨_, rfl⟩
  rw [hg2, hg3] at hI ⊢
  rw [hg2] at hlt hl2
  refine (l01Once_c _ _ _ hI.cur).mono ?_; rintro e w3 ⟨b, rfl, hc3, hb3⟩
  have hK := hI.go hc3 hb3
  clear hI hc3 hb3
  go_upto_if 7 with fail
  go_cut [] from 8 (fun wx => It k_4 w wx p g2 g3)
  case first =>
    cases b
    · go_wp2_with fail
      go_meet
      exact hK
    · have hI := hK
      clear hK
      go_wp2_with fail
      refine (l02Int_c _ _ hI.cur).mono ?_; rintro e w4 ⟨y, rfl, hy, hc4, hb4⟩
      have hJ := hI.go hc4 hb4
      obtain ⟨m0, hm0⟩ := hJ.b3.cellI (j := 2) rfl
      have hf0 := hJ.b3.2.2 2
      clear hc4 hb4 hI
      go_wp2_with fail
      have hI := (hJ.setI (j := 2) rfl y)
      clear hJ hm0 hf0
      go_meet
      exact hI
  case rest =>
  have hI := hcut
  clear hcut hK
  obtain ⟨r, hr⟩ := hI.b3.range
  have HR3 := Lib.hid hr
  have HT2 := Lib.hid (hI.b2.there 4 rfl)
  have HK := Lib.hid hI
  clear hr hI
  go_wp2_with (first
    | ((with_reducible show wpList _ _ _ (Oper.mk _ (Op.load 29 _) _ _ _ _ :: _) _ _); refine wpList_load_mid rfl 29 _ rfl g3 0 rfl (rcells k_4 r) _ HR3.out Try.underlying29 rfl (by rw [rcells_length]; kernel_rfl) ?_)
    | ((with_reducible show wpList _ _ _ (Oper.mk _ (Op.store 29 _ _) _ _ _ _ :: _) _ _); refine storeR (N := 4) (L := rcells k_4 r) (by kernel_rfl) rfl _ _ rfl g2 rfl rfl (by rw [rcells_length]; rfl) (rcells_one _ _) HT2.out ?_; intro w9 HW9))
  obtain ⟨R1, R2, R3⟩ := HK.out.res r
  rw [← HW9.out] at R1 R2 R3
  exact bodyPost_ret_by (results_cell_any Try.results47 _ _ g2 (rcells k_4 r) _ rfl R1 Try.underlying29 rfl (by kernel_rfl)) rfl ⟨r, rfl, R2, R3⟩
end Go.Proofs.Ytfmijkedhlnccaa
