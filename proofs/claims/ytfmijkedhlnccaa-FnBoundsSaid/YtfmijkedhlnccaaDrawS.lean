/- Draws of sides. (printed by mkdrawst.py) -/
import Derived.Test.YtfmijkedhlnccaaDrawE
import Derived.Deep.CutRange
namespace Go.Proofs.Ytfmijkedhlnccaa
open Go.RowKit Go.ChangeShapes Go.WideShapes Go.ChangeAt
set_option linter.unusedVariables false
set_option linter.unusedSimpArgs false
theorem It.setQ {ks : List Bool} {w0 w : World} {p g2 g3 q : Nat} (h : It ks w0 w p g2 g3) (hq : w0.heap.size ≤ q) (h2 : q ≠ g2) (h3 : q ≠ g3) (j : Nat) (v : Value) : It ks w0 (w.setCell ⟨q, j, none⟩ v) p g2 g3 :=
  ⟨h.cur.setNew (by have := h.plt; omega) _ _, h.cb.setNew hq _ _, h.lo2, h.lo3, h.plt, h.ne, h.b2.setO h2 _ _, h.b3.setO h3 _ _⟩
set_option maxRecDepth 100000 in
set_option maxHeartbeats 4000000 in
theorem l05Sides_c (p : Nat) (w : World) (hc : Cur w p) :
    Calls Try.prog 62 #[.pointer (some ⟨p, 0, none⟩)] w fun e w' => ∃ r : Rec, e = .returned (sides12 r) ∧ Cur w' p ∧ CB p w w' := by
  have hlt := hc.lt
  go_enter Try.func62, Try.ntmps62
  have hI : It k_12 w ((w.alloc (.cells (rcells k_12 Rec.zero).toArray 27)).alloc (.cells (rcells k_12 Rec.zero).toArray 27)) p w.heap.size (w.heap.size + 1) := by
    have hz : (w.alloc (.cells (rcells k_12 Rec.zero).toArray 27)).heap.size = w.heap.size + 1 := by simp
    have h3 := BX.new (w.alloc (.cells (rcells k_12 Rec.zero).toArray 27)) k_12 Rec.zero 27
    rw [hz] at h3
    exact ⟨(hc.keep ((Bel.refl _).alloc _)).keep ((Bel.refl _).alloc _), ((CB.refl p w).alloc _).alloc _, Nat.le_refl _, Nat.le_succ _, hlt, by omega, (BX.new w k_12 Rec.zero 27).keep ((Bel.refl _).alloc _), h3⟩
  go_wp2_with fail
  obtain ⟨g2, hg2⟩ : ∃ g, w.heap.size = g := ⟨_, rfl⟩
  rw [hg2] at hI
  rw [hg2] at hlt
  simp only [hg2]
  have HI0 := Lib.hid hI
  clear hI
  go_loopw [4] (fun i wr => ∃ k : Nat, k ≤ 4 ∧ i = .int .i64 k ∧ It k_12 w wr p g2 (g2 + 1)) (fun i _ => 4 - (intOf i).toNat)
  case atStart => exact ⟨0, by omega, by go_num, HI0.out⟩
  case round =>
    obtain ⟨k, hk, rfl, hI⟩ := hrel
    go_wp2_with fail
    refine (l01Below_c _ _ _ hI.cur).mono ?_; rintro e w2 ⟨x, rfl, hx, hc2, hb2⟩
    have hx1 := hx.2.1 (by omega)
    have hK := hI.go hc2 hb2
    clear hI hc2 hb2 hx
    by_cases hkx : (k : Int) < x
    · go_wp2_with fail
      refine (l04Value_c _ _ hK.cur).mono ?_; rintro e w5 ⟨y0, y1, rfl, hc5, hb5⟩
      have hI := hK.go hc5 hb5
      clear hK hc5 hb5
      have hI5 := hI.keep ((Bel.refl w5).alloc (.cells (rcells k_2 ⟨fun i => if i = 0 then y0 else y1, fun _ => false⟩).toArray 25))
      have hB5 : BX (w5.alloc (.cells (rcells k_2 ⟨fun i => if i = 0 then y0 else y1, fun _ => false⟩).toArray 25)) w5.heap.size k_2 := BX.new w5 k_2 _ 25
      have hp5 : ¬ w5.heap.size = p := by have := hI.cur.lt; omega
      have hq5 : (g2 + 1) ≠ w5.heap.size := by have := hI.b3.1; omega
      have hq2 : w5.heap.size ≠ g2 := by have := hI.b2.1; omega
      have hlo : w.heap.size ≤ w5.heap.size := hI.cb.sz
      clear hI
      go_wp2_with fail
      refine (l01Once_c _ _ _ hI5.cur).mono ?_; rintro e w6 ⟨b, rfl, hc6, hb6⟩
      have hI6 := hI5.go hc6 hb6
      have hB6 := hB5.cb hb6 hp5
      clear hI5 hB5 hc6 hb6
      obtain ⟨g5, hg5⟩ : ∃ g, w5.heap.size = g := ⟨_, rfl⟩
      rw [hg5] at hB6 hp5 hq5 hq2 hlo ⊢
      clear hg5
      go_upto_if 16 with fail
      go_cut [] from 17 to 41 (fun wx => It k_12 w wx p g2 (g2 + 1) ∧ BX wx g5 k_2)
      case first =>
        cases b
        · go_wp2_with fail
          go_meet
          exact ⟨hI6, hB6⟩
        · obtain ⟨n0, hn0⟩ := hB6.cellI (j := 0) rfl
          obtain ⟨n1, hn1⟩ := hB6.cellI (j := 1) rfl
          have hf0 := hB6.2.2 0
          have hf1 := hB6.2.2 1
          have hB7 := (hB6.setI (j := 0) rfl 3).setI (j := 1) rfl 0
          have hI7 := (hI6.setQ hlo hq2 hq5.symm 0 (.int .i64 3)).setQ hlo hq2 hq5.symm 1 (.int .i64 0)
          go_wp2_with fail
          go_meet
          exact ⟨hI7, hB7⟩
      case rest =>
      obtain ⟨hIc, hBc⟩ := hcut
      clear hI6 hB6
      go_wp2_with fail
      refine (l01Below_c _ _ _ hIc.cur).mono ?_; rintro e w7 ⟨z, rfl, hz, hc7, hb7⟩
      have hI := hIc.go hc7 hb7
      have hB5 := hBc.cb hb7 hp5
      clear hIc hBc hc7 hb7 hz
      by_cases e0 : z = 0
      · subst e0
        have hJ := hI
        obtain ⟨v0, hv0⟩ := hB5.cellI (j := 0) rfl
        obtain ⟨v1, hv1⟩ := hB5.cellI (j := 1) rfl
        obtain ⟨m0, hm0⟩ := hJ.b3.cellI (j := 0) rfl
        have hf0 := hJ.b3.2.2 0
        obtain ⟨m1, hm1⟩ := hJ.b3.cellI (j := 1) rfl
        have hf1 := hJ.b3.2.2 1
        have hI2 := ((hJ.setI (j := 0) rfl v0).setI (j := 1) rfl v1)
        clear hJ hI hB5
        go_wp2_with fail
        go_roundw
        case rel => exact ⟨k + 1, by omega, by go_num, hI2⟩
        case measure => simp [intOf]; omega
      · by_cases e1 : z = 1
        · subst e1
          have hJ := hI
          obtain ⟨v0, hv0⟩ := hB5.cellI (j := 0) rfl
          obtain ⟨v1, hv1⟩ := hB5.cellI (j := 1) rfl
          obtain ⟨m0, hm0⟩ := hJ.b3.cellI (j := 2) rfl
          have hf0 := hJ.b3.2.2 2
          obtain ⟨m1, hm1⟩ := hJ.b3.cellI (j := 3) rfl
          have hf1 := hJ.b3.2.2 3
          have hI2 := ((hJ.setI (j := 2) rfl v0).setI (j := 3) rfl v1)
          clear hJ hI hB5
          go_wp2_with fail
          go_roundw
          case rel => exact ⟨k + 1, by omega, by go_num, hI2⟩
          case measure => simp [intOf]; omega
        · by_cases e2 : z = 2
          · subst e2
            have hJ := hI
            obtain ⟨v0, hv0⟩ := hB5.cellI (j := 0) rfl
            obtain ⟨v1, hv1⟩ := hB5.cellI (j := 1) rfl
            obtain ⟨m0, hm0⟩ := hJ.b3.cellI (j := 4) rfl
            have hf0 := hJ.b3.2.2 4
            obtain ⟨m1, hm1⟩ := hJ.b3.cellI (j := 5) rfl
            have hf1 := hJ.b3.2.2 5
            have hI2 := ((hJ.setI (j := 4) rfl v0).setI (j := 5) rfl v1)
            clear hJ hI hB5
            go_wp2_with fail
            go_roundw
            case rel => exact ⟨k + 1, by omega, by go_num, hI2⟩
            case measure => simp [intOf]; omega
          · by_cases e3 : z = 3
            · subst e3
              have hJ := hI
              obtain ⟨v0, hv0⟩ := hB5.cellI (j := 0) rfl
              obtain ⟨v1, hv1⟩ := hB5.cellI (j := 1) rfl
              obtain ⟨m0, hm0⟩ := hJ.b3.cellI (j := 6) rfl
              have hf0 := hJ.b3.2.2 6
              obtain ⟨m1, hm1⟩ := hJ.b3.cellI (j := 7) rfl
              have hf1 := hJ.b3.2.2 7
              have hI2 := ((hJ.setI (j := 6) rfl v0).setI (j := 7) rfl v1)
              clear hJ hI hB5
              go_wp2_with fail
              go_roundw
              case rel => exact ⟨k + 1, by omega, by go_num, hI2⟩
              case measure => simp [intOf]; omega
            · by_cases e4 : z = 4
              · subst e4
                have hJ := hI
                obtain ⟨v0, hv0⟩ := hB5.cellI (j := 0) rfl
                obtain ⟨v1, hv1⟩ := hB5.cellI (j := 1) rfl
                obtain ⟨m0, hm0⟩ := hJ.b3.cellI (j := 8) rfl
                have hf0 := hJ.b3.2.2 8
                obtain ⟨m1, hm1⟩ := hJ.b3.cellI (j := 9) rfl
                have hf1 := hJ.b3.2.2 9
                have hI2 := ((hJ.setI (j := 8) rfl v0).setI (j := 9) rfl v1)
                clear hJ hI hB5
                go_wp2_with fail
                go_roundw
                case rel => exact ⟨k + 1, by omega, by go_num, hI2⟩
                case measure => simp [intOf]; omega
              · have hz : True := trivial
                have hJ := hI
                obtain ⟨v0, hv0⟩ := hB5.cellI (j := 0) rfl
                obtain ⟨v1, hv1⟩ := hB5.cellI (j := 1) rfl
                obtain ⟨m0, hm0⟩ := hJ.b3.cellI (j := 10) rfl
                have hf0 := hJ.b3.2.2 10
                obtain ⟨m1, hm1⟩ := hJ.b3.cellI (j := 11) rfl
                have hf1 := hJ.b3.2.2 11
                have hI2 := ((hJ.setI (j := 10) rfl v0).setI (j := 11) rfl v1)
                clear hJ hI hB5
                go_wp2_with fail
                go_roundw
                case rel => exact ⟨k + 1, by omega, by go_num, hI2⟩
                case measure => simp [intOf]; omega
    · have hI := hK
      clear hK
      obtain ⟨r, hr⟩ := hI.b3.range
      have HR3 := Lib.hid hr
      have HT2 := Lib.hid (hI.b2.there 12 rfl)
      have HK := Lib.hid hI
      clear hr hI
      go_wp2_with (first
        | ((with_reducible show wpList _ _ _ (Oper.mk _ (Op.load 27 _) _ _ _ _ :: _) _ _); refine wpList_load_mid rfl 27 _ rfl (g2 + 1) 0 rfl (rcells k_12 r) _ HR3.out Try.underlying27 rfl (by rw [rcells_length]; kernel_rfl) ?_)
        | ((with_reducible show wpList _ _ _ (Oper.mk _ (Op.store 27 _ _) _ _ _ _ :: _) _ _); refine storeR (N := 12) (L := rcells k_12 r) (by kernel_rfl) rfl _ _ rfl g2 rfl rfl (by rw [rcells_length]; rfl) (rcells_one _ _) HT2.out ?_; intro w9 HW9))
      obtain ⟨R1, R2, R3⟩ := HK.out.res r
      rw [← HW9.out] at R1 R2 R3
      exact bodyPost_ret_by (results_cell_any Try.results62 _ _ g2 (rcells k_12 r) _ rfl R1 Try.underlying27 rfl (by kernel_rfl)) rfl ⟨r, rfl, R2, R3⟩
set_option maxRecDepth 100000 in
set_option maxHeartbeats 4000000 in
theorem l05Any_c (p : Nat) (w : World) (hc : Cur w p) :
    Calls Try.prog 46 #[.pointer (some ⟨p, 0, none⟩)] w fun e w' => ∃ r : Rec, e = .returned (sides12 r) ∧ Cur w' p ∧ CB p w w' := by
  have hlt := hc.lt
  go_enter Try.func46, Try.ntmps46
  go_wp2_with ((with_reducible show wpList _ _ _ (Oper.mk _ (Op.alloc 27) _ _ _ _ :: _) _ _); refine allocR (N := 12) (L := rcells k_12 Rec.zero) (by kernel_rfl) rfl rfl ?_; intro wA HA)
  have hcA : Cur wA p := by rw [HA.out]; exact hc.keep ((Bel.refl _).alloc _)
  refine (l05Sides_c _ _ hcA).mono ?_; rintro e w1 ⟨r0, rfl, hc1, hb1⟩
  have hB2 : BX w1 w.heap.size k_12 := BX.cb (by rw [HA.out]; exact BX.new w k_12 Rec.zero 27) hb1 (by omega)
  have hcb1 : CB p w w1 := CB.trans (by rw [HA.out]; exact (CB.refl p w).alloc _) hb1
  have hl2 := hB2.1
  have hI0 : It k_12 w (w1.alloc (.cells (rcells k_12 Rec.zero).toArray 27)) p w.heap.size w1.heap.size :=
    ⟨hc1.keep ((Bel.refl _).alloc _), hcb1.alloc _, Nat.le_refl _, hcb1.sz, hlt, by omega, hB2.keep ((Bel.refl _).alloc _), BX.new w1 k_12 _ 27⟩
  have HTB := Lib.hid (hI0.b3.there 12 rfl)
  have HI1 := Lib.hid (hI0.setAll r0)
  clear hI0 hB2 hcb1 hc1 hb1
  go_wp2_with (first
    | ((with_reducible show wpList _ _ _ (Oper.mk _ (Op.alloc 27) _ _ _ _ :: _) _ _); refine allocR (N := 12) (L := rcells k_12 Rec.zero) (by kernel_rfl) rfl rfl ?_; intro wB HB)
    | ((with_reducible show wpList _ _ _ (Oper.mk _ (Op.store 27 _ _) _ _ _ _ :: _) _ _); refine storeR (N := 12) (L := rcells k_12 r0) (by kernel_rfl) rfl _ _ rfl w1.heap.size rfl rfl (by rw [rcells_length]; rfl) (rcells_one _ _) (by rw [HB.out]; exact HTB.out) ?_; intro wC HC))
  have hI : It k_12 w wC p w.heap.size w1.heap.size := by rw [HC.out, HB.out]; exact HI1.out
  clear HA HB HC HTB HI1
  obtain ⟨g2, hg2⟩ : ∃ g, w.heap.size = g := ⟨_, rfl⟩
  obtain ⟨g3, hg3⟩ : ∃ g, w1.heap.size = g := ⟨_, rfl⟩
  rw [hg2, hg3] at hI ⊢
  rw [hg2] at hlt hl2
  refine (l01Once_c _ _ _ hI.cur).mono ?_; rintro e w3 ⟨b, rfl, hc3, hb3⟩
  have hK := hI.go hc3 hb3
  clear hI hc3 hb3
  go_upto_if 7 with fail
  go_cut [] from 8 (fun wx => It k_12 w wx p g2 g3)
  case first =>
    cases b
    · go_wp2_with fail
      go_meet
      exact hK
    · have hI := hK
      clear hK
      go_wp2_with fail
      refine (l04Any_c _ _ hI.cur).mono ?_; rintro e w4 ⟨y0, y1, rfl, hc4, hb4⟩
      have hJ := hI.go hc4 hb4
      obtain ⟨m0, hm0⟩ := hJ.b3.cellI (j := 2) rfl
      have hf0 := hJ.b3.2.2 2
      obtain ⟨m1, hm1⟩ := hJ.b3.cellI (j := 3) rfl
      have hf1 := hJ.b3.2.2 3
      clear hc4 hb4 hI
      go_wp2_with fail
      have hI := ((hJ.setI (j := 2) rfl y0).setI (j := 3) rfl y1)
      clear hJ hm0 hf0 hm1 hf1
      go_meet
      exact hI
  case rest =>
  have hI := hcut
  clear hcut hK
  go_wp2_with fail
  refine (l01Once_c _ _ _ hI.cur).mono ?_; rintro e w3 ⟨b, rfl, hc3, hb3⟩
  have hK := hI.go hc3 hb3
  clear hI hc3 hb3
  go_upto_if 12 with fail
  go_cut [] from 13 (fun wx => It k_12 w wx p g2 g3)
  case first =>
    cases b
    · go_wp2_with fail
      go_meet
      exact hK
    · have hI := hK
      clear hK
      go_wp2_with fail
      refine (l04Any_c _ _ hI.cur).mono ?_; rintro e w4 ⟨y0, y1, rfl, hc4, hb4⟩
      have hJ := hI.go hc4 hb4
      obtain ⟨m0, hm0⟩ := hJ.b3.cellI (j := 8) rfl
      have hf0 := hJ.b3.2.2 8
      obtain ⟨m1, hm1⟩ := hJ.b3.cellI (j := 9) rfl
      have hf1 := hJ.b3.2.2 9
      clear hc4 hb4 hI
      go_wp2_with fail
      have hI := ((hJ.setI (j := 8) rfl y0).setI (j := 9) rfl y1)
      clear hJ hm0 hf0 hm1 hf1
      go_meet
      exact hI
  case rest =>
  have hI := hcut
  clear hcut hK
  obtain ⟨r, hr⟩ := hI.b3.range
  have HR3 := Lib.hid hr
  have HT2 := Lib.hid (hI.b2.there 12 rfl)
  have HK := Lib.hid hI
  clear hr hI
  go_wp2_with (first
    | ((with_reducible show wpList _ _ _ (Oper.mk _ (Op.load 27 _) _ _ _ _ :: _) _ _); refine wpList_load_mid rfl 27 _ rfl g3 0 rfl (rcells k_12 r) _ HR3.out Try.underlying27 rfl (by rw [rcells_length]; kernel_rfl) ?_)
    | ((with_reducible show wpList _ _ _ (Oper.mk _ (Op.store 27 _ _) _ _ _ _ :: _) _ _); refine storeR (N := 12) (L := rcells k_12 r) (by kernel_rfl) rfl _ _ rfl g2 rfl rfl (by rw [rcells_length]; rfl) (rcells_one _ _) HT2.out ?_; intro w9 HW9))
  obtain ⟨R1, R2, R3⟩ := HK.out.res r
  rw [← HW9.out] at R1 R2 R3
  exact bodyPost_ret_by (results_cell_any Try.results46 _ _ g2 (rcells k_12 r) _ rfl R1 Try.underlying27 rfl (by kernel_rfl)) rfl ⟨r, rfl, R2, R3⟩
end Go.Proofs.Ytfmijkedhlnccaa
