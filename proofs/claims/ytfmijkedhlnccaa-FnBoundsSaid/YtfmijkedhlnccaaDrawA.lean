/- Draws of any style. (printed by mkdrawst.py) -/
import Derived.Test.YtfmijkedhlnccaaDrawY
import Derived.Deep.CutRange
namespace Go.Proofs.Ytfmijkedhlnccaa
open Go.RowKit Go.ChangeShapes Go.WideShapes Go.ChangeAt
set_option linter.unusedVariables false
set_option linter.unusedSimpArgs false
set_option maxRecDepth 100000 in
set_option maxHeartbeats 4000000 in
theorem l06Any_c (p : Nat) (w : World) (hc : Cur w p) :
    Calls Try.prog 21 #[.pointer (some ⟨p, 0, none⟩)] w fun e w' => ∃ r : Rec, e = .returned (styleV r) ∧ Cur w' p ∧ CB p w w' := by
  have hlt := hc.lt
  go_enter Try.func21, Try.ntmps21
  go_wp2_with ((with_reducible show wpList _ _ _ (Oper.mk _ (Op.alloc 31) _ _ _ _ :: _) _ _); refine allocR (N := 60) (L := rcells k_style Rec.zero) (by kernel_rfl) rfl rfl ?_; intro wA HA)
  have hcA : Cur wA p := by rw [HA.out]; exact hc.keep ((Bel.refl _).alloc _)
  refine (l06Style_c _ _ hcA).mono ?_; rintro e w1 ⟨r0, rfl, hc1, hb1⟩
  have hB2 : BX w1 w.heap.size k_style := BX.cb (by rw [HA.out]; exact BX.new w k_style Rec.zero 31) hb1 (by omega)
  have hcb1 : CB p w w1 := CB.trans (by rw [HA.out]; exact (CB.refl p w).alloc _) hb1
  have hl2 := hB2.1
  have hI0 : It k_style w (w1.alloc (.cells (rcells k_style Rec.zero).toArray 31)) p w.heap.size w1.heap.size :=
    ⟨hc1.keep ((Bel.refl _).alloc _), hcb1.alloc _, Nat.le_refl _, hcb1.sz, hlt, by omega, hB2.keep ((Bel.refl _).alloc _), BX.new w1 k_style _ 31⟩
  have HTB := Lib.hid (hI0.b3.there 60 rfl)
  have HI1 := Lib.hid (hI0.setAll r0)
  clear hI0 hB2 hcb1 hc1 hb1
  go_wp2_with (first
    | ((with_reducible show wpList _ _ _ (Oper.mk _ (Op.alloc 31) _ _ _ _ :: _) _ _); refine allocR (N := 60) (L := rcells k_style Rec.zero) (by kernel_rfl) rfl rfl ?_; intro wB HB)
    | ((with_reducible show wpList _ _ _ (Oper.mk _ (Op.store 31 _ _) _ _ _ _ :: _) _ _); refine storeR (N := 60) (L := rcells k_style r0) (by kernel_rfl) rfl _ _ rfl w1.heap.size rfl rfl (by rw [rcells_length]; rfl) (rcells_one _ _) (by rw [HB.out]; exact HTB.out) ?_; intro wC HC))
  have hI : It k_style w wC p w.heap.size w1.heap.size := by rw [HC.out, HB.out]; exact HI1.out
  clear HA HB HC HTB HI1
  obtain ⟨g2, hg2⟩ : ∃ g, w.heap.size = g := ⟨_, rfl⟩
  obtain ⟨g3, hg3⟩ : ∃ g, w1.heap.size = g := ⟨_, rfl⟩
  rw [hg2, hg3] at hI ⊢
  rw [hg2] at hlt hl2
  refine (pickLit_c _ [0, -1, 7, 1001, -1001, 6401, 1048577, 9223372036854775807] _ _ hI.cur (by simp) (by simp) (by simp)).mono ?_; rintro e w3 ⟨z, rfl, hz3, hc3, hb3⟩
  have hK := hI.go hc3 hb3
  clear hI hc3 hb3 hz3
  go_wp2_with fail
  refine (l01Below_c _ _ _ hK.cur).mono ?_; rintro e w5 ⟨x, rfl, hx, hc5, hb5⟩
  have hI := hK.go hc5 hb5
  clear hK hc5 hb5 hx
  by_cases e0 : x = 0
  · subst e0
    have hJ := hI
    obtain ⟨m0, hm0⟩ := hJ.b3.cellI (j := 0) rfl
    have hf0 := hJ.b3.2.2 0
    clear hI
    have hI := (hJ.setI (j := 0) rfl z)
    clear hJ
    obtain ⟨r, hr⟩ := hI.b3.range
    have HR3 := Lib.hid hr
    have HT2 := Lib.hid (hI.b2.there 60 rfl)
    have HK := Lib.hid hI
    clear hr hI
    go_wp2_with (first
      | ((with_reducible show wpList _ _ _ (Oper.mk _ (Op.load 31 _) _ _ _ _ :: _) _ _); refine wpList_load_mid rfl 31 _ rfl g3 0 rfl (rcells k_style r) _ HR3.out Try.underlying31 rfl (by rw [rcells_length]; kernel_rfl) ?_)
      | ((with_reducible show wpList _ _ _ (Oper.mk _ (Op.store 31 _ _) _ _ _ _ :: _) _ _); refine storeR (N := 60) (L := rcells k_style r) (by kernel_rfl) rfl _ _ rfl g2 rfl rfl (by rw [rcells_length]; rfl) (rcells_one _ _) HT2.out ?_; intro w9 HW9))
    obtain ⟨R1, R2, R3⟩ := HK.out.res r
    rw [← HW9.out] at R1 R2 R3
    exact bodyPost_ret_by (results_cell_any Try.results21 _ _ g2 (rcells k_style r) _ rfl R1 Try.underlying31 rfl (by kernel_rfl)) rfl ⟨r, rfl, R2, R3⟩
  · by_cases e1 : x = 1
    · subst e1
      have hJ := hI
      obtain ⟨m0, hm0⟩ := hJ.b3.cellI (j := 3) rfl
      have hf0 := hJ.b3.2.2 3
      clear hI
      have hI := (hJ.setI (j := 3) rfl z)
      clear hJ
      obtain ⟨r, hr⟩ := hI.b3.range
      have HR3 := Lib.hid hr
      have HT2 := Lib.hid (hI.b2.there 60 rfl)
      have HK := Lib.hid hI
      clear hr hI
      go_wp2_with (first
        | ((with_reducible show wpList _ _ _ (Oper.mk _ (Op.load 31 _) _ _ _ _ :: _) _ _); refine wpList_load_mid rfl 31 _ rfl g3 0 rfl (rcells k_style r) _ HR3.out Try.underlying31 rfl (by rw [rcells_length]; kernel_rfl) ?_)
        | ((with_reducible show wpList _ _ _ (Oper.mk _ (Op.store 31 _ _) _ _ _ _ :: _) _ _); refine storeR (N := 60) (L := rcells k_style r) (by kernel_rfl) rfl _ _ rfl g2 rfl rfl (by rw [rcells_length]; rfl) (rcells_one _ _) HT2.out ?_; intro w9 HW9))
      obtain ⟨R1, R2, R3⟩ := HK.out.res r
      rw [← HW9.out] at R1 R2 R3
      exact bodyPost_ret_by (results_cell_any Try.results21 _ _ g2 (rcells k_style r) _ rfl R1 Try.underlying31 rfl (by kernel_rfl)) rfl ⟨r, rfl, R2, R3⟩
    · by_cases e2 : x = 2
      · subst e2
        have hJ := hI
        obtain ⟨m0, hm0⟩ := hJ.b3.cellI (j := 4) rfl
        have hf0 := hJ.b3.2.2 4
        clear hI
        have hI := (hJ.setI (j := 4) rfl z)
        clear hJ
        obtain ⟨r, hr⟩ := hI.b3.range
        have HR3 := Lib.hid hr
        have HT2 := Lib.hid (hI.b2.there 60 rfl)
        have HK := Lib.hid hI
        clear hr hI
        go_wp2_with (first
          | ((with_reducible show wpList _ _ _ (Oper.mk _ (Op.load 31 _) _ _ _ _ :: _) _ _); refine wpList_load_mid rfl 31 _ rfl g3 0 rfl (rcells k_style r) _ HR3.out Try.underlying31 rfl (by rw [rcells_length]; kernel_rfl) ?_)
          | ((with_reducible show wpList _ _ _ (Oper.mk _ (Op.store 31 _ _) _ _ _ _ :: _) _ _); refine storeR (N := 60) (L := rcells k_style r) (by kernel_rfl) rfl _ _ rfl g2 rfl rfl (by rw [rcells_length]; rfl) (rcells_one _ _) HT2.out ?_; intro w9 HW9))
        obtain ⟨R1, R2, R3⟩ := HK.out.res r
        rw [← HW9.out] at R1 R2 R3
        exact bodyPost_ret_by (results_cell_any Try.results21 _ _ g2 (rcells k_style r) _ rfl R1 Try.underlying31 rfl (by kernel_rfl)) rfl ⟨r, rfl, R2, R3⟩
      · by_cases e3 : x = 3
        · subst e3
          have hJ := hI
          obtain ⟨m0, hm0⟩ := hJ.b3.cellI (j := 9) rfl
          have hf0 := hJ.b3.2.2 9
          clear hI
          have hI := (hJ.setI (j := 9) rfl z)
          clear hJ
          obtain ⟨r, hr⟩ := hI.b3.range
          have HR3 := Lib.hid hr
          have HT2 := Lib.hid (hI.b2.there 60 rfl)
          have HK := Lib.hid hI
          clear hr hI
          go_wp2_with (first
            | ((with_reducible show wpList _ _ _ (Oper.mk _ (Op.load 31 _) _ _ _ _ :: _) _ _); refine wpList_load_mid rfl 31 _ rfl g3 0 rfl (rcells k_style r) _ HR3.out Try.underlying31 rfl (by rw [rcells_length]; kernel_rfl) ?_)
            | ((with_reducible show wpList _ _ _ (Oper.mk _ (Op.store 31 _ _) _ _ _ _ :: _) _ _); refine storeR (N := 60) (L := rcells k_style r) (by kernel_rfl) rfl _ _ rfl g2 rfl rfl (by rw [rcells_length]; rfl) (rcells_one _ _) HT2.out ?_; intro w9 HW9))
          obtain ⟨R1, R2, R3⟩ := HK.out.res r
          rw [← HW9.out] at R1 R2 R3
          exact bodyPost_ret_by (results_cell_any Try.results21 _ _ g2 (rcells k_style r) _ rfl R1 Try.underlying31 rfl (by kernel_rfl)) rfl ⟨r, rfl, R2, R3⟩
        · by_cases e4 : x = 4
          · subst e4
            have hJ := hI
            obtain ⟨m0, hm0⟩ := hJ.b3.cellI (j := 8) rfl
            have hf0 := hJ.b3.2.2 8
            clear hI
            have hI := (hJ.setI (j := 8) rfl z)
            clear hJ
            obtain ⟨r, hr⟩ := hI.b3.range
            have HR3 := Lib.hid hr
            have HT2 := Lib.hid (hI.b2.there 60 rfl)
            have HK := Lib.hid hI
            clear hr hI
            go_wp2_with (first
              | ((with_reducible show wpList _ _ _ (Oper.mk _ (Op.load 31 _) _ _ _ _ :: _) _ _); refine wpList_load_mid rfl 31 _ rfl g3 0 rfl (rcells k_style r) _ HR3.out Try.underlying31 rfl (by rw [rcells_length]; kernel_rfl) ?_)
              | ((with_reducible show wpList _ _ _ (Oper.mk _ (Op.store 31 _ _) _ _ _ _ :: _) _ _); refine storeR (N := 60) (L := rcells k_style r) (by kernel_rfl) rfl _ _ rfl g2 rfl rfl (by rw [rcells_length]; rfl) (rcells_one _ _) HT2.out ?_; intro w9 HW9))
            obtain ⟨R1, R2, R3⟩ := HK.out.res r
            rw [← HW9.out] at R1 R2 R3
            exact bodyPost_ret_by (results_cell_any Try.results21 _ _ g2 (rcells k_style r) _ rfl R1 Try.underlying31 rfl (by kernel_rfl)) rfl ⟨r, rfl, R2, R3⟩
          · by_cases e5 : x = 5
            · subst e5
              have hJ := hI
              obtain ⟨m0, hm0⟩ := hJ.b3.cellI (j := 25) rfl
              have hf0 := hJ.b3.2.2 25
              clear hI
              have hI := (hJ.setI (j := 25) rfl z)
              clear hJ
              obtain ⟨r, hr⟩ := hI.b3.range
              have HR3 := Lib.hid hr
              have HT2 := Lib.hid (hI.b2.there 60 rfl)
              have HK := Lib.hid hI
              clear hr hI
              go_wp2_with (first
                | ((with_reducible show wpList _ _ _ (Oper.mk _ (Op.load 31 _) _ _ _ _ :: _) _ _); refine wpList_load_mid rfl 31 _ rfl g3 0 rfl (rcells k_style r) _ HR3.out Try.underlying31 rfl (by rw [rcells_length]; kernel_rfl) ?_)
                | ((with_reducible show wpList _ _ _ (Oper.mk _ (Op.store 31 _ _) _ _ _ _ :: _) _ _); refine storeR (N := 60) (L := rcells k_style r) (by kernel_rfl) rfl _ _ rfl g2 rfl rfl (by rw [rcells_length]; rfl) (rcells_one _ _) HT2.out ?_; intro w9 HW9))
              obtain ⟨R1, R2, R3⟩ := HK.out.res r
              rw [← HW9.out] at R1 R2 R3
              exact bodyPost_ret_by (results_cell_any Try.results21 _ _ g2 (rcells k_style r) _ rfl R1 Try.underlying31 rfl (by kernel_rfl)) rfl ⟨r, rfl, R2, R3⟩
            · by_cases e6 : x = 6
              · subst e6
                go_wp2_with fail
                refine (l04Any_c _ _ hI.cur).mono ?_; rintro e w4 ⟨y0, y1, rfl, hc4, hb4⟩
                have hJ := hI.go hc4 hb4
                obtain ⟨m0, hm0⟩ := hJ.b3.cellI (j := 13) rfl
                have hf0 := hJ.b3.2.2 13
                obtain ⟨m1, hm1⟩ := hJ.b3.cellI (j := 14) rfl
                have hf1 := hJ.b3.2.2 14
                clear hc4 hb4 hI
                have hI := ((hJ.setI (j := 13) rfl y0).setI (j := 14) rfl y1)
                clear hJ
                obtain ⟨r, hr⟩ := hI.b3.range
                have HR3 := Lib.hid hr
                have HT2 := Lib.hid (hI.b2.there 60 rfl)
                have HK := Lib.hid hI
                clear hr hI
                go_wp2_with (first
                  | ((with_reducible show wpList _ _ _ (Oper.mk _ (Op.load 31 _) _ _ _ _ :: _) _ _); refine wpList_load_mid rfl 31 _ rfl g3 0 rfl (rcells k_style r) _ HR3.out Try.underlying31 rfl (by rw [rcells_length]; kernel_rfl) ?_)
                  | ((with_reducible show wpList _ _ _ (Oper.mk _ (Op.store 31 _ _) _ _ _ _ :: _) _ _); refine storeR (N := 60) (L := rcells k_style r) (by kernel_rfl) rfl _ _ rfl g2 rfl rfl (by rw [rcells_length]; rfl) (rcells_one _ _) HT2.out ?_; intro w9 HW9))
                obtain ⟨R1, R2, R3⟩ := HK.out.res r
                rw [← HW9.out] at R1 R2 R3
                exact bodyPost_ret_by (results_cell_any Try.results21 _ _ g2 (rcells k_style r) _ rfl R1 Try.underlying31 rfl (by kernel_rfl)) rfl ⟨r, rfl, R2, R3⟩
              · by_cases e7 : x = 7
                · subst e7
                  go_wp2_with fail
                  refine (l05Any_c _ _ hI.cur).mono ?_; rintro e w4 ⟨q, rfl, hc4, hb4⟩
                  have hJ := hI.go hc4 hb4
                  obtain ⟨m0, hm0⟩ := hJ.b3.cellI (j := 26) rfl
                  have hf0 := hJ.b3.2.2 26
                  obtain ⟨m1, hm1⟩ := hJ.b3.cellI (j := 27) rfl
                  have hf1 := hJ.b3.2.2 27
                  obtain ⟨m2, hm2⟩ := hJ.b3.cellI (j := 28) rfl
                  have hf2 := hJ.b3.2.2 28
                  obtain ⟨m3, hm3⟩ := hJ.b3.cellI (j := 29) rfl
                  have hf3 := hJ.b3.2.2 29
                  obtain ⟨m4, hm4⟩ := hJ.b3.cellI (j := 30) rfl
                  have hf4 := hJ.b3.2.2 30
                  obtain ⟨m5, hm5⟩ := hJ.b3.cellI (j := 31) rfl
                  have hf5 := hJ.b3.2.2 31
                  obtain ⟨m6, hm6⟩ := hJ.b3.cellI (j := 32) rfl
                  have hf6 := hJ.b3.2.2 32
                  obtain ⟨m7, hm7⟩ := hJ.b3.cellI (j := 33) rfl
                  have hf7 := hJ.b3.2.2 33
                  obtain ⟨m8, hm8⟩ := hJ.b3.cellI (j := 34) rfl
                  have hf8 := hJ.b3.2.2 34
                  obtain ⟨m9, hm9⟩ := hJ.b3.cellI (j := 35) rfl
                  have hf9 := hJ.b3.2.2 35
                  obtain ⟨m10, hm10⟩ := hJ.b3.cellI (j := 36) rfl
                  have hf10 := hJ.b3.2.2 36
                  obtain ⟨m11, hm11⟩ := hJ.b3.cellI (j := 37) rfl
                  have hf11 := hJ.b3.2.2 37
                  clear hc4 hb4 hI
                  have hI := ((((((((((((hJ.setI (j := 26) rfl (q.s 0)).setI (j := 27) rfl (q.s 1)).setI (j := 28) rfl (q.s 2)).setI (j := 29) rfl (q.s 3)).setI (j := 30) rfl (q.s 4)).setI (j := 31) rfl (q.s 5)).setI (j := 32) rfl (q.s 6)).setI (j := 33) rfl (q.s 7)).setI (j := 34) rfl (q.s 8)).setI (j := 35) rfl (q.s 9)).setI (j := 36) rfl (q.s 10)).setI (j := 37) rfl (q.s 11))
                  clear hJ
                  obtain ⟨r, hr⟩ := hI.b3.range
                  have HR3 := Lib.hid hr
                  have HT2 := Lib.hid (hI.b2.there 60 rfl)
                  have HK := Lib.hid hI
                  clear hr hI
                  go_wp2_with (first
                    | ((with_reducible show wpList _ _ _ (Oper.mk _ (Op.load 31 _) _ _ _ _ :: _) _ _); refine wpList_load_mid rfl 31 _ rfl g3 0 rfl (rcells k_style r) _ HR3.out Try.underlying31 rfl (by rw [rcells_length]; kernel_rfl) ?_)
                    | ((with_reducible show wpList _ _ _ (Oper.mk _ (Op.store 31 _ _) _ _ _ _ :: _) _ _); refine storeR (N := 60) (L := rcells k_style r) (by kernel_rfl) rfl _ _ rfl g2 rfl rfl (by rw [rcells_length]; rfl) (rcells_one _ _) HT2.out ?_; intro w9 HW9))
                  obtain ⟨R1, R2, R3⟩ := HK.out.res r
                  rw [← HW9.out] at R1 R2 R3
                  exact bodyPost_ret_by (results_cell_any Try.results21 _ _ g2 (rcells k_style r) _ rfl R1 Try.underlying31 rfl (by kernel_rfl)) rfl ⟨r, rfl, R2, R3⟩
                · by_cases e8 : x = 8
                  · subst e8
                    go_wp2_with fail
                    refine (l05AnyEdges_c _ _ hI.cur).mono ?_; rintro e w4 ⟨q, rfl, hc4, hb4⟩
                    have hJ := hI.go hc4 hb4
                    obtain ⟨m0, hm0⟩ := hJ.b3.cellI (j := 50) rfl
                    have hf0 := hJ.b3.2.2 50
                    obtain ⟨m1, hm1⟩ := hJ.b3.cellI (j := 51) rfl
                    have hf1 := hJ.b3.2.2 51
                    obtain ⟨m2, hm2⟩ := hJ.b3.cellI (j := 52) rfl
                    have hf2 := hJ.b3.2.2 52
                    obtain ⟨m3, hm3⟩ := hJ.b3.cellI (j := 53) rfl
                    have hf3 := hJ.b3.2.2 53
                    clear hc4 hb4 hI
                    have hI := ((((hJ.setI (j := 50) rfl (q.s 0)).setI (j := 51) rfl (q.s 1)).setI (j := 52) rfl (q.s 2)).setI (j := 53) rfl (q.s 3))
                    clear hJ
                    obtain ⟨r, hr⟩ := hI.b3.range
                    have HR3 := Lib.hid hr
                    have HT2 := Lib.hid (hI.b2.there 60 rfl)
                    have HK := Lib.hid hI
                    clear hr hI
                    go_wp2_with (first
                      | ((with_reducible show wpList _ _ _ (Oper.mk _ (Op.load 31 _) _ _ _ _ :: _) _ _); refine wpList_load_mid rfl 31 _ rfl g3 0 rfl (rcells k_style r) _ HR3.out Try.underlying31 rfl (by rw [rcells_length]; kernel_rfl) ?_)
                      | ((with_reducible show wpList _ _ _ (Oper.mk _ (Op.store 31 _ _) _ _ _ _ :: _) _ _); refine storeR (N := 60) (L := rcells k_style r) (by kernel_rfl) rfl _ _ rfl g2 rfl rfl (by rw [rcells_length]; rfl) (rcells_one _ _) HT2.out ?_; intro w9 HW9))
                    obtain ⟨R1, R2, R3⟩ := HK.out.res r
                    rw [← HW9.out] at R1 R2 R3
                    exact bodyPost_ret_by (results_cell_any Try.results21 _ _ g2 (rcells k_style r) _ rfl R1 Try.underlying31 rfl (by kernel_rfl)) rfl ⟨r, rfl, R2, R3⟩
                  · by_cases e9 : x = 9
                    · subst e9
                      have hJ := hI
                      obtain ⟨m0, hm0⟩ := hJ.b3.cellI (j := 58) rfl
                      have hf0 := hJ.b3.2.2 58
                      clear hI
                      have hI := (hJ.setI (j := 58) rfl z)
                      clear hJ
                      obtain ⟨r, hr⟩ := hI.b3.range
                      have HR3 := Lib.hid hr
                      have HT2 := Lib.hid (hI.b2.there 60 rfl)
                      have HK := Lib.hid hI
                      clear hr hI
                      go_wp2_with (first
                        | ((with_reducible show wpList _ _ _ (Oper.mk _ (Op.load 31 _) _ _ _ _ :: _) _ _); refine wpList_load_mid rfl 31 _ rfl g3 0 rfl (rcells k_style r) _ HR3.out Try.underlying31 rfl (by rw [rcells_length]; kernel_rfl) ?_)
                        | ((with_reducible show wpList _ _ _ (Oper.mk _ (Op.store 31 _ _) _ _ _ _ :: _) _ _); refine storeR (N := 60) (L := rcells k_style r) (by kernel_rfl) rfl _ _ rfl g2 rfl rfl (by rw [rcells_length]; rfl) (rcells_one _ _) HT2.out ?_; intro w9 HW9))
                      obtain ⟨R1, R2, R3⟩ := HK.out.res r
                      rw [← HW9.out] at R1 R2 R3
                      exact bodyPost_ret_by (results_cell_any Try.results21 _ _ g2 (rcells k_style r) _ rfl R1 Try.underlying31 rfl (by kernel_rfl)) rfl ⟨r, rfl, R2, R3⟩
                    · by_cases e10 : x = 10
                      · subst e10
                        have hJ := hI
                        obtain ⟨m0, hm0⟩ := hJ.b3.cellI (j := 23) rfl
                        have hf0 := hJ.b3.2.2 23
                        obtain ⟨m1, hm1⟩ := hJ.b3.cellI (j := 24) rfl
                        have hf1 := hJ.b3.2.2 24
                        clear hI
                        have hI := ((hJ.setI (j := 23) rfl 1).setI (j := 24) rfl (-1))
                        clear hJ
                        obtain ⟨r, hr⟩ := hI.b3.range
                        have HR3 := Lib.hid hr
                        have HT2 := Lib.hid (hI.b2.there 60 rfl)
                        have HK := Lib.hid hI
                        clear hr hI
                        go_wp2_with (first
                          | ((with_reducible show wpList _ _ _ (Oper.mk _ (Op.load 31 _) _ _ _ _ :: _) _ _); refine wpList_load_mid rfl 31 _ rfl g3 0 rfl (rcells k_style r) _ HR3.out Try.underlying31 rfl (by rw [rcells_length]; kernel_rfl) ?_)
                          | ((with_reducible show wpList _ _ _ (Oper.mk _ (Op.store 31 _ _) _ _ _ _ :: _) _ _); refine storeR (N := 60) (L := rcells k_style r) (by kernel_rfl) rfl _ _ rfl g2 rfl rfl (by rw [rcells_length]; rfl) (rcells_one _ _) HT2.out ?_; intro w9 HW9))
                        obtain ⟨R1, R2, R3⟩ := HK.out.res r
                        rw [← HW9.out] at R1 R2 R3
                        exact bodyPost_ret_by (results_cell_any Try.results21 _ _ g2 (rcells k_style r) _ rfl R1 Try.underlying31 rfl (by kernel_rfl)) rfl ⟨r, rfl, R2, R3⟩
                      · obtain ⟨r, hr⟩ := hI.b3.range
                        have HR3 := Lib.hid hr
                        have HT2 := Lib.hid (hI.b2.there 60 rfl)
                        have HK := Lib.hid hI
                        clear hr hI
                        go_wp2_with (first
                          | ((with_reducible show wpList _ _ _ (Oper.mk _ (Op.load 31 _) _ _ _ _ :: _) _ _); refine wpList_load_mid rfl 31 _ rfl g3 0 rfl (rcells k_style r) _ HR3.out Try.underlying31 rfl (by rw [rcells_length]; kernel_rfl) ?_)
                          | ((with_reducible show wpList _ _ _ (Oper.mk _ (Op.store 31 _ _) _ _ _ _ :: _) _ _); refine storeR (N := 60) (L := rcells k_style r) (by kernel_rfl) rfl _ _ rfl g2 rfl rfl (by rw [rcells_length]; rfl) (rcells_one _ _) HT2.out ?_; intro w9 HW9))
                        obtain ⟨R1, R2, R3⟩ := HK.out.res r
                        rw [← HW9.out] at R1 R2 R3
                        exact bodyPost_ret_by (results_cell_any Try.results21 _ _ g2 (rcells k_style r) _ rfl R1 Try.underlying31 rfl (by kernel_rfl)) rfl ⟨r, rfl, R2, R3⟩
end Go.Proofs.Ytfmijkedhlnccaa
