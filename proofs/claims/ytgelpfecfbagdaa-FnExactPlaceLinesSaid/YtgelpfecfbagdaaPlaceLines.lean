/- The law FnExactPlaceLines returns true for every argument, and leaves its arguments as they were. No condition. -/
import Derived.Test.YtgelpfecfbagdaaPlace
import Derived.OpenShut
import Derived.Deep.RegionWith
namespace Go.Proofs.Ytgelpfecfbagdaa
open Go.ChangeShapes Go.WideShapes Go.ChangeAt Go.RowKit
set_option linter.unusedVariables false
set_option linter.unusedSimpArgs false

theorem own : ownKnob Try.prog.godebug = none := by kernel_rfl
theorem laidOut : laidOutB Try.prog = true := by kernel_rfl

set_option maxHeartbeats 8000000 in
theorem lawPlaceLines_c (A0 : Option Addr) (c0 : Nat) (z0 : List Int) (n1 : Int) (n2 : Int) (n3 : Int) (w : World) (h0 : Ints w A0 z0) (i1 : In64 n1) (i2 : In64 n2) (i3 : In64 n3) :
    Calls Try.prog 11 #[.slice A0 z0.length c0, .int .i64 n1, .int .i64 n2, .int .i64 n3] w fun r w' => r = .returned (.bool true) ∧ Bel w w' := by
  by_cases m0 : z0.length ≤ 1048576
  rotate_left
  · have hgt : (1048576 : Int) < (z0.length : Int) := by omega
    go_enter Try.func11, Try.ntmps11
    go_wp2_with fail
    go_ret
    exact ⟨rfl, Bel.refl w⟩
  have hpl := placeLines_len z0 n1 n2 n3
  go_enter Try.func11, Try.ntmps11
  have h00 := h0
  go_wp2_with fail
  refine (toIntS_c _ _ _ _ h0 m0).mono ?_
  rintro e w1 ⟨rfl, s0, hb1⟩
  have T1 : Bel w w1 := hb1
  replace h0 := h0.keep hb1
  go_wp2_with fail
  refine (sPlaceLines_c _ _ _ _ _ _ _ (own_ints s0) m0).mono ?_
  rintro e w2 ⟨v2, rfl, w0, hb2⟩
  obtain ⟨A_w0, c_w0, rfl, -, -, -, l_w0⟩ := own_openN w0
  have H_w0 := Lib.hid l_w0
  clear l_w0
  have N_s0_w0 := Lib.hid (own_ne s0 w0 (Nat.le_refl _))
  have N_w0_s0 := Lib.hid (own_ne' s0 w0 (Nat.le_refl _))
  have T2 : Bel w w2 := T1.trans hb2
  replace h0 := h0.keep hb2
  replace s0 := own_keep s0 hb2
  clear s0
  go_wp2_with fail
  refine (toIntS_c _ _ _ _ h0 m0).mono ?_
  rintro e w3 ⟨rfl, x0, hb3⟩
  have N_w0_x0 := Lib.hid (own_ne w0 x0 (Nat.le_refl _))
  have N_x0_w0 := Lib.hid (own_ne' w0 x0 (Nat.le_refl _))
  have T3 : Bel w w3 := T2.trans hb3
  replace h0 := h0.keep hb3
  replace w0 := own_keep w0 hb3
  go_wp2_with fail
  refine (iPlaceLines_c _ _ _ _ _ _ _ (own_ints x0) m0).mono ?_
  rintro e w4 ⟨v4, rfl, g0, hb4⟩
  obtain ⟨A_g0, c_g0, rfl, -, -, -, l_g0⟩ := own_openN g0
  have H_g0 := Lib.hid l_g0
  clear l_g0
  have N_w0_g0 := Lib.hid (own_ne w0 g0 (Nat.le_refl _))
  have N_g0_w0 := Lib.hid (own_ne' w0 g0 (Nat.le_refl _))
  have N_x0_g0 := Lib.hid (own_ne x0 g0 (Nat.le_refl _))
  have N_g0_x0 := Lib.hid (own_ne' x0 g0 (Nat.le_refl _))
  have T4 : Bel w w4 := T3.trans hb4
  replace h0 := h0.keep hb4
  replace w0 := own_keep w0 hb4
  replace x0 := own_keep x0 hb4
  go_wp2_with fail
  refine (eqIntS_same _ _ _ _ _ _ _ (own_ints g0) (own_ints w0) (by first | rfl | exact H_w0.out) (Nat.le_trans hpl (by omega))).mono ?_
  rintro e w5 ⟨rfl, hb5⟩
  have T5 : Bel w w5 := T4.trans hb5
  replace h0 := h0.keep hb5
  replace w0 := own_keep w0 hb5
  replace x0 := own_keep x0 hb5
  replace g0 := own_keep g0 hb5
  go_wp2_with fail
  refine (toIntS_c _ _ _ _ h0 m0).mono ?_
  rintro e w6 ⟨rfl, y0, hb6⟩
  have N_w0_y0 := Lib.hid (own_ne w0 y0 (Nat.le_refl _))
  have N_y0_w0 := Lib.hid (own_ne' w0 y0 (Nat.le_refl _))
  have N_x0_y0 := Lib.hid (own_ne x0 y0 (Nat.le_refl _))
  have N_y0_x0 := Lib.hid (own_ne' x0 y0 (Nat.le_refl _))
  have N_g0_y0 := Lib.hid (own_ne g0 y0 (Nat.le_refl _))
  have N_y0_g0 := Lib.hid (own_ne' g0 y0 (Nat.le_refl _))
  have T6 : Bel w w6 := T5.trans hb6
  replace h0 := h0.keep hb6
  replace w0 := own_keep w0 hb6
  replace x0 := own_keep x0 hb6
  replace g0 := own_keep g0 hb6
  go_wp2_with fail
  refine (eqIntS_c _ _ _ _ _ _ _ (own_ints x0) (own_ints y0) m0 m0).mono ?_
  rintro e w7 ⟨rfl, hb7⟩
  have T7 : Bel w w7 := T6.trans hb7
  replace h0 := h0.keep hb7
  replace w0 := own_keep w0 hb7
  replace x0 := own_keep x0 hb7
  replace g0 := own_keep g0 hb7
  replace y0 := own_keep y0 hb7
  clear y0
  go_wp2_with fail
  refine (markIntS_n _ _ _ _ _ _ x0 (by omega) (by omega)).mono ?_
  rintro e w8 ⟨rfl, nw, hg8⟩
  have T8 : Bel w w8 := Bel.own T7 T2.sz x0 hg8
  replace w0 := w0.kept hg8 N_w0_x0.out
  replace g0 := g0.kept hg8 N_g0_x0.out
  replace h0 := h00.keep T8
  replace x0 := nw
  clear x0
  go_wp2_with fail
  refine (eqIntS_same _ _ _ _ _ _ _ (own_ints g0) (own_ints w0) (by first | rfl | exact H_w0.out) (Nat.le_trans hpl (by omega))).mono ?_
  rintro e w9 ⟨rfl, hb9⟩
  have T9 : Bel w w9 := T8.trans hb9
  replace h0 := h0.keep hb9
  replace w0 := own_keep w0 hb9
  replace g0 := own_keep g0 hb9
  go_wp2_with fail
  refine (markIntS_n _ _ _ _ _ _ g0 (by omega) (by omega)).mono ?_
  rintro e w10 ⟨rfl, nw, hg10⟩
  have T10 : Bel w w10 := Bel.own T9 T3.sz g0 hg10
  replace w0 := w0.kept hg10 N_w0_g0.out
  replace h0 := h00.keep T10
  replace g0 := nw
  go_wp2_with fail
  refine (heldIntS_c _ _ _ _ _ (own_ints g0) (by omega) (by omega)).mono ?_
  rintro e w11 ⟨rfl, hb11⟩
  have T11 : Bel w w11 := T10.trans hb11
  replace h0 := h0.keep hb11
  replace w0 := own_keep w0 hb11
  replace g0 := own_keep g0 hb11
  go_wp2_with fail
  refine (toIntS_c _ _ _ _ h0 m0).mono ?_
  rintro e w12 ⟨rfl, t0, hb12⟩
  have N_w0_t0 := Lib.hid (own_ne w0 t0 (Nat.le_refl _))
  have N_t0_w0 := Lib.hid (own_ne' w0 t0 (Nat.le_refl _))
  have N_g0_t0 := Lib.hid (own_ne g0 t0 (Nat.le_refl _))
  have N_t0_g0 := Lib.hid (own_ne' g0 t0 (Nat.le_refl _))
  have T12 : Bel w w12 := T11.trans hb12
  replace h0 := h0.keep hb12
  replace w0 := own_keep w0 hb12
  replace g0 := own_keep g0 hb12
  go_wp2_with fail
  refine (iPlaceLines_c _ _ _ _ _ _ _ (own_ints t0) m0).mono ?_
  rintro e w13 ⟨v13, rfl, h0r, hb13⟩
  obtain ⟨A_h0r, c_h0r, rfl, -, -, -, l_h0r⟩ := own_openN h0r
  have H_h0r := Lib.hid l_h0r
  clear l_h0r
  have N_w0_h0r := Lib.hid (own_ne w0 h0r (Nat.le_refl _))
  have N_h0r_w0 := Lib.hid (own_ne' w0 h0r (Nat.le_refl _))
  have N_g0_h0r := Lib.hid (own_ne g0 h0r (Nat.le_refl _))
  have N_h0r_g0 := Lib.hid (own_ne' g0 h0r (Nat.le_refl _))
  have N_t0_h0r := Lib.hid (own_ne t0 h0r (Nat.le_refl _))
  have N_h0r_t0 := Lib.hid (own_ne' t0 h0r (Nat.le_refl _))
  have T13 : Bel w w13 := T12.trans hb13
  replace h0 := h0.keep hb13
  replace w0 := own_keep w0 hb13
  replace g0 := own_keep g0 hb13
  replace t0 := own_keep t0 hb13
  clear t0
  go_wp2_with fail
  refine (eqIntS_same _ _ _ _ _ _ _ (own_ints h0r) (own_ints w0) (by first | rfl | exact H_w0.out) (Nat.le_trans hpl (by omega))).mono ?_
  rintro e w14 ⟨rfl, hb14⟩
  have T14 : Bel w w14 := T13.trans hb14
  replace h0 := h0.keep hb14
  replace w0 := own_keep w0 hb14
  replace g0 := own_keep g0 hb14
  replace h0r := own_keep h0r hb14
  go_wp2_with fail
  refine (heldIntS_c _ _ _ _ _ (own_ints g0) (by omega) (by omega)).mono ?_
  rintro e w15 ⟨rfl, hb15⟩
  have T15 : Bel w w15 := T14.trans hb15
  replace h0 := h0.keep hb15
  replace w0 := own_keep w0 hb15
  replace g0 := own_keep g0 hb15
  replace h0r := own_keep h0r hb15
  go_wp2_with fail
  go_ret
  exact ⟨rfl, T15⟩

set_option maxRecDepth 100000 in
theorem ExactPlaceLines_lifted (os : Os) (started : os.Started) (H : Type) (enc : TypeId × Value → H) :
    ReturnsInHanded {} Try.checked os 11 .any (Rows.fnExactPlaceLinesSpec.pre6 enc Try.prog Try.f11 Rows.fnExactPlaceLinesRow.domain false) (Rows.fnExactPlaceLinesSpec.post enc Try.prog Try.f11 false true false false) := by
  refine law_lifted (C := Try.checked) (tb := 4) own started (by kernel_rfl) Try.func11 laidOut rfl rfl Try.underlying4 (by kernel_rfl)
    (fun ds h => match ds, h with | [_, _, _, _], _ => rfl)
    (ChangeSpec.witness6 (enc := enc) (C := Try.checked) false ⟨#[], #[.slice none 0 0, .int .i64 0, .int .i64 0, .int .i64 0], []⟩ 8 (by kernel_rfl) (by kernel_rfl) (by kernel_rfl) (by kernel_rfl)) ?_
  intro W base args ds ps hval0 hA0
  have hval : ∀ (j : Nat) t v, Try.f11.params[j]? = some t → args[j]? = some v → Value.okWide Try.prog W .any base t v := hval0
  have hA : DataW.TrodAll enc Try.prog W 0 (fun _ => true) true Try.f11.params.toList args.toList ds ps := hA0
  clear hval0 hA0
  rw [Try.params11] at hA hval
  obtain ⟨v0, v1, v2, v3, d0, d1, d2, d3, p0, p1, p2, p3, rfl, rfl, rfl, g0, g1, g2, g3⟩ := trodAll_four hA
  obtain ⟨A0, c0, z0, rfl, -, -, -, h0⟩ := open_intS Try.underlying42 Try.underlying3 (by kernel_rfl) (hval 0 42 v0 rfl rfl) g0
  obtain ⟨n1, i1, rfl⟩ := open_num Try.underlying3 (hval 1 3 v1 rfl rfl) g1
  obtain ⟨n2, i2, rfl⟩ := open_num Try.underlying3 (hval 2 3 v2 rfl rfl) g2
  obtain ⟨n3, i3, rfl⟩ := open_num Try.underlying3 (hval 3 3 v3 rfl rfl) g3
  exact lawPlaceLines_c _ _ _ _ _ _ W h0 i1 i2 i3

theorem ExactPlaceLines_holds : Rows.FnExactPlaceLinesSaid :=
  OpenClaim.holds_of_wide 11 Try.f11 rfl rfl rfl rfl rfl rfl rfl ⟨rfl, rfl, rfl, rfl, rfl⟩ rfl rfl rfl rfl rfl (by kernel_rfl) Try.func11 (by kernel_rfl)
    (of_decide_eq_true (by kernel_rfl)) (by unfold Func.isWrapper; first | (rw [if_pos (by decide +kernel)]; kernel_rfl) | (rw [if_neg (by decide +kernel)]; exact ⟨rfl, rfl⟩))
    (fun os started H enc _ => ExactPlaceLines_lifted os started H enc)
#print axioms ExactPlaceLines_holds
end Go.Proofs.Ytgelpfecfbagdaa
