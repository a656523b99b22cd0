/- The law FnExactEndsAlong returns true for every argument, and leaves its arguments as they were. No condition. -/
import Derived.Test.YtknccikdoabgfaaAlongF
import Derived.OpenShut
import Derived.Deep.RegionWith
import Derived.Deep.RegionHeld3
namespace Go.Proofs.Ytknccikdoabgfaa
open Go.ChangeShapes Go.WideShapes Go.ChangeAt Go.RowKit
set_option linter.unusedVariables false
set_option linter.unusedSimpArgs false

theorem own : ownKnob Try.prog.godebug = none := by kernel_rfl
theorem laidOut : laidOutB Try.prog = true := by kernel_rfl

set_option maxRecDepth 100000 in
set_option maxHeartbeats 4000000 in
theorem lawEndsAlong_c (A0 : Option Addr) (c0 : Nat) (z0 : List Rec) (A1 : Option Addr) (c1 : Nat) (z1 : List Int) (n2 : Int) (n3 : Int) (n4 : Int) (w : World) (h0 : Recs w A0 k_item z0) (hcap0 : z0.length ≤ 9223372036854775807) (h1 : Ints w A1 z1) (i2 : In64 n2) (i3 : In64 n3) (i4 : In64 n4) :
    Calls Try.prog 12 #[.slice A0 z0.length c0, .slice A1 z1.length c1, .int .i64 n2, .int .i64 n3, .int .i64 n4] w fun r w' => r = .returned (.bool true) ∧ Bel w w' := by
  by_cases m1 : z1.length ≤ 1048576
  rotate_left
  · have hgt : (1048576 : Int) < (z1.length : Int) := by omega
    go_enter Try.func12, Try.ntmps12
    go_wp2_with fail
    go_ret
    exact ⟨rfl, Bel.refl w⟩
  by_cases n0 : (z0.length : Int) ≤ 1048576
  rotate_left
  · go_enter Try.func12, Try.ntmps12
    go_wp2_with fail
    refine (szItemS_c _ _ _ _ _ (by omega) (by omega)).mono ?_; rintro e w1 ⟨rfl, rfl⟩
    rw [if_neg (by omega)]
    go_wp2_with fail
    go_ret
    exact ⟨rfl, Bel.refl w⟩
  have m0 : z0.length ≤ 1048576 := by omega
  go_enter Try.func12, Try.ntmps12
  go_wp2_with fail
  refine (szItemS_c _ _ _ _ _ (by omega) (by omega)).mono ?_; rintro e w1 ⟨rfl, rfl⟩
  rw [if_pos n0]
  go_wp2_with fail
  refine (toItemS_c _ _ _ _ h0 m0).mono ?_
  rintro e w1 ⟨rfl, ho1, hb1⟩
  have T1 : Bel w w1 := hb1
  replace h0 := h0.keep hb1
  replace h1 := h1.keep hb1
  have S0 := Recs.of_own rfl ho1
  go_wp2_with fail
  refine (toIntS_c _ _ _ _ h1 m1).mono ?_
  rintro e w2 ⟨rfl, ho2, hb2⟩
  have T2 : Bel w w2 := T1.trans hb2
  replace h0 := h0.keep hb2
  replace h1 := h1.keep hb2
  replace S0 := S0.keep hb2
  have S1 := Ints.of_own ho2
  go_wp2_with fail
  refine (sEndsAlong_c _ _ _ _ _ _ _ _ _ _ S0 S1 m0 m1).mono ?_
  rintro e w3 ⟨rfl, hb3⟩
  have T3 : Bel w w3 := T2.trans hb3
  replace h0 := h0.keep hb3
  replace h1 := h1.keep hb3
  replace S0 := S0.keep hb3
  replace S1 := S1.keep hb3
  go_wp2_with fail
  refine (toItemS_c _ _ _ _ h0 m0).mono ?_
  rintro e w4 ⟨rfl, ho4, hb4⟩
  have T4 : Bel w w4 := T3.trans hb4
  replace h0 := h0.keep hb4
  replace h1 := h1.keep hb4
  replace S0 := S0.keep hb4
  replace S1 := S1.keep hb4
  have X0 := Recs.of_own rfl ho4
  go_wp2_with fail
  refine (toIntS_c _ _ _ _ h1 m1).mono ?_
  rintro e w5 ⟨rfl, ho5, hb5⟩
  have T5 : Bel w w5 := T4.trans hb5
  replace h0 := h0.keep hb5
  replace h1 := h1.keep hb5
  replace S0 := S0.keep hb5
  replace S1 := S1.keep hb5
  replace X0 := X0.keep hb5
  have X1 := Ints.of_own ho5
  go_wp2_with fail
  refine (iEndsAlong_c _ _ _ _ _ _ _ _ _ _ X0 X1 m0 m1).mono ?_
  rintro e w6 ⟨rfl, hb6⟩
  have T6 : Bel w w6 := T5.trans hb6
  replace h0 := h0.keep hb6
  replace h1 := h1.keep hb6
  replace S0 := S0.keep hb6
  replace S1 := S1.keep hb6
  replace X0 := X0.keep hb6
  replace X1 := X1.keep hb6
  go_wp2_with fail
  refine (toItemS_c _ _ _ _ h0 m0).mono ?_
  rintro e w7 ⟨rfl, ho7, hb7⟩
  have T7 : Bel w w7 := T6.trans hb7
  replace h0 := h0.keep hb7
  replace h1 := h1.keep hb7
  replace S0 := S0.keep hb7
  replace S1 := S1.keep hb7
  replace X0 := X0.keep hb7
  replace X1 := X1.keep hb7
  have Y0 := Recs.of_own rfl ho7
  go_wp2_with fail
  refine (eqItemS_c _ _ _ _ _ _ (X0) (Y0) m0).mono ?_
  rintro e w8 ⟨rfl, hb8⟩
  have T8 : Bel w w8 := T7.trans hb8
  replace h0 := h0.keep hb8
  replace h1 := h1.keep hb8
  replace S0 := S0.keep hb8
  replace S1 := S1.keep hb8
  replace X0 := X0.keep hb8
  replace X1 := X1.keep hb8
  replace Y0 := Y0.keep hb8
  go_wp2_with fail
  refine (toIntS_c _ _ _ _ h1 m1).mono ?_
  rintro e w9 ⟨rfl, ho9, hb9⟩
  have T9 : Bel w w9 := T8.trans hb9
  replace h0 := h0.keep hb9
  replace h1 := h1.keep hb9
  replace S0 := S0.keep hb9
  replace S1 := S1.keep hb9
  replace X0 := X0.keep hb9
  replace X1 := X1.keep hb9
  replace Y0 := Y0.keep hb9
  have Y1 := Ints.of_own ho9
  go_wp2_with fail
  refine (eqIntS_c _ _ _ _ _ _ _ (X1) (Y1) m1 m1).mono ?_
  rintro e w10 ⟨rfl, hb10⟩
  have T10 : Bel w w10 := T9.trans hb10
  replace h0 := h0.keep hb10
  replace h1 := h1.keep hb10
  replace S0 := S0.keep hb10
  replace S1 := S1.keep hb10
  replace X0 := X0.keep hb10
  replace X1 := X1.keep hb10
  replace Y0 := Y0.keep hb10
  replace Y1 := Y1.keep hb10
  go_wp2_with fail
  go_ret
  exact ⟨by simp, T10⟩

set_option maxRecDepth 100000 in
theorem ExactEndsAlong_lifted (os : Os) (started : os.Started) (H : Type) (enc : TypeId × Value → H) :
    ReturnsInHanded {} Try.checked os 12 .any (Rows.fnExactEndsAlongSpec.pre6 enc Try.prog Try.f12 Rows.fnExactEndsAlongRow.domain false) (Rows.fnExactEndsAlongSpec.post enc Try.prog Try.f12 false true false false) := by
  refine law_lifted (C := Try.checked) (tb := 4) own started (by kernel_rfl) Try.func12 laidOut rfl rfl Try.underlying4 (by kernel_rfl)
    (fun ds h => match ds, h with | [_, _, _, _, _], _ => rfl)
    (ChangeSpec.witness6 (enc := enc) (C := Try.checked) false ⟨#[], #[.slice none 0 0, .slice none 0 0, .int .i64 0, .int .i64 0, .int .i64 0], []⟩ 8 (by kernel_rfl) (by kernel_rfl) (by kernel_rfl) (by kernel_rfl)) ?_
  intro W base args ds ps hval0 hA0
  have hval : ∀ (j : Nat) t v, Try.f12.params[j]? = some t → args[j]? = some v → Value.okWide Try.prog W .any base t v := hval0
  have hA : DataW.TrodAll enc Try.prog W 0 (fun _ => true) true Try.f12.params.toList args.toList ds ps := hA0
  clear hval0 hA0
  rw [Try.params12] at hA hval
  obtain ⟨v0, vs0, d0, ds0, p0, q0, hargs, rfl, rfl, g0, r0⟩ := trodAll_cons hA
  obtain ⟨v1, vs1, d1, ds1, p1, q1, rfl, rfl, rfl, g1, r1⟩ := trodAll_cons r0
  obtain ⟨v2, vs2, d2, ds2, p2, q2, rfl, rfl, rfl, g2, r2⟩ := trodAll_cons r1
  obtain ⟨v3, vs3, d3, ds3, p3, q3, rfl, rfl, rfl, g3, r3⟩ := trodAll_cons r2
  obtain ⟨v4, vs4, d4, ds4, p4, q4, rfl, rfl, rfl, g4, r4⟩ := trodAll_cons r3
  obtain ⟨rfl, rfl, rfl⟩ := trodAll_nil r4
  obtain rfl : args = #[v0, v1, v2, v3, v4] := by cases args; simp_all
  obtain ⟨A0, c0, z0, rfl, k0, k0', -, h0⟩ := open_recsV Try.underlying27 (ts := [3, 3, 3, 3, 3, 3, 3, 4, 4]) (ks := k_item) (by kernel_rfl) (by kernel_rfl) (by kernel_rfl) (by decide) (hval 0 27 v0 rfl rfl) g0
  obtain ⟨A1, c1, z1, rfl, -, -, -, h1⟩ := open_intS Try.underlying35 Try.underlying3 (by kernel_rfl) (hval 1 35 v1 rfl rfl) g1
  obtain ⟨n2, i2, rfl⟩ := open_num Try.underlying3 (hval 2 3 v2 rfl rfl) g2
  obtain ⟨n3, i3, rfl⟩ := open_num Try.underlying3 (hval 3 3 v3 rfl rfl) g3
  obtain ⟨n4, i4, rfl⟩ := open_num Try.underlying3 (hval 4 3 v4 rfl rfl) g4
  exact lawEndsAlong_c _ _ _ _ _ _ _ _ _ W h0 (by unfold maxLen at k0'; omega) h1 i2 i3 i4

theorem ExactEndsAlong_holds : Rows.FnExactEndsAlongSaid :=
  OpenClaim.holds_of_wide 12 Try.f12 rfl rfl rfl rfl rfl rfl rfl ⟨rfl, rfl, rfl, rfl, rfl⟩ rfl rfl rfl rfl rfl (by kernel_rfl) Try.func12 (by kernel_rfl)
    (of_decide_eq_true (by kernel_rfl)) (by unfold Func.isWrapper; first | (rw [if_pos (by decide +kernel)]; kernel_rfl) | (rw [if_neg (by decide +kernel)]; exact ⟨rfl, rfl⟩))
    (fun os started H enc _ => ExactEndsAlong_lifted os started H enc)
#print axioms ExactEndsAlong_holds
end Go.Proofs.Ytknccikdoabgfaa
