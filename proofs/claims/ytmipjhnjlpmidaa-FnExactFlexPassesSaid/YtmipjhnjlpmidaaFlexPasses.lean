/- The law FnExactFlexPasses returns true for every argument, and leaves its arguments as they were. No condition. -/
import Derived.Test.YtmipjhnjlpmidaaFlexIf
import Derived.OpenShut
import Derived.Deep.RegionWith
import Derived.Deep.RegionHeld3
namespace Go.Proofs.Ytmipjhnjlpmidaa
open Go.ChangeShapes Go.WideShapes Go.ChangeAt Go.RowKit
set_option linter.unusedVariables false
set_option linter.unusedSimpArgs false

theorem own : ownKnob Try.prog.godebug = none := by kernel_rfl
theorem laidOut : laidOutB Try.prog = true := by kernel_rfl

set_option maxRecDepth 100000 in
set_option maxHeartbeats 4000000 in
theorem lawFlexPasses_c (A0 : Option Addr) (c0 : Nat) (z0 : List Rec) (n1 : Int) (n2 : Int) (w : World) (h0 : Recs w A0 k_item z0) (hcap0 : z0.length ≤ 9223372036854775807) (i1 : In64 n1) (i2 : In64 n2) :
    Calls Try.prog 3 #[.slice A0 z0.length c0, .int .i64 n1, .int .i64 n2] w fun r w' => r = .returned (.bool true) ∧ Bel w w' := by
  by_cases n0 : (z0.length : Int) ≤ 1048576
  rotate_left
  · go_enter Try.func3, Try.ntmps3
    go_wp2_with fail
    refine (szItemS_c _ _ _ _ _ (by omega) (by omega)).mono ?_; rintro e w1 ⟨rfl, rfl⟩
    rw [if_neg (by omega)]
    go_wp2_with fail
    go_ret
    exact ⟨rfl, Bel.refl w⟩
  have m0 : z0.length ≤ 1048576 := by omega
  go_enter Try.func3, Try.ntmps3
  go_wp2_with fail
  refine (szItemS_c _ _ _ _ _ (by omega) (by omega)).mono ?_; rintro e w1 ⟨rfl, rfl⟩
  rw [if_pos n0]
  go_wp2_with fail
  refine (toItemS_c _ _ _ _ h0 m0).mono ?_
  rintro e w1 ⟨rfl, ho1, hb1⟩
  have T1 : Bel w w1 := hb1
  replace h0 := h0.keep hb1
  have S0 := Recs.of_own rfl ho1
  go_wp2_with fail
  refine (sFlexPasses_c _ _ _ _ _ _ S0 m0).mono ?_
  rintro e w2 ⟨rfl, hb2⟩
  have T2 : Bel w w2 := T1.trans hb2
  replace h0 := h0.keep hb2
  replace S0 := S0.keep hb2
  go_wp2_with fail
  refine (toItemS_c _ _ _ _ h0 m0).mono ?_
  rintro e w3 ⟨rfl, ho3, hb3⟩
  have T3 : Bel w w3 := T2.trans hb3
  replace h0 := h0.keep hb3
  replace S0 := S0.keep hb3
  have X0 := Recs.of_own rfl ho3
  go_wp2_with fail
  refine (iFlexPasses_c _ _ _ _ _ _ X0 m0).mono ?_
  rintro e w4 ⟨rfl, hb4⟩
  have T4 : Bel w w4 := T3.trans hb4
  replace h0 := h0.keep hb4
  replace S0 := S0.keep hb4
  replace X0 := X0.keep hb4
  go_wp2_with fail
  refine (toItemS_c _ _ _ _ h0 m0).mono ?_
  rintro e w5 ⟨rfl, ho5, hb5⟩
  have T5 : Bel w w5 := T4.trans hb5
  replace h0 := h0.keep hb5
  replace S0 := S0.keep hb5
  replace X0 := X0.keep hb5
  have Y0 := Recs.of_own rfl ho5
  go_wp2_with fail
  refine (eqItemS_c _ _ _ _ _ _ (X0) (Y0) m0).mono ?_
  rintro e w6 ⟨rfl, hb6⟩
  have T6 : Bel w w6 := T5.trans hb6
  replace h0 := h0.keep hb6
  replace S0 := S0.keep hb6
  replace X0 := X0.keep hb6
  replace Y0 := Y0.keep hb6
  go_wp2_with fail
  go_ret
  exact ⟨by simp, T6⟩

set_option maxRecDepth 100000 in
theorem ExactFlexPasses_lifted (os : Os) (started : os.Started) (H : Type) (enc : TypeId × Value → H) :
    ReturnsInHanded {} Try.checked os 3 .any (Rows.fnExactFlexPassesSpec.pre6 enc Try.prog Try.f3 Rows.fnExactFlexPassesRow.domain false) (Rows.fnExactFlexPassesSpec.post enc Try.prog Try.f3 false true false false) := by
  refine law_lifted (C := Try.checked) (tb := 4) own started (by kernel_rfl) Try.func3 laidOut rfl rfl Try.underlying4 (by kernel_rfl)
    (fun ds h => match ds, h with | [_, _, _], _ => rfl)
    (ChangeSpec.witness6 (enc := enc) (C := Try.checked) false ⟨#[], #[.slice none 0 0, .int .i64 0, .int .i64 0], []⟩ 8 (by kernel_rfl) (by kernel_rfl) (by kernel_rfl) (by kernel_rfl)) ?_
  intro W base args ds ps hval0 hA0
  have hval : ∀ (j : Nat) t v, Try.f3.params[j]? = some t → args[j]? = some v → Value.okWide Try.prog W .any base t v := hval0
  have hA : DataW.TrodAll enc Try.prog W 0 (fun _ => true) true Try.f3.params.toList args.toList ds ps := hA0
  clear hval0 hA0
  rw [Try.params3] at hA hval
  obtain ⟨v0, v1, v2, d0, d1, d2, p0, p1, p2, rfl, rfl, rfl, g0, g1, g2⟩ := trodAll_three hA
  obtain ⟨A0, c0, z0, rfl, k0, k0', -, h0⟩ := open_recsV Try.underlying22 (ts := [3, 3, 3, 3, 3, 3, 3, 4, 4]) (ks := k_item) (by kernel_rfl) (by kernel_rfl) (by kernel_rfl) (by decide) (hval 0 22 v0 rfl rfl) g0
  obtain ⟨n1, i1, rfl⟩ := open_num Try.underlying3 (hval 1 3 v1 rfl rfl) g1
  obtain ⟨n2, i2, rfl⟩ := open_num Try.underlying3 (hval 2 3 v2 rfl rfl) g2
  exact lawFlexPasses_c _ _ _ _ _ W h0 (by unfold maxLen at k0'; omega) i1 i2

theorem ExactFlexPasses_holds : Rows.FnExactFlexPassesSaid :=
  OpenClaim.holds_of_wide 3 Try.f3 rfl rfl rfl rfl rfl rfl rfl ⟨rfl, rfl, rfl, rfl, rfl⟩ rfl rfl rfl rfl rfl (by kernel_rfl) Try.func3 (by kernel_rfl)
    (of_decide_eq_true (by kernel_rfl)) (by unfold Func.isWrapper; first | (rw [if_pos (by decide +kernel)]; kernel_rfl) | (rw [if_neg (by decide +kernel)]; exact ⟨rfl, rfl⟩))
    (fun os started H enc _ => ExactFlexPasses_lifted os started H enc)
#print axioms ExactFlexPasses_holds
end Go.Proofs.Ytmipjhnjlpmidaa
