/- The law FnExactPlaceAcross returns true for every argument, and leaves its arguments as they were. No condition. -/
import Derived.Test.YtgelpfecfbagdaaSideOne
import Derived.OpenShut
namespace Go.Proofs.Ytgelpfecfbagdaa
open Go.ChangeShapes Go.WideShapes Go.ChangeAt Go.RowKit
set_option linter.unusedVariables false
set_option linter.unusedSimpArgs false

theorem own : ownKnob Try.prog.godebug = none := by kernel_rfl
theorem laidOut : laidOutB Try.prog = true := by kernel_rfl

set_option maxHeartbeats 1000000 in
theorem lawPlaceAcross_c (a b c : Int) (d e : Bool) (f g cross base : Int) (w : World) :
    Calls Try.prog 13 #[sideV a b c d e f g, .int .i64 cross, .int .i64 base] w fun r w' => r = .returned (.bool true) ∧ Bel w w' := by
  go_enter Try.func13, Try.ntmps13
  go_wp2_with fail
  refine (toSide_c _ _ _ _ _ _ _ _).mono ?_; rintro e w1 ⟨rfl, hb1⟩
  obtain ⟨hc1, -, hz1⟩ := hb1.open_
  have hl1 : w.heap.size < w1.heap.size := by (try simp at hz1); omega
  go_wp2_with fail
  refine (sPlaceAcross_c _ _ _ _ _ _ _ _ _ _).mono ?_; rintro e w2 ⟨rfl, hb2⟩
  obtain ⟨hc2, -, hz2⟩ := hb2.open_
  go_wp2_with fail
  refine (toSide_c _ _ _ _ _ _ _ _).mono ?_; rintro e w3 ⟨rfl, hb3⟩
  go_wp2_with fail
  refine (iPlaceAcross_c _ _ _ _ _ _ _ _ _ _).mono ?_; rintro e w4 ⟨rfl, hb4⟩
  go_wp2_with fail
  all_goals (go_ret; refine ⟨by simp [*], ?_⟩)
  all_goals
    repeat (first | exact Bel.refl _ | assumption | refine Bel.alloc ?_ _ | refine Bel.drew ?_ | refine Bel.drewN ?_ _ | refine Bel.trans ?_ (by assumption) | refine Bel.setCell ?_ (by first | (simp; done) | (simp; omega) | (simp at *; omega)) _)

set_option maxRecDepth 100000 in
theorem ExactPlaceAcross_lifted (os : Os) (started : os.Started) (H : Type) (enc : TypeId × Value → H) :
    ReturnsInHanded {} Try.checked os 13 .any (Rows.fnExactPlaceAcrossSpec.pre6 enc Try.prog Try.f13 Rows.fnExactPlaceAcrossRow.domain false) (Rows.fnExactPlaceAcrossSpec.post enc Try.prog Try.f13 false true false false) := by
  refine law_lifted (C := Try.checked) (tb := 4) own started (by kernel_rfl) Try.func13 laidOut rfl rfl Try.underlying4 (by kernel_rfl)
    (fun ds h => match ds, h with | [_, _, _], _ => rfl)
    (ChangeSpec.witness6 (enc := enc) (C := Try.checked) false ⟨#[], #[sideV 0 0 0 false false 0 0, .int .i64 0, .int .i64 0], []⟩ 8 (by kernel_rfl) (by kernel_rfl) (by kernel_rfl) (by kernel_rfl)) ?_
  intro W base args ds ps hval0 hA0
  have hval : ∀ (j : Nat) t v, Try.f13.params[j]? = some t → args[j]? = some v → Value.okWide Try.prog W .any base t v := hval0
  have hA : DataW.TrodAll enc Try.prog W 0 (fun _ => true) true Try.f13.params.toList args.toList ds ps := hA0
  clear hval0 hA0
  rw [Try.params13] at hA hval
  obtain ⟨v0, v1, v2, d0, d1, d2, p0, p1, p2, rfl, rfl, rfl, h0, h1, h2⟩ := trodAll_three hA
  obtain ⟨s, b, -, rfl⟩ := open_flat 5 Try.underlying61 (ts := [3, 3, 3, 4, 4, 3, 3]) (ks := [true, true, true, false, false, true, true]) (by kernel_rfl) (by kernel_rfl) (hval 0 61 v0 rfl rfl) h0
  obtain ⟨n1, -, rfl⟩ := open_num Try.underlying3 (hval 1 3 v1 rfl rfl) h1
  obtain ⟨n2, -, rfl⟩ := open_num Try.underlying3 (hval 2 3 v2 rfl rfl) h2
  exact lawPlaceAcross_c _ _ _ _ _ _ _ _ _ W

theorem ExactPlaceAcross_holds : Rows.FnExactPlaceAcrossSaid :=
  OpenClaim.holds_of_wide 13 Try.f13 rfl rfl rfl rfl rfl rfl rfl ⟨rfl, rfl, rfl, rfl, rfl⟩ rfl rfl rfl rfl rfl (by kernel_rfl) Try.func13 (by kernel_rfl)
    (of_decide_eq_true (by kernel_rfl)) (by unfold Func.isWrapper; first | (rw [if_pos (by decide +kernel)]; kernel_rfl) | (rw [if_neg (by decide +kernel)]; exact ⟨rfl, rfl⟩))
    (fun os started H enc _ => ExactPlaceAcross_lifted os started H enc)
#print axioms ExactPlaceAcross_holds
end Go.Proofs.Ytgelpfecfbagdaa
