/- The law FnExactCrossTotal returns true for every argument, and leaves its arguments as they were. No condition. -/
import Derived.Test.YtgelpfecfbagdaaLead
import Derived.OpenShut
namespace Go.Proofs.Ytgelpfecfbagdaa
open Go.ChangeShapes Go.WideShapes Go.ChangeAt Go.RowKit

theorem own : ownKnob Try.prog.godebug = none := by kernel_rfl
theorem laidOut : laidOutB Try.prog = true := by kernel_rfl

set_option maxHeartbeats 1000000 in
theorem lawCrossTotal_c (A : Option Addr) (c : Nat) (zs : List Int) (gap : Int) (w : World) (h : Ints w A zs) :
    Calls Try.prog 8 #[.slice A zs.length c, .int .i64 gap] w fun r w' => r = .returned (.bool true) ∧ Bel w w' := by
  by_cases hn : zs.length ≤ 1048576
  · go_enter Try.func8, Try.ntmps8
    go_wp2_with fail
    refine (toIntS_c _ _ _ _ h hn).mono ?_; rintro e w1 ⟨rfl, ho1, hb1⟩
    go_wp2_with fail
    refine (sCrossTotal_c _ _ _ _ _ (Ints.of_own ho1) hn).mono ?_; rintro e w2 ⟨rfl, hb2⟩
    go_wp2_with fail
    refine (toIntS_c _ _ _ _ ((h.keep hb1).keep hb2) hn).mono ?_; rintro e w3 ⟨rfl, ho3, hb3⟩
    go_wp2_with fail
    refine (iCrossTotal_c _ _ _ _ _ (Ints.of_own ho3) hn).mono ?_; rintro e w4 ⟨rfl, hb4⟩
    go_wp2_with fail
    refine (toIntS_c _ _ _ _ ((((h.keep hb1).keep hb2).keep hb3).keep hb4) hn).mono ?_; rintro e w5 ⟨rfl, ho5, hb5⟩
    go_wp2_with fail
    refine (eqIntS_c _ _ _ _ _ _ _ (((Ints.of_own ho3).keep hb4).keep hb5) (Ints.of_own ho5) hn hn).mono ?_; rintro e w6 ⟨rfl, hb6⟩
    go_wp2_with fail
    all_goals (go_ret; refine ⟨by simp [*], ?_⟩)
    all_goals
      repeat (first | exact Bel.refl _ | assumption | refine Bel.alloc ?_ _ | refine Bel.drew ?_ | refine Bel.drewN ?_ _ | refine Bel.trans ?_ (by assumption) | refine Bel.setCell ?_ (by first | (simp; done) | (simp; omega) | (simp at *; omega)) _)
  · have hgt : (1048576 : Int) < (zs.length : Int) := by omega
    go_enter Try.func8, Try.ntmps8
    go_wp2_with fail
    go_ret
    exact ⟨rfl, Bel.refl w⟩

set_option maxRecDepth 100000 in
theorem ExactCrossTotal_lifted (os : Os) (started : os.Started) (H : Type) (enc : TypeId × Value → H) :
    ReturnsInHanded {} Try.checked os 8 .any (Rows.fnExactCrossTotalSpec.pre6 enc Try.prog Try.f8 Rows.fnExactCrossTotalRow.domain false) (Rows.fnExactCrossTotalSpec.post enc Try.prog Try.f8 false true false false) := by
  refine law_lifted (C := Try.checked) (tb := 4) own started (by kernel_rfl) Try.func8 laidOut rfl rfl Try.underlying4 (by kernel_rfl)
    (fun ds h => match ds, h with | [_, _], _ => rfl)
    (ChangeSpec.witness6 (enc := enc) (C := Try.checked) false ⟨#[], #[.slice none 0 0, .int .i64 0], []⟩ 8 (by kernel_rfl) (by kernel_rfl) (by kernel_rfl) (by kernel_rfl)) ?_
  intro W base args ds ps hval0 hA0
  have hval : ∀ (j : Nat) t v, Try.f8.params[j]? = some t → args[j]? = some v → Value.okWide Try.prog W .any base t v := hval0
  have hA : DataW.TrodAll enc Try.prog W 0 (fun _ => true) true Try.f8.params.toList args.toList ds ps := hA0
  clear hval0 hA0
  rw [Try.params8] at hA hval
  obtain ⟨v0, v1, d0, d1, p0, p1, rfl, rfl, rfl, h0, h1⟩ := trodAll_two hA
  obtain ⟨A, c, zs, rfl, -, -, -, hI⟩ := open_intS Try.underlying42 Try.underlying3 (by kernel_rfl) (hval 0 42 v0 rfl rfl) h0
  obtain ⟨n1, -, rfl⟩ := open_num Try.underlying3 (hval 1 3 v1 rfl rfl) h1
  exact lawCrossTotal_c _ _ _ _ W hI

theorem ExactCrossTotal_holds : Rows.FnExactCrossTotalSaid :=
  OpenClaim.holds_of_wide 8 Try.f8 rfl rfl rfl rfl rfl rfl rfl ⟨rfl, rfl, rfl, rfl, rfl⟩ rfl rfl rfl rfl rfl (by kernel_rfl) Try.func8 (by kernel_rfl)
    (of_decide_eq_true (by kernel_rfl)) (by unfold Func.isWrapper; first | (rw [if_pos (by decide +kernel)]; kernel_rfl) | (rw [if_neg (by decide +kernel)]; exact ⟨rfl, rfl⟩))
    (fun os started H enc _ => ExactCrossTotal_lifted os started H enc)
#print axioms ExactCrossTotal_holds
end Go.Proofs.Ytgelpfecfbagdaa
