/- The law FnExactLeadOf returns true for every argument, and leaves its arguments as they were. No condition. -/
import Derived.Test.YtgelpfecfbagdaaLead
import Derived.OpenShut
namespace Go.Proofs.Ytgelpfecfbagdaa
open Go.ChangeShapes Go.WideShapes Go.ChangeAt Go.RowKit

theorem own : ownKnob Try.prog.godebug = none := by kernel_rfl
theorem laidOut : laidOutB Try.prog = true := by kernel_rfl

set_option maxHeartbeats 1000000 in
theorem lawLeadOf_c (a b c : Int) (w : World) (ha : -9223372036854775808 ≤ a ∧ a ≤ 9223372036854775807) :
    Calls Try.prog 9 #[.int .i64 a, .int .i64 b, .int .i64 c] w fun r w' => r = .returned (.bool true) ∧ Bel w w' := by
  go_enter Try.func9, Try.ntmps9
  go_wp2_with fail
  refine (sLeadOf_c _ _ _ _ ha).mono ?_; rintro e w1 ⟨rfl, hb1⟩
  go_wp2_with fail
  refine (iLeadOf_c _ _ _ _ ha).mono ?_; rintro e w2 ⟨rfl, hb2⟩
  go_wp2_with fail
  all_goals (go_ret; refine ⟨by simp [*], ?_⟩)
  all_goals
    repeat (first | exact Bel.refl _ | assumption | refine Bel.alloc ?_ _ | refine Bel.drew ?_ | refine Bel.drewN ?_ _ | refine Bel.trans ?_ (by assumption) | refine Bel.setCell ?_ (by first | (simp; done) | (simp; omega) | (simp at *; omega)) _)

set_option maxRecDepth 100000 in
theorem ExactLeadOf_lifted (os : Os) (started : os.Started) (H : Type) (enc : TypeId × Value → H) :
    ReturnsInHanded {} Try.checked os 9 .any (Rows.fnExactLeadOfSpec.pre6 enc Try.prog Try.f9 Rows.fnExactLeadOfRow.domain false) (Rows.fnExactLeadOfSpec.post enc Try.prog Try.f9 false true false false) := by
  refine law_lifted (C := Try.checked) (tb := 4) own started (by kernel_rfl) Try.func9 laidOut rfl rfl Try.underlying4 (by kernel_rfl)
    (fun ds h => match ds, h with | [_, _, _], _ => rfl)
    (ChangeSpec.witness6 (enc := enc) (C := Try.checked) false ⟨#[], #[.int .i64 0, .int .i64 0, .int .i64 0], []⟩ 8 (by kernel_rfl) (by kernel_rfl) (by kernel_rfl) (by kernel_rfl)) ?_
  intro W base args ds ps hval0 hA0
  have hval : ∀ (j : Nat) t v, Try.f9.params[j]? = some t → args[j]? = some v → Value.okWide Try.prog W .any base t v := hval0
  have hA : DataW.TrodAll enc Try.prog W 0 (fun _ => true) true Try.f9.params.toList args.toList ds ps := hA0
  clear hval0 hA0
  rw [Try.params9] at hA hval
  obtain ⟨v0, v1, v2, d0, d1, d2, p0, p1, p2, rfl, rfl, rfl, h0, h1, h2⟩ := trodAll_three hA
  obtain ⟨n0, i0, rfl⟩ := open_num Try.underlying3 (hval 0 3 v0 rfl rfl) h0
  obtain ⟨n1, -, rfl⟩ := open_num Try.underlying3 (hval 1 3 v1 rfl rfl) h1
  obtain ⟨n2, -, rfl⟩ := open_num Try.underlying3 (hval 2 3 v2 rfl rfl) h2
  exact lawLeadOf_c _ _ _ W i0

theorem ExactLeadOf_holds : Rows.FnExactLeadOfSaid :=
  OpenClaim.holds_of_wide 9 Try.f9 rfl rfl rfl rfl rfl rfl rfl ⟨rfl, rfl, rfl, rfl, rfl⟩ rfl rfl rfl rfl rfl (by kernel_rfl) Try.func9 (by kernel_rfl)
    (of_decide_eq_true (by kernel_rfl)) (by unfold Func.isWrapper; first | (rw [if_pos (by decide +kernel)]; kernel_rfl) | (rw [if_neg (by decide +kernel)]; exact ⟨rfl, rfl⟩))
    (fun os started H enc _ => ExactLeadOf_lifted os started H enc)
#print axioms ExactLeadOf_holds
end Go.Proofs.Ytgelpfecfbagdaa
