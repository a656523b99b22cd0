/- The law FnExactSideOk returns true for every argument, and leaves its arguments as they were. No condition. -/
import Derived.Test.YtmmepndjgiipjaaSides
import Derived.OpenShut
namespace Go.Proofs.Ytmmepndjgiipjaa
open Go.ChangeShapes Go.WideShapes Go.ChangeAt Go.RowKit

theorem own : ownKnob Try.prog.godebug = none := by kernel_rfl
theorem laidOut : laidOutB Try.prog = true := by kernel_rfl

set_option maxHeartbeats 400000 in
theorem lawSideOk_c (a b c : Int) (d e : Bool) (f g : Int) (w : World) : Calls Try.prog 6 #[sideV a b c d e f g] w fun r w' => r = .returned (.bool true) ∧ Bel w w' := by
  go_enter Try.func6, Try.ntmps6
  go_wp2_with fail
  refine (toSide_c _ _ _ _ _ _ _ _).mono ?_; rintro e w1 ⟨rfl, hb1⟩
  obtain ⟨hc1, -, hz1⟩ := hb1.open_
  have hl1 : w.heap.size < w1.heap.size := by simp at hz1; omega
  go_wp2_with fail
  refine (sSideOk_c _ _ _ _ _ _ _ _).mono ?_; rintro e w2 ⟨rfl, hb2⟩
  obtain ⟨hc2, -, hz2⟩ := hb2.open_
  go_wp2_with fail
  refine (toSide_c _ _ _ _ _ _ _ _).mono ?_; rintro e w3 ⟨rfl, hb3⟩
  go_wp2_with fail
  refine (iSideOk_c _ _ _ _ _ _ _ _).mono ?_; rintro e w4 ⟨rfl, hb4⟩
  go_wp2_with fail
  all_goals (go_ret; refine ⟨by simp [*], ?_⟩)
  all_goals
    repeat (first | exact Bel.refl _ | assumption | refine Bel.alloc ?_ _ | refine Bel.drew ?_ | refine Bel.drewN ?_ _ | refine Bel.trans ?_ (by assumption) | refine Bel.setCell ?_ (by first | (simp; done) | (simp; omega) | (simp at *; omega)) _)

set_option maxRecDepth 100000 in
theorem ExactSideOk_lifted (os : Os) (started : os.Started) (H : Type) (enc : TypeId × Value → H) :
    ReturnsInHanded {} Try.checked os 6 .any (Rows.fnExactSideOkSpec.pre6 enc Try.prog Try.f6 Rows.fnExactSideOkRow.domain false) (Rows.fnExactSideOkSpec.post enc Try.prog Try.f6 false true false false) := by
  refine law_lifted (C := Try.checked) (tb := 4) own started (by kernel_rfl) Try.func6 laidOut rfl rfl Try.underlying4 (by kernel_rfl)
    (fun ds h => match ds, h with | [_], _ => rfl)
    (ChangeSpec.witness6 (enc := enc) (C := Try.checked) false ⟨#[], #[sideV 0 0 0 false false 0 0], []⟩ 8 (by kernel_rfl) (by kernel_rfl) (by kernel_rfl) (by kernel_rfl)) ?_
  intro W base args ds ps hval0 hA0
  have hval : ∀ (j : Nat) t v, Try.f6.params[j]? = some t → args[j]? = some v → Value.okWide Try.prog W .any base t v := hval0
  have hA : DataW.TrodAll enc Try.prog W 0 (fun _ => true) true Try.f6.params.toList args.toList ds ps := hA0
  clear hval0 hA0
  rw [Try.params6] at hA hval
  obtain ⟨v0, d0, rfl, rfl, h0⟩ := trodAll_one hA
  obtain ⟨s, b, -, rfl⟩ := open_flat 5 Try.underlying23 (ts := [3, 3, 3, 4, 4, 3, 3]) (ks := [true, true, true, false, false, true, true]) (by kernel_rfl) (by kernel_rfl) (hval 0 23 v0 rfl rfl) h0
  exact lawSideOk_c _ _ _ _ _ _ _ W

theorem ExactSideOk_holds : Rows.FnExactSideOkSaid :=
  OpenClaim.holds_of_wide 6 Try.f6 rfl rfl rfl rfl rfl rfl rfl ⟨rfl, rfl, rfl, rfl, rfl⟩ rfl rfl rfl rfl rfl (by kernel_rfl) Try.func6 (by kernel_rfl)
    (of_decide_eq_true (by kernel_rfl)) (by unfold Func.isWrapper; first | (rw [if_pos (by decide +kernel)]; kernel_rfl) | (rw [if_neg (by decide +kernel)]; exact ⟨rfl, rfl⟩))
    (fun os started H enc _ => ExactSideOk_lifted os started H enc)
#print axioms ExactSideOk_holds
end Go.Proofs.Ytmmepndjgiipjaa
