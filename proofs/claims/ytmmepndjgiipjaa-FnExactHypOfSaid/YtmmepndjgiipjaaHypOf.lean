/- The law FnExactHypOf returns true for every argument, and leaves its arguments as they were. No condition. -/
import Derived.Test.YtmmepndjgiipjaaItem
import Derived.OpenShut
namespace Go.Proofs.Ytmmepndjgiipjaa
open Go.ChangeShapes Go.WideShapes Go.ChangeAt Go.RowKit

theorem own : ownKnob Try.prog.godebug = none := by kernel_rfl
theorem laidOut : laidOutB Try.prog = true := by kernel_rfl

set_option maxHeartbeats 400000 in
theorem lawHypOf_c (a b c d e f g : Int) (h i : Bool) (w : World) : Calls Try.prog 10 #[itemV a b c d e f g h i] w fun r w' => r = .returned (.bool true) ∧ Bel w w' := by
  go_enter Try.func10, Try.ntmps10
  go_wp2_with fail
  refine (toItem_c _ _ _ _ _ _ _ _ _ _).mono ?_; rintro e w1 ⟨rfl, hb1⟩
  obtain ⟨hc1, -, hz1⟩ := hb1.open_
  have hl1 : w.heap.size < w1.heap.size := by simp at hz1; omega
  go_wp2_with fail
  refine (sHypOf_c _ _ _ _ _ _ _ _ _ _).mono ?_; rintro e w2 ⟨rfl, hb2⟩
  obtain ⟨hc2, -, hz2⟩ := hb2.open_
  go_wp2_with fail
  refine (toItem_c _ _ _ _ _ _ _ _ _ _).mono ?_; rintro e w3 ⟨rfl, hb3⟩
  go_wp2_with fail
  refine (iHypOf_c _ _ _ _ _ _ _ _ _ _).mono ?_; rintro e w4 ⟨rfl, hb4⟩
  go_wp2_with fail
  all_goals (go_ret; refine ⟨by simp [*], ?_⟩)
  all_goals
    repeat (first | exact Bel.refl _ | assumption | refine Bel.alloc ?_ _ | refine Bel.drew ?_ | refine Bel.drewN ?_ _ | refine Bel.trans ?_ (by assumption) | refine Bel.setCell ?_ (by first | (simp; done) | (simp; omega) | (simp at *; omega)) _)

set_option maxRecDepth 100000 in
theorem ExactHypOf_lifted (os : Os) (started : os.Started) (H : Type) (enc : TypeId × Value → H) :
    ReturnsInHanded {} Try.checked os 10 .any (Rows.fnExactHypOfSpec.pre6 enc Try.prog Try.f10 Rows.fnExactHypOfRow.domain false) (Rows.fnExactHypOfSpec.post enc Try.prog Try.f10 false true false false) := by
  refine law_lifted (C := Try.checked) (tb := 4) own started (by kernel_rfl) Try.func10 laidOut rfl rfl Try.underlying4 (by kernel_rfl)
    (fun ds h => match ds, h with | [_], _ => rfl)
    (ChangeSpec.witness6 (enc := enc) (C := Try.checked) false ⟨#[], #[itemV 0 0 0 0 0 0 0 false false], []⟩ 8 (by kernel_rfl) (by kernel_rfl) (by kernel_rfl) (by kernel_rfl)) ?_
  intro W base args ds ps hval0 hA0
  have hval : ∀ (j : Nat) t v, Try.f10.params[j]? = some t → args[j]? = some v → Value.okWide Try.prog W .any base t v := hval0
  have hA : DataW.TrodAll enc Try.prog W 0 (fun _ => true) true Try.f10.params.toList args.toList ds ps := hA0
  clear hval0 hA0
  rw [Try.params10] at hA hval
  obtain ⟨v0, d0, rfl, rfl, h0⟩ := trodAll_one hA
  obtain ⟨s, b, -, rfl⟩ := open_flat 5 Try.underlying35 (ts := [3, 3, 3, 3, 3, 3, 3, 4, 4]) (ks := [true, true, true, true, true, true, true, false, false]) (by kernel_rfl) (by kernel_rfl) (hval 0 35 v0 rfl rfl) h0
  exact lawHypOf_c _ _ _ _ _ _ _ _ _ W

theorem ExactHypOf_holds : Rows.FnExactHypOfSaid :=
  OpenClaim.holds_of_wide 10 Try.f10 rfl rfl rfl rfl rfl rfl rfl ⟨rfl, rfl, rfl, rfl, rfl⟩ rfl rfl rfl rfl rfl (by kernel_rfl) Try.func10 (by kernel_rfl)
    (of_decide_eq_true (by kernel_rfl)) (by unfold Func.isWrapper; first | (rw [if_pos (by decide +kernel)]; kernel_rfl) | (rw [if_neg (by decide +kernel)]; exact ⟨rfl, rfl⟩))
    (fun os started H enc _ => ExactHypOf_lifted os started H enc)
#print axioms ExactHypOf_holds
end Go.Proofs.Ytmmepndjgiipjaa
