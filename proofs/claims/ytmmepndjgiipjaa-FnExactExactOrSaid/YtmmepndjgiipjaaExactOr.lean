/- The law FnExactExactOr returns true for every argument, and leaves its arguments as they were. No condition. -/
import Derived.Test.YtmmepndjgiipjaaSpace
import Derived.OpenShut
namespace Go.Proofs.Ytmmepndjgiipjaa
open Go.ChangeShapes Go.WideShapes Go.ChangeAt Go.RowKit

theorem own : ownKnob Try.prog.godebug = none := by kernel_rfl
theorem laidOut : laidOutB Try.prog = true := by kernel_rfl

set_option maxHeartbeats 400000 in
theorem lawExactOr_c (k m n : Int) (w : World) : Calls Try.prog 14 #[.int .i64 k, spaceV m n] w fun r w' => r = .returned (.bool true) ∧ Bel w w' := by
  go_enter Try.func14, Try.ntmps14
  go_wp2_with fail
  refine (toSpace_c _ _ _).mono ?_; rintro e w1 ⟨rfl, hb1⟩
  obtain ⟨hc1, -, hz1⟩ := hb1.open_
  have hl1 : w.heap.size < w1.heap.size := by (try simp at hz1); omega
  go_wp2_with fail
  refine (sExactOr_c _ _ _ _).mono ?_; rintro e w2 ⟨rfl, hb2⟩
  obtain ⟨hc2, -, hz2⟩ := hb2.open_
  have hl2 : w.heap.size < w2.heap.size := by (try simp at hz2); omega
  go_wp2_with fail
  refine (toSpace_c _ _ _).mono ?_; rintro e w3 ⟨rfl, hb3⟩
  obtain ⟨hc3, -, hz3⟩ := hb3.open_
  have hl3 : w.heap.size < w3.heap.size := by (try simp at hz3); omega
  have hl32 : w2.heap.size < w3.heap.size := by (try simp at hz3); omega
  go_wp2_with fail
  refine (iExactOr_c _ _ _ _).mono ?_; rintro e w4 ⟨rfl, hb4⟩
  obtain ⟨hc4, -, hz4⟩ := hb4.open_
  have hl42 : w2.heap.size < w4.heap.size := by (try simp at hz4); omega
  go_wp2_with fail
  refine (eqSpace_c _ _ _ _ _).mono ?_; rintro e w5 ⟨rfl, hb5⟩
  go_wp2_with fail
  all_goals (go_ret; refine ⟨by simp [*], ?_⟩)
  all_goals
    repeat (first | exact Bel.refl _ | assumption | refine Bel.alloc ?_ _ | refine Bel.drew ?_ | refine Bel.drewN ?_ _ | refine Bel.trans ?_ (by assumption) | refine Bel.setCell ?_ (by first | (simp; done) | (simp; omega) | (simp at *; omega)) _)

set_option maxRecDepth 100000 in
theorem ExactExactOr_lifted (os : Os) (started : os.Started) (H : Type) (enc : TypeId × Value → H) :
    ReturnsInHanded {} Try.checked os 14 .any (Rows.fnExactExactOrSpec.pre6 enc Try.prog Try.f14 Rows.fnExactExactOrRow.domain false) (Rows.fnExactExactOrSpec.post enc Try.prog Try.f14 false true false false) := by
  refine law_lifted (C := Try.checked) (tb := 4) own started (by kernel_rfl) Try.func14 laidOut rfl rfl Try.underlying4 (by kernel_rfl)
    (fun ds h => match ds, h with | [_, _], _ => rfl)
    (ChangeSpec.witness6 (enc := enc) (C := Try.checked) false ⟨#[], #[.int .i64 0, spaceV 0 0], []⟩ 8 (by kernel_rfl) (by kernel_rfl) (by kernel_rfl) (by kernel_rfl)) ?_
  intro W base args ds ps hval0 hA0
  have hval : ∀ (j : Nat) t v, Try.f14.params[j]? = some t → args[j]? = some v → Value.okWide Try.prog W .any base t v := hval0
  have hA : DataW.TrodAll enc Try.prog W 0 (fun _ => true) true Try.f14.params.toList args.toList ds ps := hA0
  clear hval0 hA0
  rw [Try.params14] at hA hval
  obtain ⟨v0, v1, d0, d1, p0, p1, rfl, rfl, rfl, h0, h1⟩ := trodAll_two hA
  obtain ⟨s, b, -, rfl⟩ := open_flat 5 Try.underlying29 (ts := [3, 3]) (ks := [true, true]) (by kernel_rfl) (by kernel_rfl) (hval 1 29 v1 rfl rfl) h1
  obtain ⟨k, -, rfl⟩ := open_num Try.underlying3 (hval 0 3 v0 rfl rfl) h0
  exact lawExactOr_c _ _ _ W

theorem ExactExactOr_holds : Rows.FnExactExactOrSaid :=
  OpenClaim.holds_of_wide 14 Try.f14 rfl rfl rfl rfl rfl rfl rfl ⟨rfl, rfl, rfl, rfl, rfl⟩ rfl rfl rfl rfl rfl (by kernel_rfl) Try.func14 (by kernel_rfl)
    (of_decide_eq_true (by kernel_rfl)) (by unfold Func.isWrapper; first | (rw [if_pos (by decide +kernel)]; kernel_rfl) | (rw [if_neg (by decide +kernel)]; exact ⟨rfl, rfl⟩))
    (fun os started H enc _ => ExactExactOr_lifted os started H enc)
#print axioms ExactExactOr_holds
end Go.Proofs.Ytmmepndjgiipjaa
