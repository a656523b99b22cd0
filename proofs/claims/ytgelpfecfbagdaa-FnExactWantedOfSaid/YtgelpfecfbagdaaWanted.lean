/- WantedOf and RoomsOf, both texts. -/
import Derived.Test.YtgelpfecfbagdaaRuleFn
import Derived.Test.YtgelpfecfbagdaaMark
import Derived.Deep.RegionWith
namespace Go.Proofs.Ytgelpfecfbagdaa
open Go.RowKit Go.ChangeShapes Go.WideShapes
set_option linter.unusedVariables false
set_option linter.unusedSimpArgs false

set_option maxHeartbeats 1000000 in
theorem sWantedOf_c (A : Option Addr) (c : Nat) (L : List Rec) (room : Int) (w : World) (h : Recs w A k_rule L) (hn : L.length ≤ 1048576) :
    Calls Try.prog 25 #[tableV A L.length c, .int .i64 room] w fun r w' => r = .returned (.tuple #[.int .i64 (clamped ((ruleFor L room).1.s 1)), .int .i64 (clamped ((ruleFor L room).1.s 2))]) ∧ Bel w w' := by
  go_enter Try.func25, Try.ntmps25
  go_wp2_with fail
  refine (sRuleFor_c _ _ _ _ _ (h.keep ?_) hn).mono ?_
  · repeat (first | exact Bel.refl _ | assumption | refine Bel.alloc ?_ _ | refine Bel.drew ?_ | refine Bel.drewN ?_ _ | refine Bel.trans ?_ (by assumption) | refine Bel.setCell ?_ (by first | (simp; done) | (simp; omega) | (simp at *; omega)) _)
  rintro e w1 ⟨rfl, hb1⟩
  obtain ⟨hc1, hf1, hz1⟩ := hb1.open_
  go_wp2_with fail
  go_region_with (go_at_call 57; refine (sClamped_c _ _).mono ?_; rintro e w' ⟨rfl, rfl⟩)
  all_goals
    go_wp2_with fail
    refine bodyPost_ret (v := .tuple #[.int .i64 (clamped ((ruleFor L room).1.s 1)), .int .i64 (clamped ((ruleFor L room).1.s 2))]) (by simp [results, Try.results25, go_sem]) rfl ⟨rfl, ?_⟩
    repeat (first | exact ((Bel.refl w).alloc _).trans hb1 | refine Bel.drewN ?_ _ | refine Bel.drew ?_ | refine Bel.alloc ?_ _ | refine Bel.setCell ?_ (by simp; try omega) _)
theorem ruleFor_none' {L : List Rec} {room : Int} (h : (ruleFor L room).2 = false) : (ruleFor L room).1 = Rec.zero := by
  unfold ruleFor at h ⊢
  split at h <;> simp_all
theorem clamped_zero : clamped 0 = 0 := by simp [clamped, brought]
set_option maxHeartbeats 1000000 in
theorem iWantedOf_c (A : Option Addr) (c : Nat) (L : List Rec) (room : Int) (w : World) (h : Recs w A k_rule L) (hn : L.length ≤ 1048576) :
    Calls Try.prog 26 #[tableV A L.length c, .int .i64 room] w fun r w' => r = .returned (.tuple #[.int .i64 (clamped ((ruleFor L room).1.s 1)), .int .i64 (clamped ((ruleFor L room).1.s 2))]) ∧ Bel w w' := by
  cases hr : (ruleFor L room).2 with
  | false =>
    have HZ := Lib.hid (ruleFor_none' hr)
    go_enter Try.func26, Try.ntmps26
    go_wp2_with fail
    refine (iRuleFor_c _ _ _ _ _ (h.keep ?_) hn).mono ?_
    · repeat (first | exact Bel.refl _ | assumption | refine Bel.alloc ?_ _ | refine Bel.drew ?_ | refine Bel.drewN ?_ _ | refine Bel.trans ?_ (by assumption) | refine Bel.setCell ?_ (by first | (simp; done) | (simp; omega) | (simp at *; omega)) _)
    rintro e w1 ⟨rfl, hb1⟩
    obtain ⟨hc1, hf1, hz1⟩ := hb1.open_
    go_wp2_with fail
    refine bodyPost_ret (v := .tuple #[.int .i64 0, .int .i64 0]) (by simp [results, Try.results26, go_sem]) rfl ⟨by rw [HZ.out]; show _ = Ending.returned (.tuple #[.int .i64 (clamped 0), .int .i64 (clamped 0)]); rw [clamped_zero], ?_⟩
    repeat (first | exact ((Bel.refl w).alloc _).trans hb1 | refine Bel.drewN ?_ _ | refine Bel.drew ?_ | refine Bel.alloc ?_ _ | refine Bel.setCell ?_ (by simp; try omega) _)
  | true =>
    go_enter Try.func26, Try.ntmps26
    go_wp2_with fail
    refine (iRuleFor_c _ _ _ _ _ (h.keep ?_) hn).mono ?_
    · repeat (first | exact Bel.refl _ | assumption | refine Bel.alloc ?_ _ | refine Bel.drew ?_ | refine Bel.drewN ?_ _ | refine Bel.trans ?_ (by assumption) | refine Bel.setCell ?_ (by first | (simp; done) | (simp; omega) | (simp at *; omega)) _)
    rintro e w1 ⟨rfl, hb1⟩
    obtain ⟨hc1, hf1, hz1⟩ := hb1.open_
    go_wp2_with fail
    go_region_with (go_at_call 58; refine (iClamped_c _ _).mono ?_; rintro e w' ⟨rfl, rfl⟩)
    all_goals
      go_wp2_with fail
      refine bodyPost_ret (v := .tuple #[.int .i64 (clamped ((ruleFor L room).1.s 1)), .int .i64 (clamped ((ruleFor L room).1.s 2))]) (by simp [results, Try.results26, go_sem]) rfl ⟨rfl, ?_⟩
      repeat (first | exact ((Bel.refl w).alloc _).trans hb1 | refine Bel.drewN ?_ _ | refine Bel.drew ?_ | refine Bel.alloc ?_ _ | refine Bel.setCell ?_ (by simp; try omega) _)
end Go.Proofs.Ytgelpfecfbagdaa
