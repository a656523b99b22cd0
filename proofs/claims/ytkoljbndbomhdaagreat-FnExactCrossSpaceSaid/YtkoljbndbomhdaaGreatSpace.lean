/- The functions on one space: what each returns. -/
import Derived.Test.YtkoljbndbomhdaaGreatNum
namespace Go.Proofs.YtkoljbndbomhdaaGreat
open Go.RowKit

abbrev spaceV (m n : Int) : Value := .agg #[.int .i64 m, .int .i64 n]
def spaceOk (m n : Int) : Bool := if m == 1 then n == 0 else inB m 2 3 && inB n 0 1048576
def roomOf (m n : Int) : Int := if m = 2 ∨ m = 3 then n else -1
def loosened (m : Int) : Int := if m = 3 then 2 else m
def taken (m n k : Int) : Int := if m = 3 ∨ (m = 2 ∧ n < k) then clamped n else clamped k
def innerOf (m n less : Int) : Int := if m = 1 then n else clamped (clamped n - clamped less)
def exactOrM (k m : Int) : Int := if k = -1 then m else 3
def exactOrN (k n : Int) : Int := if k = -1 then n else clamped k

set_option maxRecDepth 100000 in
set_option maxHeartbeats 400000 in
theorem toSpace_c (m n : Int) (w : World) :
    Calls Tryz.prog 8 #[spaceV m n] w fun r w' => r = .returned (spaceV m n) ∧ Bel w w' := by
  go_enter Tryz.func8, Tryz.ntmps8
  go_wp2
  refine bodyPost_ret (v := spaceV m n) (by simp [results, Tryz.results8, go_sem]) rfl ⟨rfl, ?_⟩
  repeat (first | exact Bel.refl _ | assumption | refine Bel.alloc ?_ _ | refine Bel.drew ?_ | refine Bel.drewN ?_ _ | refine Bel.trans ?_ (by assumption) | refine Bel.setCell ?_ (by first | (simp; done) | (simp; omega) | (simp at *; omega)) _)
set_option maxRecDepth 100000 in
set_option maxHeartbeats 400000 in
theorem eqSpace_c (m n m' n' : Int) (w : World) : Calls Tryz.prog 10 #[spaceV m n, spaceV m' n'] w fun r w' => r = .returned (.bool (m == m' && n == n')) ∧ Bel w w' := by
  go_enter Tryz.func10, Tryz.ntmps10
  go_wp2_with (fail)
  all_goals (go_ret; refine ⟨by simp_all, ?_⟩)
  all_goals
    repeat (first | exact Bel.refl _ | assumption | refine Bel.alloc ?_ _ | refine Bel.drew ?_ | refine Bel.drewN ?_ _ | refine Bel.trans ?_ (by assumption) | refine Bel.setCell ?_ (by first | (simp; done) | (simp; omega) | (simp at *; omega)) _)
set_option maxRecDepth 100000 in
set_option maxHeartbeats 400000 in
theorem iSpaceOk_c (m n : Int) (w : World) : Calls Tryz.prog 34 #[spaceV m n] w fun r w' => r = .returned (.bool (spaceOk m n)) ∧ Bel w w' := by
  go_enter Tryz.func34, Tryz.ntmps34
  go_wp2_with (go_at_call 58; refine (in_c _ _ _ _).mono ?_; rintro e w' ⟨rfl, rfl⟩)
  all_goals (go_ret; refine ⟨by (first | (simp_all [spaceOk, inB]; done) | (simp_all [spaceOk, inB]; omega)), ?_⟩)
  all_goals
    repeat (first | exact Bel.refl _ | assumption | refine Bel.alloc ?_ _ | refine Bel.drew ?_ | refine Bel.drewN ?_ _ | refine Bel.trans ?_ (by assumption) | refine Bel.setCell ?_ (by first | (simp; done) | (simp; omega) | (simp at *; omega)) _)
set_option maxRecDepth 100000 in
set_option maxHeartbeats 400000 in
theorem sSpaceOk_c (m n : Int) (w : World) : Calls Tryz.prog 24 #[spaceV m n] w fun r w' => r = .returned (.bool (spaceOk m n)) ∧ Bel w w' := by
  go_enter Tryz.func24, Tryz.ntmps24
  go_wp2_with (go_at_call 46; refine (l01In_c _ _ _ _).mono ?_; rintro e w' ⟨rfl, rfl⟩)
  all_goals (go_ret; refine ⟨by (first | (simp_all [spaceOk, inB]; done) | (simp_all [spaceOk, inB]; omega)), ?_⟩)
  all_goals
    repeat (first | exact Bel.refl _ | assumption | refine Bel.alloc ?_ _ | refine Bel.drew ?_ | refine Bel.drewN ?_ _ | refine Bel.trans ?_ (by assumption) | refine Bel.setCell ?_ (by first | (simp; done) | (simp; omega) | (simp at *; omega)) _)
set_option maxRecDepth 100000 in
set_option maxHeartbeats 400000 in
theorem iInnerOf_c (m n k : Int) (w : World) : Calls Tryz.prog 38 #[spaceV m n, .int .i64 k] w fun r w' => r = .returned (spaceV m (innerOf m n k)) ∧ Bel w w' := by
  have b1 := clamped_bd n
  have b2 := clamped_bd k
  go_enter Tryz.func38, Tryz.ntmps38
  go_wp2_with (go_at_call 63; refine (iClamped_c _ _).mono ?_; rintro e w' ⟨rfl, rfl⟩)
  all_goals refine bodyPost_ret (v := spaceV m (innerOf m n k)) (by simp_all [results, Tryz.results38, go_sem, innerOf]) rfl ⟨rfl, ?_⟩
  all_goals
    repeat (first | exact Bel.refl _ | assumption | refine Bel.alloc ?_ _ | refine Bel.drew ?_ | refine Bel.drewN ?_ _ | refine Bel.trans ?_ (by assumption) | refine Bel.setCell ?_ (by first | (simp; done) | (simp; omega) | (simp at *; omega)) _)
set_option maxRecDepth 100000 in
set_option maxHeartbeats 400000 in
theorem sInnerOf_c (m n k : Int) (w : World) : Calls Tryz.prog 28 #[spaceV m n, .int .i64 k] w fun r w' => r = .returned (spaceV m (innerOf m n k)) ∧ Bel w w' := by
  have b1 := clamped_bd n
  have b2 := clamped_bd k
  go_enter Tryz.func28, Tryz.ntmps28
  go_wp2_with (go_at_call 50; refine (sClamped_c _ _).mono ?_; rintro e w' ⟨rfl, rfl⟩)
  all_goals refine bodyPost_ret (v := spaceV m (innerOf m n k)) (by simp_all [results, Tryz.results28, go_sem, innerOf]) rfl ⟨rfl, ?_⟩
  all_goals
    repeat (first | exact Bel.refl _ | assumption | refine Bel.alloc ?_ _ | refine Bel.drew ?_ | refine Bel.drewN ?_ _ | refine Bel.trans ?_ (by assumption) | refine Bel.setCell ?_ (by first | (simp; done) | (simp; omega) | (simp at *; omega)) _)
end Go.Proofs.YtkoljbndbomhdaaGreat
