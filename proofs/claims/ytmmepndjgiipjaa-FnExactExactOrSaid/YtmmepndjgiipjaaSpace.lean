/- The functions on one space: what each returns. -/
import Derived.Test.YtmmepndjgiipjaaNum
namespace Go.Proofs.Ytmmepndjgiipjaa
open Go.RowKit

abbrev spaceV (m n : Int) : Value := .agg #[.int .i64 m, .int .i64 n]
def spaceOk (m n : Int) : Bool := if m == 1 then n == 0 else inB m 2 3 && inB n 0 1048576
def roomOf (m n : Int) : Int := if m = 2 ∨ m = 3 then n else -1
def loosened (m : Int) : Int := if m = 3 then 2 else m
def taken (m n k : Int) : Int := if m = 3 ∨ (m = 2 ∧ n < k) then clamped n else clamped k
def innerOf (m n less : Int) : Int := if m = 1 then n else clamped (clamped n - clamped less)
def exactOrM (k m : Int) : Int := if k = -1 then m else 3
def exactOrN (k n : Int) : Int := if k = -1 then n else clamped k

set_option maxHeartbeats 400000 in
theorem toSpace_c (m n : Int) (w : World) :
    Calls Try.prog 21 #[spaceV m n] w fun r w' => r = .returned (spaceV m n) ∧ Bel w w' := by
  go_enter Try.func21, Try.ntmps21
  go_wp2
  refine bodyPost_ret (v := spaceV m n) (by simp [results, Try.results21, go_sem]) rfl ⟨rfl, ?_⟩
  repeat (first | exact Bel.refl _ | assumption | refine Bel.alloc ?_ _ | refine Bel.drew ?_ | refine Bel.drewN ?_ _ | refine Bel.trans ?_ (by assumption) | refine Bel.setCell ?_ (by first | (simp; done) | (simp; omega) | (simp at *; omega)) _)
set_option maxHeartbeats 400000 in
theorem eqSpace_c (m n m' n' : Int) (w : World) : Calls Try.prog 32 #[spaceV m n, spaceV m' n'] w fun r w' => r = .returned (.bool (m == m' && n == n')) ∧ Bel w w' := by
  go_enter Try.func32, Try.ntmps32
  go_wp2_with (fail)
  all_goals (go_ret; refine ⟨by simp_all, ?_⟩)
  all_goals
    repeat (first | exact Bel.refl _ | assumption | refine Bel.alloc ?_ _ | refine Bel.drew ?_ | refine Bel.drewN ?_ _ | refine Bel.trans ?_ (by assumption) | refine Bel.setCell ?_ (by first | (simp; done) | (simp; omega) | (simp at *; omega)) _)
set_option maxHeartbeats 400000 in
theorem iSpaceOk_c (m n : Int) (w : World) : Calls Try.prog 29 #[spaceV m n] w fun r w' => r = .returned (.bool (spaceOk m n)) ∧ Bel w w' := by
  go_enter Try.func29, Try.ntmps29
  go_wp2_with (go_at_call 47; refine (in_c _ _ _ _).mono ?_; rintro e w' ⟨rfl, rfl⟩)
  all_goals (go_ret; refine ⟨by (first | (simp_all [spaceOk, inB]; done) | (simp_all [spaceOk, inB]; omega)), ?_⟩)
  all_goals
    repeat (first | exact Bel.refl _ | assumption | refine Bel.alloc ?_ _ | refine Bel.drew ?_ | refine Bel.drewN ?_ _ | refine Bel.trans ?_ (by assumption) | refine Bel.setCell ?_ (by first | (simp; done) | (simp; omega) | (simp at *; omega)) _)
set_option maxHeartbeats 400000 in
theorem sSpaceOk_c (m n : Int) (w : World) : Calls Try.prog 28 #[spaceV m n] w fun r w' => r = .returned (.bool (spaceOk m n)) ∧ Bel w w' := by
  go_enter Try.func28, Try.ntmps28
  go_wp2_with (go_at_call 46; refine (l01In_c _ _ _ _).mono ?_; rintro e w' ⟨rfl, rfl⟩)
  all_goals (go_ret; refine ⟨by (first | (simp_all [spaceOk, inB]; done) | (simp_all [spaceOk, inB]; omega)), ?_⟩)
  all_goals
    repeat (first | exact Bel.refl _ | assumption | refine Bel.alloc ?_ _ | refine Bel.drew ?_ | refine Bel.drewN ?_ _ | refine Bel.trans ?_ (by assumption) | refine Bel.setCell ?_ (by first | (simp; done) | (simp; omega) | (simp at *; omega)) _)
set_option maxHeartbeats 400000 in
theorem iRoomOf_c (m n : Int) (w : World) : Calls Try.prog 22 #[spaceV m n] w fun r w' => r = .returned (.int .i64 (roomOf m n)) ∧ Bel w w' := by
  go_enter Try.func22, Try.ntmps22
  go_wp2
  all_goals (go_ret; refine ⟨by simp_all [roomOf], ?_⟩)
  all_goals
    repeat (first | exact Bel.refl _ | assumption | refine Bel.alloc ?_ _ | refine Bel.drew ?_ | refine Bel.drewN ?_ _ | refine Bel.trans ?_ (by assumption) | refine Bel.setCell ?_ (by first | (simp; done) | (simp; omega) | (simp at *; omega)) _)
set_option maxHeartbeats 400000 in
theorem sRoomOf_c (m n : Int) (w : World) : Calls Try.prog 20 #[spaceV m n] w fun r w' => r = .returned (.int .i64 (roomOf m n)) ∧ Bel w w' := by
  go_enter Try.func20, Try.ntmps20
  go_wp2
  all_goals (go_ret; refine ⟨by simp_all [roomOf], ?_⟩)
  all_goals
    repeat (first | exact Bel.refl _ | assumption | refine Bel.alloc ?_ _ | refine Bel.drew ?_ | refine Bel.drewN ?_ _ | refine Bel.trans ?_ (by assumption) | refine Bel.setCell ?_ (by first | (simp; done) | (simp; omega) | (simp at *; omega)) _)
set_option maxHeartbeats 400000 in
theorem iLoosened_c (m n : Int) (w : World) : Calls Try.prog 31 #[spaceV m n] w fun r w' => r = .returned (spaceV (loosened m) n) ∧ Bel w w' := by
  go_enter Try.func31, Try.ntmps31
  go_wp2
  all_goals refine bodyPost_ret (v := spaceV (loosened m) n) (by simp_all [results, Try.results31, go_sem, loosened]) rfl ⟨rfl, ?_⟩
  all_goals
    repeat (first | exact Bel.refl _ | assumption | refine Bel.alloc ?_ _ | refine Bel.drew ?_ | refine Bel.drewN ?_ _ | refine Bel.trans ?_ (by assumption) | refine Bel.setCell ?_ (by first | (simp; done) | (simp; omega) | (simp at *; omega)) _)
set_option maxHeartbeats 400000 in
theorem sLoosened_c (m n : Int) (w : World) : Calls Try.prog 30 #[spaceV m n] w fun r w' => r = .returned (spaceV (loosened m) n) ∧ Bel w w' := by
  go_enter Try.func30, Try.ntmps30
  go_wp2
  all_goals refine bodyPost_ret (v := spaceV (loosened m) n) (by simp_all [results, Try.results30, go_sem, loosened]) rfl ⟨rfl, ?_⟩
  all_goals
    repeat (first | exact Bel.refl _ | assumption | refine Bel.alloc ?_ _ | refine Bel.drew ?_ | refine Bel.drewN ?_ _ | refine Bel.trans ?_ (by assumption) | refine Bel.setCell ?_ (by first | (simp; done) | (simp; omega) | (simp at *; omega)) _)
set_option maxHeartbeats 400000 in
theorem iTaken_c (m n k : Int) (w : World) : Calls Try.prog 40 #[spaceV m n, .int .i64 k] w fun r w' => r = .returned (.int .i64 (taken m n k)) ∧ Bel w w' := by
  go_enter Try.func40, Try.ntmps40
  go_wp2_with (go_at_call 51; refine (iClamped_c _ _).mono ?_; rintro e w' ⟨rfl, rfl⟩)
  all_goals (go_ret; refine ⟨by (first | (simp_all [taken]; done) | (simp_all [taken]; omega)), ?_⟩)
  all_goals
    repeat (first | exact Bel.refl _ | assumption | refine Bel.alloc ?_ _ | refine Bel.drew ?_ | refine Bel.drewN ?_ _ | refine Bel.trans ?_ (by assumption) | refine Bel.setCell ?_ (by first | (simp; done) | (simp; omega) | (simp at *; omega)) _)
set_option maxHeartbeats 400000 in
theorem sTaken_c (m n k : Int) (w : World) : Calls Try.prog 39 #[spaceV m n, .int .i64 k] w fun r w' => r = .returned (.int .i64 (taken m n k)) ∧ Bel w w' := by
  go_enter Try.func39, Try.ntmps39
  go_wp2_with (go_at_call 50; refine (sClamped_c _ _).mono ?_; rintro e w' ⟨rfl, rfl⟩)
  all_goals (go_ret; refine ⟨by (first | (simp_all [taken]; done) | (simp_all [taken]; omega)), ?_⟩)
  all_goals
    repeat (first | exact Bel.refl _ | assumption | refine Bel.alloc ?_ _ | refine Bel.drew ?_ | refine Bel.drewN ?_ _ | refine Bel.trans ?_ (by assumption) | refine Bel.setCell ?_ (by first | (simp; done) | (simp; omega) | (simp at *; omega)) _)
set_option maxHeartbeats 400000 in
theorem iInnerOf_c (m n k : Int) (w : World) : Calls Try.prog 42 #[spaceV m n, .int .i64 k] w fun r w' => r = .returned (spaceV m (innerOf m n k)) ∧ Bel w w' := by
  have b1 := clamped_bd n
  have b2 := clamped_bd k
  go_enter Try.func42, Try.ntmps42
  go_wp2_with (go_at_call 51; refine (iClamped_c _ _).mono ?_; rintro e w' ⟨rfl, rfl⟩)
  all_goals refine bodyPost_ret (v := spaceV m (innerOf m n k)) (by simp_all [results, Try.results42, go_sem, innerOf]) rfl ⟨rfl, ?_⟩
  all_goals
    repeat (first | exact Bel.refl _ | assumption | refine Bel.alloc ?_ _ | refine Bel.drew ?_ | refine Bel.drewN ?_ _ | refine Bel.trans ?_ (by assumption) | refine Bel.setCell ?_ (by first | (simp; done) | (simp; omega) | (simp at *; omega)) _)
set_option maxHeartbeats 400000 in
theorem sInnerOf_c (m n k : Int) (w : World) : Calls Try.prog 41 #[spaceV m n, .int .i64 k] w fun r w' => r = .returned (spaceV m (innerOf m n k)) ∧ Bel w w' := by
  have b1 := clamped_bd n
  have b2 := clamped_bd k
  go_enter Try.func41, Try.ntmps41
  go_wp2_with (go_at_call 50; refine (sClamped_c _ _).mono ?_; rintro e w' ⟨rfl, rfl⟩)
  all_goals refine bodyPost_ret (v := spaceV m (innerOf m n k)) (by simp_all [results, Try.results41, go_sem, innerOf]) rfl ⟨rfl, ?_⟩
  all_goals
    repeat (first | exact Bel.refl _ | assumption | refine Bel.alloc ?_ _ | refine Bel.drew ?_ | refine Bel.drewN ?_ _ | refine Bel.trans ?_ (by assumption) | refine Bel.setCell ?_ (by first | (simp; done) | (simp; omega) | (simp at *; omega)) _)
set_option maxHeartbeats 400000 in
theorem exactly_c (n : Int) (w : World) : Calls Try.prog 52 #[.int .i64 n] w fun r w' => r = .returned (spaceV 3 n) ∧ Bel w w' := by
  go_enter Try.func52, Try.ntmps52
  go_wp2
  refine bodyPost_ret (v := spaceV 3 n) (by simp [results, Try.results52, go_sem]) rfl ⟨rfl, ?_⟩
  repeat (first | exact Bel.refl _ | assumption | refine Bel.alloc ?_ _ | refine Bel.drew ?_ | refine Bel.drewN ?_ _ | refine Bel.trans ?_ (by assumption) | refine Bel.setCell ?_ (by first | (simp; done) | (simp; omega) | (simp at *; omega)) _)
set_option maxHeartbeats 400000 in
theorem iExactOr_c (k m n : Int) (w : World) : Calls Try.prog 44 #[.int .i64 k, spaceV m n] w fun r w' => r = .returned (spaceV (exactOrM k m) (exactOrN k n)) ∧ Bel w w' := by
  go_enter Try.func44, Try.ntmps44
  go_wp2_with (first
    | (go_at_call 51; refine (iClamped_c _ _).mono ?_; rintro e w' ⟨rfl, rfl⟩)
    | (go_at_call 52; refine (exactly_c _ _).mono ?_; rintro e w1 ⟨rfl, hb1⟩
       obtain ⟨hc1, hf1, hz1⟩ := hb1.open_; have hl1 : w.heap.size < w1.heap.size := by simp at hz1; omega))
  all_goals refine bodyPost_ret (v := spaceV (exactOrM k m) (exactOrN k n)) (by simp_all [results, Try.results44, go_sem, exactOrM, exactOrN]) rfl ⟨rfl, ?_⟩
  all_goals
    repeat (first | exact Bel.refl _ | assumption | refine Bel.alloc ?_ _ | refine Bel.drew ?_ | refine Bel.drewN ?_ _ | refine Bel.trans ?_ (by assumption) | refine Bel.setCell ?_ (by first | (simp; done) | (simp; omega) | (simp at *; omega)) _)
set_option maxHeartbeats 400000 in
theorem sExactOr_c (k m n : Int) (w : World) : Calls Try.prog 43 #[.int .i64 k, spaceV m n] w fun r w' => r = .returned (spaceV (exactOrM k m) (exactOrN k n)) ∧ Bel w w' := by
  go_enter Try.func43, Try.ntmps43
  go_wp2_with (go_at_call 50; refine (sClamped_c _ _).mono ?_; rintro e w' ⟨rfl, rfl⟩)
  all_goals refine bodyPost_ret (v := spaceV (exactOrM k m) (exactOrN k n)) (by simp_all [results, Try.results43, go_sem, exactOrM, exactOrN]) rfl ⟨rfl, ?_⟩
  all_goals
    repeat (first | exact Bel.refl _ | assumption | refine Bel.alloc ?_ _ | refine Bel.drew ?_ | refine Bel.drewN ?_ _ | refine Bel.trans ?_ (by assumption) | refine Bel.setCell ?_ (by first | (simp; done) | (simp; omega) | (simp at *; omega)) _)
end Go.Proofs.Ytmmepndjgiipjaa
