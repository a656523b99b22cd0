/- The functions on one space: what each returns. -/
import Derived.Test.YtfmijkedhlnccaaDoorNum
namespace Go.Proofs.YtfmijkedhlnccaaDoor
open Go.RowKit

abbrev spaceV (m n : Int) : Value := .agg #[.int .i64 m, .int .i64 n]
def spaceOk (m n : Int) : Bool := if m == 1 then n == 0 else inB m 2 3 && inB n 0 1048576
def roomOf (m n : Int) : Int := if m = 2 ∨ m = 3 then n else -1
def loosened (m : Int) : Int := if m = 3 then 2 else m
def taken (m n k : Int) : Int := if m = 3 ∨ (m = 2 ∧ n < k) then clamped n else clamped k
def innerOf (m n less : Int) : Int := if m = 1 then n else clamped (clamped n - clamped less)
def exactOrM (k m : Int) : Int := if k = -1 then m else 3
def exactOrN (k n : Int) : Int := if k = -1 then n else clamped k

set_option maxRecDepth 100000 in
set_option maxHeartbeats 400000 in
theorem toSpace_c (m n : Int) (w : World) :
    Calls Tryd.prog 22 #[spaceV m n] w fun r w' => r = .returned (spaceV m n) ∧ Bel w w' := by
  go_enter Tryd.func22, Tryd.ntmps22
  go_wp2
  refine bodyPost_ret (v := spaceV m n) (by simp [results, Tryd.results22, go_sem]) rfl ⟨rfl, ?_⟩
  repeat (first | exact Bel.refl _ | assumption | refine Bel.alloc ?_ _ | refine Bel.drew ?_ | refine Bel.drewN ?_ _ | refine Bel.trans ?_ (by assumption) | refine Bel.setCell ?_ (by first | (simp; done) | (simp; omega) | (simp at *; omega)) _)
set_option maxRecDepth 100000 in
set_option maxHeartbeats 400000 in
theorem iSpaceOk_c (m n : Int) (w : World) : Calls Tryd.prog 21 #[spaceV m n] w fun r w' => r = .returned (.bool (spaceOk m n)) ∧ Bel w w' := by
  go_enter Tryd.func21, Tryd.ntmps21
  go_wp2_with (go_at_call 33; refine (in_c _ _ _ _).mono ?_; rintro e w' ⟨rfl, rfl⟩)
  all_goals (go_ret; refine ⟨by (first | (simp_all [spaceOk, inB]; done) | (simp_all [spaceOk, inB]; omega)), ?_⟩)
  all_goals
    repeat (first | exact Bel.refl _ | assumption | refine Bel.alloc ?_ _ | refine Bel.drew ?_ | refine Bel.drewN ?_ _ | refine Bel.trans ?_ (by assumption) | refine Bel.setCell ?_ (by first | (simp; done) | (simp; omega) | (simp at *; omega)) _)
set_option maxRecDepth 100000 in
set_option maxHeartbeats 400000 in
theorem sSpaceOk_c (m n : Int) (w : World) : Calls Tryd.prog 20 #[spaceV m n] w fun r w' => r = .returned (.bool (spaceOk m n)) ∧ Bel w w' := by
  go_enter Tryd.func20, Tryd.ntmps20
  go_wp2_with (go_at_call 32; refine (l01In_c _ _ _ _).mono ?_; rintro e w' ⟨rfl, rfl⟩)
  all_goals (go_ret; refine ⟨by (first | (simp_all [spaceOk, inB]; done) | (simp_all [spaceOk, inB]; omega)), ?_⟩)
  all_goals
    repeat (first | exact Bel.refl _ | assumption | refine Bel.alloc ?_ _ | refine Bel.drew ?_ | refine Bel.drewN ?_ _ | refine Bel.trans ?_ (by assumption) | refine Bel.setCell ?_ (by first | (simp; done) | (simp; omega) | (simp at *; omega)) _)
set_option maxRecDepth 100000 in
set_option maxHeartbeats 400000 in
theorem iRoomOf_c (m n : Int) (w : World) : Calls Tryd.prog 16 #[spaceV m n] w fun r w' => r = .returned (.int .i64 (roomOf m n)) ∧ Bel w w' := by
  go_enter Tryd.func16, Tryd.ntmps16
  go_wp2
  all_goals (go_ret; refine ⟨by simp_all [roomOf], ?_⟩)
  all_goals
    repeat (first | exact Bel.refl _ | assumption | refine Bel.alloc ?_ _ | refine Bel.drew ?_ | refine Bel.drewN ?_ _ | refine Bel.trans ?_ (by assumption) | refine Bel.setCell ?_ (by first | (simp; done) | (simp; omega) | (simp at *; omega)) _)
set_option maxRecDepth 100000 in
set_option maxHeartbeats 400000 in
theorem sRoomOf_c (m n : Int) (w : World) : Calls Tryd.prog 17 #[spaceV m n] w fun r w' => r = .returned (.int .i64 (roomOf m n)) ∧ Bel w w' := by
  go_enter Tryd.func17, Tryd.ntmps17
  go_wp2
  all_goals (go_ret; refine ⟨by simp_all [roomOf], ?_⟩)
  all_goals
    repeat (first | exact Bel.refl _ | assumption | refine Bel.alloc ?_ _ | refine Bel.drew ?_ | refine Bel.drewN ?_ _ | refine Bel.trans ?_ (by assumption) | refine Bel.setCell ?_ (by first | (simp; done) | (simp; omega) | (simp at *; omega)) _)
set_option maxRecDepth 100000 in
set_option maxHeartbeats 400000 in
theorem iLoosened_c (m n : Int) (w : World) : Calls Tryd.prog 9 #[spaceV m n] w fun r w' => r = .returned (spaceV (loosened m) n) ∧ Bel w w' := by
  go_enter Tryd.func9, Tryd.ntmps9
  go_wp2
  all_goals refine bodyPost_ret (v := spaceV (loosened m) n) (by simp_all [results, Tryd.results9, go_sem, loosened]) rfl ⟨rfl, ?_⟩
  all_goals
    repeat (first | exact Bel.refl _ | assumption | refine Bel.alloc ?_ _ | refine Bel.drew ?_ | refine Bel.drewN ?_ _ | refine Bel.trans ?_ (by assumption) | refine Bel.setCell ?_ (by first | (simp; done) | (simp; omega) | (simp at *; omega)) _)
set_option maxRecDepth 100000 in
set_option maxHeartbeats 400000 in
theorem sLoosened_c (m n : Int) (w : World) : Calls Tryd.prog 13 #[spaceV m n] w fun r w' => r = .returned (spaceV (loosened m) n) ∧ Bel w w' := by
  go_enter Tryd.func13, Tryd.ntmps13
  go_wp2
  all_goals refine bodyPost_ret (v := spaceV (loosened m) n) (by simp_all [results, Tryd.results13, go_sem, loosened]) rfl ⟨rfl, ?_⟩
  all_goals
    repeat (first | exact Bel.refl _ | assumption | refine Bel.alloc ?_ _ | refine Bel.drew ?_ | refine Bel.drewN ?_ _ | refine Bel.trans ?_ (by assumption) | refine Bel.setCell ?_ (by first | (simp; done) | (simp; omega) | (simp at *; omega)) _)
set_option maxRecDepth 100000 in
set_option maxHeartbeats 400000 in
theorem iTaken_c (m n k : Int) (w : World) : Calls Tryd.prog 7 #[spaceV m n, .int .i64 k] w fun r w' => r = .returned (.int .i64 (taken m n k)) ∧ Bel w w' := by
  go_enter Tryd.func7, Tryd.ntmps7
  go_wp2_with (go_at_call 24; refine (iClamped_c _ _).mono ?_; rintro e w' ⟨rfl, rfl⟩)
  all_goals (go_ret; refine ⟨by (first | (simp_all [taken]; done) | (simp_all [taken]; omega)), ?_⟩)
  all_goals
    repeat (first | exact Bel.refl _ | assumption | refine Bel.alloc ?_ _ | refine Bel.drew ?_ | refine Bel.drewN ?_ _ | refine Bel.trans ?_ (by assumption) | refine Bel.setCell ?_ (by first | (simp; done) | (simp; omega) | (simp at *; omega)) _)
set_option maxRecDepth 100000 in
set_option maxHeartbeats 400000 in
theorem sTaken_c (m n k : Int) (w : World) : Calls Tryd.prog 11 #[spaceV m n, .int .i64 k] w fun r w' => r = .returned (.int .i64 (taken m n k)) ∧ Bel w w' := by
  go_enter Tryd.func11, Tryd.ntmps11
  go_wp2_with (go_at_call 28; refine (sClamped_c _ _).mono ?_; rintro e w' ⟨rfl, rfl⟩)
  all_goals (go_ret; refine ⟨by (first | (simp_all [taken]; done) | (simp_all [taken]; omega)), ?_⟩)
  all_goals
    repeat (first | exact Bel.refl _ | assumption | refine Bel.alloc ?_ _ | refine Bel.drew ?_ | refine Bel.drewN ?_ _ | refine Bel.trans ?_ (by assumption) | refine Bel.setCell ?_ (by first | (simp; done) | (simp; omega) | (simp at *; omega)) _)
set_option maxRecDepth 100000 in
set_option maxHeartbeats 400000 in
theorem iInnerOf_c (m n k : Int) (w : World) : Calls Tryd.prog 8 #[spaceV m n, .int .i64 k] w fun r w' => r = .returned (spaceV m (innerOf m n k)) ∧ Bel w w' := by
  have b1 := clamped_bd n
  have b2 := clamped_bd k
  go_enter Tryd.func8, Tryd.ntmps8
  go_wp2_with (go_at_call 24; refine (iClamped_c _ _).mono ?_; rintro e w' ⟨rfl, rfl⟩)
  all_goals refine bodyPost_ret (v := spaceV m (innerOf m n k)) (by simp_all [results, Tryd.results8, go_sem, innerOf]) rfl ⟨rfl, ?_⟩
  all_goals
    repeat (first | exact Bel.refl _ | assumption | refine Bel.alloc ?_ _ | refine Bel.drew ?_ | refine Bel.drewN ?_ _ | refine Bel.trans ?_ (by assumption) | refine Bel.setCell ?_ (by first | (simp; done) | (simp; omega) | (simp at *; omega)) _)
set_option maxRecDepth 100000 in
set_option maxHeartbeats 400000 in
theorem sInnerOf_c (m n k : Int) (w : World) : Calls Tryd.prog 12 #[spaceV m n, .int .i64 k] w fun r w' => r = .returned (spaceV m (innerOf m n k)) ∧ Bel w w' := by
  have b1 := clamped_bd n
  have b2 := clamped_bd k
  go_enter Tryd.func12, Tryd.ntmps12
  go_wp2_with (go_at_call 28; refine (sClamped_c _ _).mono ?_; rintro e w' ⟨rfl, rfl⟩)
  all_goals refine bodyPost_ret (v := spaceV m (innerOf m n k)) (by simp_all [results, Tryd.results12, go_sem, innerOf]) rfl ⟨rfl, ?_⟩
  all_goals
    repeat (first | exact Bel.refl _ | assumption | refine Bel.alloc ?_ _ | refine Bel.drew ?_ | refine Bel.drewN ?_ _ | refine Bel.trans ?_ (by assumption) | refine Bel.setCell ?_ (by first | (simp; done) | (simp; omega) | (simp at *; omega)) _)
set_option maxRecDepth 100000 in
set_option maxHeartbeats 400000 in
theorem exactly_c (n : Int) (w : World) : Calls Tryd.prog 29 #[.int .i64 n] w fun r w' => r = .returned (spaceV 3 n) ∧ Bel w w' := by
  go_enter Tryd.func29, Tryd.ntmps29
  go_wp2
  refine bodyPost_ret (v := spaceV 3 n) (by simp [results, Tryd.results29, go_sem]) rfl ⟨rfl, ?_⟩
  repeat (first | exact Bel.refl _ | assumption | refine Bel.alloc ?_ _ | refine Bel.drew ?_ | refine Bel.drewN ?_ _ | refine Bel.trans ?_ (by assumption) | refine Bel.setCell ?_ (by first | (simp; done) | (simp; omega) | (simp at *; omega)) _)
set_option maxRecDepth 100000 in
set_option maxHeartbeats 400000 in
theorem iExactOr_c (k m n : Int) (w : World) : Calls Tryd.prog 14 #[.int .i64 k, spaceV m n] w fun r w' => r = .returned (spaceV (exactOrM k m) (exactOrN k n)) ∧ Bel w w' := by
  go_enter Tryd.func14, Tryd.ntmps14
  go_wp2_with (first
    | (go_at_call 24; refine (iClamped_c _ _).mono ?_; rintro e w' ⟨rfl, rfl⟩)
    | (go_at_call 29; refine (exactly_c _ _).mono ?_; rintro e w1 ⟨rfl, hb1⟩
       obtain ⟨hc1, hf1, hz1⟩ := hb1.open_; have hl1 : w.heap.size < w1.heap.size := by simp at hz1; omega))
  all_goals refine bodyPost_ret (v := spaceV (exactOrM k m) (exactOrN k n)) (by simp_all [results, Tryd.results14, go_sem, exactOrM, exactOrN]) rfl ⟨rfl, ?_⟩
  all_goals
    repeat (first | exact Bel.refl _ | assumption | refine Bel.alloc ?_ _ | refine Bel.drew ?_ | refine Bel.drewN ?_ _ | refine Bel.trans ?_ (by assumption) | refine Bel.setCell ?_ (by first | (simp; done) | (simp; omega) | (simp at *; omega)) _)
set_option maxRecDepth 100000 in
set_option maxHeartbeats 400000 in
theorem sExactOr_c (k m n : Int) (w : World) : Calls Tryd.prog 15 #[.int .i64 k, spaceV m n] w fun r w' => r = .returned (spaceV (exactOrM k m) (exactOrN k n)) ∧ Bel w w' := by
  go_enter Tryd.func15, Tryd.ntmps15
  go_wp2_with (go_at_call 28; refine (sClamped_c _ _).mono ?_; rintro e w' ⟨rfl, rfl⟩)
  all_goals refine bodyPost_ret (v := spaceV (exactOrM k m) (exactOrN k n)) (by simp_all [results, Tryd.results15, go_sem, exactOrM, exactOrN]) rfl ⟨rfl, ?_⟩
  all_goals
    repeat (first | exact Bel.refl _ | assumption | refine Bel.alloc ?_ _ | refine Bel.drew ?_ | refine Bel.drewN ?_ _ | refine Bel.trans ?_ (by assumption) | refine Bel.setCell ?_ (by first | (simp; done) | (simp; omega) | (simp at *; omega)) _)
end Go.Proofs.YtfmijkedhlnccaaDoor
