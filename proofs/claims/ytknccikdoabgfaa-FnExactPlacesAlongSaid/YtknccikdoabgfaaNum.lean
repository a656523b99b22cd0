/- The functions on bare integers: what each returns. -/
import Derived.Test.YtknccikdoabgfaaBase
import Derived.Test.YtknccikdoabgfaaRows
namespace Go.Proofs.Ytknccikdoabgfaa
open Go.RowKit

def inB (n a b : Int) : Bool := decide (a ≤ n ∧ n ≤ b)
def brought (n a b : Int) : Int := if b < a ∨ n < a then a else if b < n then b else n
def clamped (n : Int) : Int := brought n 0 1048576
def signed (n : Int) : Int := brought n (-1048576) 1048576
def within (n a b : Int) : Int := let m := if 0 ≤ b ∧ b < n then b else n; if m < a then a else m

theorem brought_bd (n a b : Int) (h : a ≤ b) : a ≤ brought n a b ∧ brought n a b ≤ b := by
  unfold brought
  split
  · omega
  · split <;> omega
theorem clamped_bd (n : Int) : 0 ≤ clamped n ∧ clamped n ≤ 1048576 := brought_bd n 0 1048576 (by omega)
theorem signed_bd (n : Int) : -1048576 ≤ signed n ∧ signed n ≤ 1048576 := brought_bd n (-1048576) 1048576 (by omega)

set_option maxHeartbeats 400000 in
theorem in_c (n a b : Int) (w : World) : Calls Try.prog 60 #[.int .i64 n, .int .i64 a, .int .i64 b] w fun r w' => r = .returned (.bool (inB n a b)) ∧ w = w' := by
  go_enter Try.func60, Try.ntmps60
  go_wp2
  all_goals (go_ret; exact ⟨by simp [inB]; omega, rfl⟩)
set_option maxHeartbeats 400000 in
theorem l01In_c (n a b : Int) (w : World) : Calls Try.prog 59 #[.int .i64 n, .int .i64 a, .int .i64 b] w fun r w' => r = .returned (.bool (inB n a b)) ∧ w = w' := by
  go_enter Try.func59, Try.ntmps59
  go_wp2
  all_goals (go_ret; exact ⟨by simp [inB]; omega, rfl⟩)
set_option maxHeartbeats 400000 in
theorem iBrought_c (n a b : Int) (w : World) : Calls Try.prog 84 #[.int .i64 n, .int .i64 a, .int .i64 b] w fun r w' => r = .returned (.int .i64 (brought n a b)) ∧ w = w' := by
  go_enter Try.func84, Try.ntmps84
  go_wp2
  all_goals (go_ret; exact ⟨by simp [brought]; omega, rfl⟩)
set_option maxHeartbeats 400000 in
theorem sBrought_c (n a b : Int) (w : World) : Calls Try.prog 80 #[.int .i64 n, .int .i64 a, .int .i64 b] w fun r w' => r = .returned (.int .i64 (brought n a b)) ∧ w = w' := by
  go_enter Try.func80, Try.ntmps80
  go_wp2
  all_goals (go_ret; exact ⟨by simp [brought]; omega, rfl⟩)
set_option maxHeartbeats 400000 in
theorem iWithin_c (n a b : Int) (w : World) : Calls Try.prog 79 #[.int .i64 n, .int .i64 a, .int .i64 b] w fun r w' => r = .returned (.int .i64 (within n a b)) ∧ w = w' := by
  go_enter Try.func79, Try.ntmps79
  go_wp2
  all_goals (go_ret; exact ⟨by simp [within]; omega, rfl⟩)
set_option maxHeartbeats 400000 in
theorem sWithin_c (n a b : Int) (w : World) : Calls Try.prog 78 #[.int .i64 n, .int .i64 a, .int .i64 b] w fun r w' => r = .returned (.int .i64 (within n a b)) ∧ w = w' := by
  go_enter Try.func78, Try.ntmps78
  go_wp2
  all_goals (go_ret; exact ⟨by simp [within]; omega, rfl⟩)
set_option maxHeartbeats 400000 in
theorem isigned_c (n : Int) (w : World) : Calls Try.prog 72 #[.int .i64 n] w fun r w' => r = .returned (.int .i64 (signed n)) ∧ w = w' := by
  go_enter Try.func72, Try.ntmps72
  go_wp2_with (go_at_call 84; refine (iBrought_c _ _ _ _).mono ?_; rintro e w' ⟨rfl, rfl⟩)
  go_ret
  exact ⟨rfl, rfl⟩
set_option maxHeartbeats 400000 in
theorem l02Len_c (n : Int) (w : World) : Calls Try.prog 68 #[.int .i64 n] w fun r w' => r = .returned (.int .i64 (signed n)) ∧ w = w' := by
  go_enter Try.func68, Try.ntmps68
  go_wp2_with (go_at_call 80; refine (sBrought_c _ _ _ _).mono ?_; rintro e w' ⟨rfl, rfl⟩)
  go_ret
  exact ⟨rfl, rfl⟩
end Go.Proofs.Ytknccikdoabgfaa
