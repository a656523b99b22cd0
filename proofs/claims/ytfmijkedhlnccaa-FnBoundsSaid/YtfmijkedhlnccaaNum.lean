/- The functions on bare integers: what each returns. -/
import Derived.Test.YtfmijkedhlnccaaBase
import Derived.Test.YtfmijkedhlnccaaRows
namespace Go.Proofs.Ytfmijkedhlnccaa
open Go.RowKit

def inB (n a b : Int) : Bool := decide (a ≤ n ∧ n ≤ b)
def brought (n a b : Int) : Int := if b < a ∨ n < a then a else if b < n then b else n
def clamped (n : Int) : Int := brought n 0 1048576
def signed (n : Int) : Int := brought n (-1048576) 1048576
def within (n a b : Int) : Int := let m := if 0 ≤ b ∧ b < n then b else n; if m < a then a else m

theorem brought_bd (n a b : Int) (h : a ≤ b) : a ≤ brought n a b ∧ brought n a b ≤ b := by
  unfold brought
  split
  · omega
  · split <;> omega
theorem clamped_bd (n : Int) : 0 ≤ clamped n ∧ clamped n ≤ 1048576 := brought_bd n 0 1048576 (by omega)
theorem signed_bd (n : Int) : -1048576 ≤ signed n ∧ signed n ≤ 1048576 := brought_bd n (-1048576) 1048576 (by omega)

set_option maxRecDepth 100000 in
set_option maxHeartbeats 400000 in
theorem iBrought_c (n a b : Int) (w : World) : Calls Try.prog 48 #[.int .i64 n, .int .i64 a, .int .i64 b] w fun r w' => r = .returned (.int .i64 (brought n a b)) ∧ w = w' := by
  go_enter Try.func48, Try.ntmps48
  go_wp2
  all_goals (go_ret; exact ⟨by simp [brought]; omega, rfl⟩)
set_option maxRecDepth 100000 in
set_option maxHeartbeats 400000 in
theorem sBrought_c (n a b : Int) (w : World) : Calls Try.prog 51 #[.int .i64 n, .int .i64 a, .int .i64 b] w fun r w' => r = .returned (.int .i64 (brought n a b)) ∧ w = w' := by
  go_enter Try.func51, Try.ntmps51
  go_wp2
  all_goals (go_ret; exact ⟨by simp [brought]; omega, rfl⟩)
set_option maxRecDepth 100000 in
set_option maxHeartbeats 400000 in
theorem iWithin_c (n a b : Int) (w : World) : Calls Try.prog 26 #[.int .i64 n, .int .i64 a, .int .i64 b] w fun r w' => r = .returned (.int .i64 (within n a b)) ∧ w = w' := by
  go_enter Try.func26, Try.ntmps26
  go_wp2
  all_goals (go_ret; exact ⟨by simp [within]; omega, rfl⟩)
set_option maxRecDepth 100000 in
set_option maxHeartbeats 400000 in
theorem sWithin_c (n a b : Int) (w : World) : Calls Try.prog 31 #[.int .i64 n, .int .i64 a, .int .i64 b] w fun r w' => r = .returned (.int .i64 (within n a b)) ∧ w = w' := by
  go_enter Try.func31, Try.ntmps31
  go_wp2
  all_goals (go_ret; exact ⟨by simp [within]; omega, rfl⟩)
set_option maxRecDepth 100000 in
set_option maxHeartbeats 400000 in
theorem iClamped_c (n : Int) (w : World) : Calls Try.prog 25 #[.int .i64 n] w fun r w' => r = .returned (.int .i64 (clamped n)) ∧ w = w' := by
  go_enter Try.func25, Try.ntmps25
  go_wp2_with (go_at_call 48; refine (iBrought_c _ _ _ _).mono ?_; rintro e w' ⟨rfl, rfl⟩)
  go_ret
  exact ⟨rfl, rfl⟩
set_option maxRecDepth 100000 in
set_option maxHeartbeats 400000 in
theorem sClamped_c (n : Int) (w : World) : Calls Try.prog 30 #[.int .i64 n] w fun r w' => r = .returned (.int .i64 (clamped n)) ∧ w = w' := by
  go_enter Try.func30, Try.ntmps30
  go_wp2_with (go_at_call 51; refine (sBrought_c _ _ _ _).mono ?_; rintro e w' ⟨rfl, rfl⟩)
  go_ret
  exact ⟨rfl, rfl⟩
end Go.Proofs.Ytfmijkedhlnccaa
