/- The functions on bare integers: what each returns. -/
import Derived.Test.YtcdneamoemmohaaBase
import Derived.Test.YtcdneamoemmohaaRows
namespace Go.Proofs.Ytcdneamoemmohaa
open Go.RowKit

def inB (n a b : Int) : Bool := decide (a ≤ n ∧ n ≤ b)
def brought (n a b : Int) : Int := if b < a ∨ n < a then a else if b < n then b else n
def clamped (n : Int) : Int := brought n 0 1048576
def signed (n : Int) : Int := brought n (-1048576) 1048576
def within (n a b : Int) : Int := let m := if 0 ≤ b ∧ b < n then b else n; if m < a then a else m

theorem brought_bd (n a b : Int) (h : a ≤ b) : a ≤ brought n a b ∧ brought n a b ≤ b := by
  unfold brought
  split
  · omega
  · split <;> omega
theorem clamped_bd (n : Int) : 0 ≤ clamped n ∧ clamped n ≤ 1048576 := brought_bd n 0 1048576 (by omega)
theorem signed_bd (n : Int) : -1048576 ≤ signed n ∧ signed n ≤ 1048576 := brought_bd n (-1048576) 1048576 (by omega)

set_option maxRecDepth 100000 in
set_option maxHeartbeats 400000 in
theorem in_c (n a b : Int) (w : World) : Calls Try.prog 67 #[.int .i64 n, .int .i64 a, .int .i64 b] w fun r w' => r = .returned (.bool (inB n a b)) ∧ w = w' := by
  go_enter Try.func67, Try.ntmps67
  go_wp2
  all_goals (go_ret; exact ⟨by simp [inB]; omega, rfl⟩)
set_option maxRecDepth 100000 in
set_option maxHeartbeats 400000 in
theorem l01In_c (n a b : Int) (w : World) : Calls Try.prog 65 #[.int .i64 n, .int .i64 a, .int .i64 b] w fun r w' => r = .returned (.bool (inB n a b)) ∧ w = w' := by
  go_enter Try.func65, Try.ntmps65
  go_wp2
  all_goals (go_ret; exact ⟨by simp [inB]; omega, rfl⟩)
end Go.Proofs.Ytcdneamoemmohaa
