/- The functions on one space: what each returns. -/
import Derived.Test.YtfmijkedhlnccaaNum
namespace Go.Proofs.Ytfmijkedhlnccaa
open Go.RowKit

abbrev spaceV (m n : Int) : Value := .agg #[.int .i64 m, .int .i64 n]
def spaceOk (m n : Int) : Bool := if m == 1 then n == 0 else inB m 2 3 && inB n 0 1048576
def roomOf (m n : Int) : Int := if m = 2 ∨ m = 3 then n else -1
def loosened (m : Int) : Int := if m = 3 then 2 else m
def taken (m n k : Int) : Int := if m = 3 ∨ (m = 2 ∧ n < k) then clamped n else clamped k
def innerOf (m n less : Int) : Int := if m = 1 then n else clamped (clamped n - clamped less)
def exactOrM (k m : Int) : Int := if k = -1 then m else 3
def exactOrN (k n : Int) : Int := if k = -1 then n else clamped k

end Go.Proofs.Ytfmijkedhlnccaa
