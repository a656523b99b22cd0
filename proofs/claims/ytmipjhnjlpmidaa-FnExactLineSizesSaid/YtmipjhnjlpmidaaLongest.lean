/- LongestOf, both texts. -/
import Derived.Test.YtmipjhnjlpmidaaLinesI
import Derived.Test.YtmipjhnjlpmidaaLinesS
namespace Go.Proofs.Ytmipjhnjlpmidaa
open Go.RowKit Go.ChangeShapes Go.WideShapes
set_option linter.unusedVariables false
set_option linter.unusedSimpArgs false

def longTo (L : List Rec) (gap : Int) (LL : List (List Int)) : Nat → Int
  | 0 => 0
  | k + 1 => max (longTo L gap LL k) (outerL L (LL.getD k []) gap)
def longestOf (L : List Rec) (gap room : Int) (wraps : Bool) : Int := longTo L gap (linesOf L gap room wraps) (linesOf L gap room wraps).length
theorem linesOf_len (L : List Rec) (gap room : Int) (wraps : Bool) : (linesOf L gap room wraps).length ≤ L.length := (linesTo_bd _ _ _ _ _).1
theorem linesOf_at (L : List Rec) (gap room : Int) (wraps : Bool) {j : Nat} (h : j < (linesOf L gap room wraps).length) : ((linesOf L gap room wraps).getD j []).length ≤ L.length := (linesTo_bd _ _ _ _ _).2 _ (List.mem_of_getElem? (getD_eq h))
end Go.Proofs.Ytmipjhnjlpmidaa
