/- markRuleS, heldRuleS: the numbers written, and read back. -/
import Derived.Test.YtkoljbndbomhdaaGreatTables
import Derived.Test.YtkoljbndbomhdaaGreatMarkR
namespace Go.Proofs.YtkoljbndbomhdaaGreat
open Go.RowKit Go.ChangeShapes Go.WideShapes
set_option linter.unusedVariables false
set_option linter.unusedSimpArgs false

end Go.Proofs.YtkoljbndbomhdaaGreat
