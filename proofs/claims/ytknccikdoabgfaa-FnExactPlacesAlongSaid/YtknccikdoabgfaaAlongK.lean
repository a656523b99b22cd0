/- Places along and the families. -/
import Derived.Test.YtknccikdoabgfaaAlongF
import Derived.Test.YtknccikdoabgfaaFamItem
namespace Go.Proofs.Ytknccikdoabgfaa
end Go.Proofs.Ytknccikdoabgfaa
