/- The joint of RoomsOf and the families. -/
import Derived.Test.YtgelpfecfbagdaaRooms
import Derived.Test.YtgelpfecfbagdaaFamTab
namespace Go.Proofs.Ytgelpfecfbagdaa
end Go.Proofs.Ytgelpfecfbagdaa
