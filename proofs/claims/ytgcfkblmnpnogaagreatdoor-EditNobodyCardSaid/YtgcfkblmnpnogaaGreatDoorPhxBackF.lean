/- BackF. Conditions: as each theorem states. -/
import Derived.Test.YtgcfkblmnpnogaaGreatDoorPh40
import Derived.Test.YtgcfkblmnpnogaaGreatDoorPh09

namespace Go.Proofs.YtgcfkblmnpnogaaGreatDoor
open Go.RowKit Go.Lib

end Go.Proofs.YtgcfkblmnpnogaaGreatDoor
