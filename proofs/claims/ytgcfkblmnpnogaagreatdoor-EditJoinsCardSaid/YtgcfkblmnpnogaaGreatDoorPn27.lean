/- CodeX, CodeY. Conditions: as each theorem states. -/
import Derived.Test.YtgcfkblmnpnogaaGreatDoorPn16
import Derived.Test.YtgcfkblmnpnogaaGreatDoorPn18
import Derived.Test.YtgcfkblmnpnogaaGreatDoorPn19
import Derived.Test.YtgcfkblmnpnogaaGreatDoorPn23
import Derived.Test.YtgcfkblmnpnogaaGreatDoorPn24
import Derived.Test.YtgcfkblmnpnogaaGreatDoorPn21
import Derived.Test.YtgcfkblmnpnogaaGreatDoorPn26
namespace Go.Proofs.YtgcfkblmnpnogaaGreatDoor
open Go.RowKit
end Go.Proofs.YtgcfkblmnpnogaaGreatDoor
namespace Go.Proofs.YtgcfkblmnpnogaaGreatDoor
open Go.RowKit
end Go.Proofs.YtgcfkblmnpnogaaGreatDoor
