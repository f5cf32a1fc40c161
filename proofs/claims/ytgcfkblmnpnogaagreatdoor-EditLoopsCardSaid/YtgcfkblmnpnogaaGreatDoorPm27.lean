/- CodeX, CodeY. Conditions: as each theorem states. -/
import Derived.Test.YtgcfkblmnpnogaaGreatDoorPm16
import Derived.Test.YtgcfkblmnpnogaaGreatDoorPm18
import Derived.Test.YtgcfkblmnpnogaaGreatDoorPm19
import Derived.Test.YtgcfkblmnpnogaaGreatDoorPm23
import Derived.Test.YtgcfkblmnpnogaaGreatDoorPm24
import Derived.Test.YtgcfkblmnpnogaaGreatDoorPm21
import Derived.Test.YtgcfkblmnpnogaaGreatDoorPm26
namespace Go.Proofs.YtgcfkblmnpnogaaGreatDoor
open Go.RowKit
end Go.Proofs.YtgcfkblmnpnogaaGreatDoor
namespace Go.Proofs.YtgcfkblmnpnogaaGreatDoor
open Go.RowKit
end Go.Proofs.YtgcfkblmnpnogaaGreatDoor
