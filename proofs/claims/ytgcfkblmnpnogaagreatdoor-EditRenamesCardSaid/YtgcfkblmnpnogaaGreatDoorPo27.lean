/- CodeX, CodeY. Conditions: as each theorem states. -/
import Derived.Test.YtgcfkblmnpnogaaGreatDoorPo16
import Derived.Test.YtgcfkblmnpnogaaGreatDoorPo18
import Derived.Test.YtgcfkblmnpnogaaGreatDoorPo19
import Derived.Test.YtgcfkblmnpnogaaGreatDoorPo23
import Derived.Test.YtgcfkblmnpnogaaGreatDoorPo24
import Derived.Test.YtgcfkblmnpnogaaGreatDoorPo21
import Derived.Test.YtgcfkblmnpnogaaGreatDoorPo26
namespace Go.Proofs.YtgcfkblmnpnogaaGreatDoor
open Go.RowKit
end Go.Proofs.YtgcfkblmnpnogaaGreatDoor
namespace Go.Proofs.YtgcfkblmnpnogaaGreatDoor
open Go.RowKit
end Go.Proofs.YtgcfkblmnpnogaaGreatDoor
