/- CodeX, CodeY. Conditions: as each theorem states. -/
import Derived.Test.YtgcfkblmnpnogaaGreatDoorPg16
import Derived.Test.YtgcfkblmnpnogaaGreatDoorPg18
import Derived.Test.YtgcfkblmnpnogaaGreatDoorPg19
import Derived.Test.YtgcfkblmnpnogaaGreatDoorPg23
import Derived.Test.YtgcfkblmnpnogaaGreatDoorPg24
import Derived.Test.YtgcfkblmnpnogaaGreatDoorPg21
import Derived.Test.YtgcfkblmnpnogaaGreatDoorPg26

namespace Go.Proofs.YtgcfkblmnpnogaaGreatDoor
open Go.RowKit

end Go.Proofs.YtgcfkblmnpnogaaGreatDoor

namespace Go.Proofs.YtgcfkblmnpnogaaGreatDoor
open Go.RowKit

end Go.Proofs.YtgcfkblmnpnogaaGreatDoor
