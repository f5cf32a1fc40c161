/- CodeX, CodeY. Conditions: as each theorem states. -/
import Derived.Test.YtgcfkblmnpnogaaGreatDoorPk18
import Derived.Test.YtgcfkblmnpnogaaGreatDoorPk21
import Derived.Test.YtgcfkblmnpnogaaGreatDoorPk22
import Derived.Test.YtgcfkblmnpnogaaGreatDoorPk26
import Derived.Test.YtgcfkblmnpnogaaGreatDoorPk27
import Derived.Test.YtgcfkblmnpnogaaGreatDoorPk24
import Derived.Test.YtgcfkblmnpnogaaGreatDoorPk29

namespace Go.Proofs.YtgcfkblmnpnogaaGreatDoor
open Go.RowKit

end Go.Proofs.YtgcfkblmnpnogaaGreatDoor

namespace Go.Proofs.YtgcfkblmnpnogaaGreatDoor
open Go.RowKit

end Go.Proofs.YtgcfkblmnpnogaaGreatDoor
