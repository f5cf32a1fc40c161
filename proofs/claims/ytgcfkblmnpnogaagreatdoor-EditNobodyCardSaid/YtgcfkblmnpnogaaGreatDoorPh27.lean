/- CodeX, CodeY. Conditions: as each theorem states. -/
import Derived.Test.YtgcfkblmnpnogaaGreatDoorPh16
import Derived.Test.YtgcfkblmnpnogaaGreatDoorPh18
import Derived.Test.YtgcfkblmnpnogaaGreatDoorPh19
import Derived.Test.YtgcfkblmnpnogaaGreatDoorPh23
import Derived.Test.YtgcfkblmnpnogaaGreatDoorPh24
import Derived.Test.YtgcfkblmnpnogaaGreatDoorPh21
import Derived.Test.YtgcfkblmnpnogaaGreatDoorPh26

namespace Go.Proofs.YtgcfkblmnpnogaaGreatDoor
open Go.RowKit

end Go.Proofs.YtgcfkblmnpnogaaGreatDoor

namespace Go.Proofs.YtgcfkblmnpnogaaGreatDoor
open Go.RowKit

end Go.Proofs.YtgcfkblmnpnogaaGreatDoor
