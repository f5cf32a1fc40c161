/- WaveD. Conditions: as each theorem states. -/
import Derived.Handy
import Derived.Test.YtgcfkblmnpnogaaGreatDoorPg03

namespace Go.Proofs.YtgcfkblmnpnogaaGreatDoor
open Go.RowKit

end Go.Proofs.YtgcfkblmnpnogaaGreatDoor
