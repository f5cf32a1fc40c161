/- WaveC. Conditions: as each theorem states. -/
import Derived.Test.YtgcfkblmnpnogaaGreatDoorPq03
namespace Go.Proofs.YtgcfkblmnpnogaaGreatDoor
open Go.RowKit
end Go.Proofs.YtgcfkblmnpnogaaGreatDoor
