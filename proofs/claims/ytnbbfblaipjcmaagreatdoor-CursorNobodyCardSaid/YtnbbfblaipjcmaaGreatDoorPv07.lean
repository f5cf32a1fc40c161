/- WaveC. Conditions: as each theorem states. -/
import Derived.Test.YtnbbfblaipjcmaaGreatDoorPv03
namespace Go.Proofs.YtnbbfblaipjcmaaGreatDoor
open Go.RowKit
end Go.Proofs.YtnbbfblaipjcmaaGreatDoor
