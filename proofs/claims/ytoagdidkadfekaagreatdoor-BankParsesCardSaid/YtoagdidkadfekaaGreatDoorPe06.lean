/- WaveD. Conditions: as each theorem states. -/
import Derived.Handy
import Derived.Test.YtoagdidkadfekaaGreatDoorPe02

namespace Go.Proofs.YtoagdidkadfekaaGreatDoor
open Go.RowKit

end Go.Proofs.YtoagdidkadfekaaGreatDoor
