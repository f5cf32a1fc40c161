/- ParL. Conditions: as each theorem states. -/
import Derived.Test.YtoagdidkadfekaaGreatDoorPe37

namespace Go.Proofs.YtoagdidkadfekaaGreatDoor
open Go.RowKit Go.Lib

end Go.Proofs.YtoagdidkadfekaaGreatDoor
