/- ParN. Conditions: as each theorem states. -/
import Derived.Test.YtoagdidkadfekaaGreatDoorPexParM

namespace Go.Proofs.YtoagdidkadfekaaGreatDoor
open Go.RowKit Go.Lib

end Go.Proofs.YtoagdidkadfekaaGreatDoor
