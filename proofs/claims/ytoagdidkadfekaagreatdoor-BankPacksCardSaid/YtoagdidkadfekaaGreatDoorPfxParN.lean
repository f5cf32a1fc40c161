/- ParN. Conditions: as each theorem states. -/
import Derived.Test.YtoagdidkadfekaaGreatDoorPfxParM

namespace Go.Proofs.YtoagdidkadfekaaGreatDoor
open Go.RowKit Go.Lib

end Go.Proofs.YtoagdidkadfekaaGreatDoor
