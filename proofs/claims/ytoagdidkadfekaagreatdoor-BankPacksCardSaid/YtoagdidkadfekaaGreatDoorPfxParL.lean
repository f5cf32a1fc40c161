/- ParL. Conditions: as each theorem states. -/
import Derived.Test.YtoagdidkadfekaaGreatDoorPf34

namespace Go.Proofs.YtoagdidkadfekaaGreatDoor
open Go.RowKit Go.Lib

end Go.Proofs.YtoagdidkadfekaaGreatDoor
