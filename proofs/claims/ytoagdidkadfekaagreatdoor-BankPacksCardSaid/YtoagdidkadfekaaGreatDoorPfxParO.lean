/- ParO. Conditions: as each theorem states. -/
import Derived.Test.YtoagdidkadfekaaGreatDoorPfxParN

namespace Go.Proofs.YtoagdidkadfekaaGreatDoor
open Go.RowKit Go.Lib

end Go.Proofs.YtoagdidkadfekaaGreatDoor
