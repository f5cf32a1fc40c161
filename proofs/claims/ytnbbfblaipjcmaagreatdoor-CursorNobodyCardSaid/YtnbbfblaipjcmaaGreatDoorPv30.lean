/- CodeX, CodeY. Conditions: as each theorem states. -/
import Derived.Test.YtnbbfblaipjcmaaGreatDoorPv18
import Derived.Test.YtnbbfblaipjcmaaGreatDoorPv21
import Derived.Test.YtnbbfblaipjcmaaGreatDoorPv22
import Derived.Test.YtnbbfblaipjcmaaGreatDoorPv26
import Derived.Test.YtnbbfblaipjcmaaGreatDoorPv27
import Derived.Test.YtnbbfblaipjcmaaGreatDoorPv24
import Derived.Test.YtnbbfblaipjcmaaGreatDoorPv29
namespace Go.Proofs.YtnbbfblaipjcmaaGreatDoor
section
open Go.RowKit
end
section
open Go.RowKit
end
end Go.Proofs.YtnbbfblaipjcmaaGreatDoor
