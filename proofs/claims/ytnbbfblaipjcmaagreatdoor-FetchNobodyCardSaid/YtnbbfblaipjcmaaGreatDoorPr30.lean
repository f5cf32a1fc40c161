/- CodeX, CodeY. Conditions: as each theorem states. -/
import Derived.Test.YtnbbfblaipjcmaaGreatDoorPr18
import Derived.Test.YtnbbfblaipjcmaaGreatDoorPr21
import Derived.Test.YtnbbfblaipjcmaaGreatDoorPr22
import Derived.Test.YtnbbfblaipjcmaaGreatDoorPr26
import Derived.Test.YtnbbfblaipjcmaaGreatDoorPr27
import Derived.Test.YtnbbfblaipjcmaaGreatDoorPr24
import Derived.Test.YtnbbfblaipjcmaaGreatDoorPr29
namespace Go.Proofs.YtnbbfblaipjcmaaGreatDoor
section
open Go.RowKit
end
section
open Go.RowKit
end
end Go.Proofs.YtnbbfblaipjcmaaGreatDoor
