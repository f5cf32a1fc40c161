/- CodeX, CodeY. Conditions: as each theorem states. -/
import Derived.Test.YtnbbfblaipjcmaaGreatDoorPt18
import Derived.Test.YtnbbfblaipjcmaaGreatDoorPt21
import Derived.Test.YtnbbfblaipjcmaaGreatDoorPt22
import Derived.Test.YtnbbfblaipjcmaaGreatDoorPt26
import Derived.Test.YtnbbfblaipjcmaaGreatDoorPt27
import Derived.Test.YtnbbfblaipjcmaaGreatDoorPt24
import Derived.Test.YtnbbfblaipjcmaaGreatDoorPt29
namespace Go.Proofs.YtnbbfblaipjcmaaGreatDoor
section
open Go.RowKit
end
section
open Go.RowKit
end
end Go.Proofs.YtnbbfblaipjcmaaGreatDoor
