/- CodeX, CodeY. Conditions: as each theorem states. -/
import Derived.Test.YtnbbfblaipjcmaaGreatDoorPu19
import Derived.Test.YtnbbfblaipjcmaaGreatDoorPu21
import Derived.Test.YtnbbfblaipjcmaaGreatDoorPu22
import Derived.Test.YtnbbfblaipjcmaaGreatDoorPu26
import Derived.Test.YtnbbfblaipjcmaaGreatDoorPu27
import Derived.Test.YtnbbfblaipjcmaaGreatDoorPu24
import Derived.Test.YtnbbfblaipjcmaaGreatDoorPu28
namespace Go.Proofs.YtnbbfblaipjcmaaGreatDoor
section
open Go.RowKit
end
section
open Go.RowKit
end
end Go.Proofs.YtnbbfblaipjcmaaGreatDoor
