/- CodeX, CodeY. Conditions: as each theorem states. -/
import Derived.Test.YtnbbfblaipjcmaaGreatDoorPs19
import Derived.Test.YtnbbfblaipjcmaaGreatDoorPs21
import Derived.Test.YtnbbfblaipjcmaaGreatDoorPs22
import Derived.Test.YtnbbfblaipjcmaaGreatDoorPs26
import Derived.Test.YtnbbfblaipjcmaaGreatDoorPs27
import Derived.Test.YtnbbfblaipjcmaaGreatDoorPs24
import Derived.Test.YtnbbfblaipjcmaaGreatDoorPs28
namespace Go.Proofs.YtnbbfblaipjcmaaGreatDoor
section
open Go.RowKit
end
section
open Go.RowKit
end
end Go.Proofs.YtnbbfblaipjcmaaGreatDoor
