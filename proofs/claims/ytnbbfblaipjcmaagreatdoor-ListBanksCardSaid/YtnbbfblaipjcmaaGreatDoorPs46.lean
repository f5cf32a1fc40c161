/- ParS, BackP. Conditions: as each theorem states. -/
import Derived.Test.YtnbbfblaipjcmaaGreatDoorPs44
import Derived.Test.YtnbbfblaipjcmaaGreatDoorPs45
namespace Go.Proofs.YtnbbfblaipjcmaaGreatDoor
section
open Go.RowKit Go.Lib
end
section
open Go.RowKit Go.Lib
section
variable {size : Nat} {SS : List SampV}
end
end
end Go.Proofs.YtnbbfblaipjcmaaGreatDoor
