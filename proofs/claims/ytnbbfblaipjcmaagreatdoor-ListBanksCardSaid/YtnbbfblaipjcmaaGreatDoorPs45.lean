/- RdC. Conditions: as each theorem states. -/
import Derived.Deep.RegionLaw
import Derived.Deep.AppendLies
import Derived.Deep.DrawnRows
import Derived.Deep.DeepCutAuto
import Derived.Test.YtnbbfblaipjcmaaGreatDoorPs20
import Derived.Test.YtnbbfblaipjcmaaGreatDoorPs28
namespace Go.Proofs.YtnbbfblaipjcmaaGreatDoor
open Go.RowKit
attribute [local go_sem ↓] Go.wp_at_zero Go.wp_at_succ
end Go.Proofs.YtnbbfblaipjcmaaGreatDoor
