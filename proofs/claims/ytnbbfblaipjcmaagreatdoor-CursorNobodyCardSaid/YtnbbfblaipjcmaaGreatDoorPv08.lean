/- WaveD. Conditions: as each theorem states. -/
import Derived.Handy
import Derived.Test.YtnbbfblaipjcmaaGreatDoorPv07
namespace Go.Proofs.YtnbbfblaipjcmaaGreatDoor
open Go.RowKit
theorem aBA:(Tryz.prog.info? 86).map (fun i=>(i.zero,i.size,i.bytes))=some (some (.slice none 0 0),1,24):=by kernel_rfl
end Go.Proofs.YtnbbfblaipjcmaaGreatDoor
