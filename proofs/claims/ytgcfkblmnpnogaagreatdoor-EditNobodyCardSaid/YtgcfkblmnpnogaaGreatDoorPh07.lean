/- WaveD. Conditions: as each theorem states. -/
import Derived.Handy
import Derived.Test.YtgcfkblmnpnogaaGreatDoorPh03

namespace Go.Proofs.YtgcfkblmnpnogaaGreatDoor
open Go.RowKit

theorem inf_rows : (Tryz.prog.info? 94).map (fun i => (i.zero, i.size, i.bytes)) = some (some (.slice none 0 0), 1, 24) := by kernel_rfl

end Go.Proofs.YtgcfkblmnpnogaaGreatDoor
