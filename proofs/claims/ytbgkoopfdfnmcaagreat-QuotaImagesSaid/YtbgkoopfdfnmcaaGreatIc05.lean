/- WaveC. Conditions: as each theorem states. -/
import Derived.Test.YtbgkoopfdfnmcaaGreatIc03

namespace Go.Proofs.YtbgkoopfdfnmcaaGreat
open Go.RowKit

end Go.Proofs.YtbgkoopfdfnmcaaGreat
