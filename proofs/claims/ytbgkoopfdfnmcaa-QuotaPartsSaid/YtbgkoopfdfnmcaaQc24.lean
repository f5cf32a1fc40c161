/- QuantA. Conditions: as each theorem states. -/
import Derived.Test.YtbgkoopfdfnmcaaQc21
import Derived.Test.YtbgkoopfdfnmcaaQc23

namespace Go.Proofs.Ytbgkoopfdfnmcaa
open Go.RowKit

def inB (hi : Int) (x : Int) : Bool := decide (0 ≤ x) && decide (x ≤ hi)
theorem scaleOk_eq (s : List Int) : scaleOk s = s.all (inB 23) := rfl

def gainOk (g : List Int) : Bool := g.all (inB 3)
end Go.Proofs.Ytbgkoopfdfnmcaa
