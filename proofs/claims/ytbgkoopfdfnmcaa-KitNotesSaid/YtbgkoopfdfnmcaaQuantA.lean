/- Contracts of layer 9's Scales.Right, layer 7's Right, layer 4's Step; conditions: as each theorem states. -/
import Derived.Test.YtbgkoopfdfnmcaaFitP
import Derived.Test.YtbgkoopfdfnmcaaNumB
namespace Go.Proofs.Ytbgkoopfdfnmcaa
open Go.RowKit

def inB (hi : Int) (x : Int) : Bool := decide (0 ≤ x) && decide (x ≤ hi)
theorem scaleOk_eq (s : List Int) : scaleOk s = s.all (inB 23) := rfl

def gainOk (g : List Int) : Bool := g.all (inB 3)
end Go.Proofs.Ytbgkoopfdfnmcaa
