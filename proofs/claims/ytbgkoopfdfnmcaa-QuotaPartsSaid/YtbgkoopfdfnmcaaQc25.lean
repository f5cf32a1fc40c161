/- QuantB. Conditions: as each theorem states. -/
import Derived.Test.YtbgkoopfdfnmcaaQc24

namespace Go.Proofs.Ytbgkoopfdfnmcaa
open Go.RowKit

theorem BigB.get {b : List Int} (h : BigB b) {k : Nat} {x : Int} (hx : b[k]? = some x) : -4611686018427387904 ≤ x ∧ x ≤ 4611686018427387904 := h k x hx

end Go.Proofs.Ytbgkoopfdfnmcaa
