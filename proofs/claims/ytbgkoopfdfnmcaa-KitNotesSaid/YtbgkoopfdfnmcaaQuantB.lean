/- Contracts of layer 9's Steps; conditions: as each theorem states. -/
import Derived.Test.YtbgkoopfdfnmcaaQuantA
namespace Go.Proofs.Ytbgkoopfdfnmcaa
open Go.RowKit

theorem BigB.get {b : List Int} (h : BigB b) {k : Nat} {x : Int} (hx : b[k]? = some x) : -4611686018427387904 ≤ x ∧ x ≤ 4611686018427387904 := h k x hx

end Go.Proofs.Ytbgkoopfdfnmcaa
