/- Contracts of layer 11's law: near, size, is, ahead; conditions: as each theorem states. -/
import Derived.Test.YtbgkoopfdfnmcaaToneA
import Derived.Test.YtbgkoopfdfnmcaaLists
namespace Go.Proofs.Ytbgkoopfdfnmcaa
open Go.RowKit

def nearI (x : Int) : Bool := decide (-1099511627776 ≤ x) && decide (x ≤ 1099511627776)

theorem near_big {b : List Int} (h : b.all nearI = true) : BigB b := by
  intro k x hx
  have := List.all_eq_true.1 h x (List.mem_of_getElem? hx)
  simp [nearI] at this
  omega

theorem aroundTo_le (b : List Int) (i m : Nat) : ∀ r, aroundTo b i m ≤ aroundTo b i (m + r)
  | 0 => Int.le_refl _
  | r + 1 => by
    have := aroundTo_le b i m r
    rw [← Nat.add_assoc, aroundTo_succ]
    split <;> omega

end Go.Proofs.Ytbgkoopfdfnmcaa
