/- ToneB, ToneC. Conditions: as each theorem states. -/
import Derived.Test.YtbgkoopfdfnmcaaQc01
import Derived.Test.YtbgkoopfdfnmcaaQc11

namespace Go.Proofs.Ytbgkoopfdfnmcaa
open Go.RowKit

def nearI (x : Int) : Bool := decide (-1099511627776 ≤ x) && decide (x ≤ 1099511627776)

theorem near_big {b : List Int} (h : b.all nearI = true) : BigB b := by
  intro k x hx
  have := List.all_eq_true.1 h x (List.mem_of_getElem? hx)
  simp [nearI] at this
  omega

theorem aroundTo_le (b : List Int) (i m : Nat) : ∀ r, aroundTo b i m ≤ aroundTo b i (m + r)
  | 0 => Int.le_refl _
  | r + 1 => by
    have := aroundTo_le b i m r
    rw [← Nat.add_assoc, aroundTo_succ]
    split <;> omega

end Go.Proofs.Ytbgkoopfdfnmcaa

namespace Go.Proofs.Ytbgkoopfdfnmcaa
open Go.RowKit

/-- is a tone greater than another number, or alike and ahead of it? -/
def aheadB (b : List Int) (i k : Nat) : Bool := isTone b (k : Int) && (decide (absZ (bgt b i) < absZ (bgt b k)) || (decide (absZ (bgt b k) = absZ (bgt b i)) && decide (k < i)))
def aheadTo (b : List Int) (i m : Nat) : Nat := ((List.range m).filter (aheadB b i)).length
def aheadZ (b : List Int) (i : Nat) : Nat := aheadTo b i 16
theorem aheadTo_succ (b : List Int) (i m : Nat) : aheadTo b i (m + 1) = aheadTo b i m + if aheadB b i m = true then 1 else 0 := by
  unfold aheadTo
  rw [List.range_succ, List.filter_append, List.length_append]
  cases h : aheadB b i m <;> simp [h]
theorem aheadTo_le (b : List Int) (i m : Nat) : aheadTo b i m ≤ m := by
  unfold aheadTo
  have := List.length_filter_le (aheadB b i) (List.range m)
  simpa using this

end Go.Proofs.Ytbgkoopfdfnmcaa
