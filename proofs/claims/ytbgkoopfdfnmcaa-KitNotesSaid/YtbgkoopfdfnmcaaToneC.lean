/- Contract of layer 11's law's ahead; conditions: as each theorem states. -/
import Derived.Test.YtbgkoopfdfnmcaaToneB
namespace Go.Proofs.Ytbgkoopfdfnmcaa
open Go.RowKit

/-- is a tone greater than another number, or alike and ahead of it? -/
def aheadB (b : List Int) (i k : Nat) : Bool := isTone b (k : Int) && (decide (absZ (bgt b i) < absZ (bgt b k)) || (decide (absZ (bgt b k) = absZ (bgt b i)) && decide (k < i)))
def aheadTo (b : List Int) (i m : Nat) : Nat := ((List.range m).filter (aheadB b i)).length
def aheadZ (b : List Int) (i : Nat) : Nat := aheadTo b i 16
theorem aheadTo_succ (b : List Int) (i m : Nat) : aheadTo b i (m + 1) = aheadTo b i m + if aheadB b i m = true then 1 else 0 := by
  unfold aheadTo
  rw [List.range_succ, List.filter_append, List.length_append]
  cases h : aheadB b i m <;> simp [h]
theorem aheadTo_le (b : List Int) (i m : Nat) : aheadTo b i m ≤ m := by
  unfold aheadTo
  have := List.length_filter_le (aheadB b i) (List.range m)
  simpa using this

end Go.Proofs.Ytbgkoopfdfnmcaa
