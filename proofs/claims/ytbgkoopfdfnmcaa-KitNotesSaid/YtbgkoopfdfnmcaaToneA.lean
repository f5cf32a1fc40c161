/- Contracts of layer 9's Band, layer 11's around and Is; conditions: as each theorem states. -/
import Derived.Test.YtbgkoopfdfnmcaaNumA
import Derived.Test.YtbgkoopfdfnmcaaMem
import Derived.Test.YtbgkoopfdfnmcaaCalm
import Derived.Test.YtbgkoopfdfnmcaaArr
namespace Go.Proofs.Ytbgkoopfdfnmcaa
open Go.RowKit

/-- the greatest number of a band's first ones without one -/
def aroundTo (b : List Int) (i m : Nat) : Int := (List.range m).foldl (fun p d => if i / 4 * 4 + d = i then p else max p (absZ (bgt b (i / 4 * 4 + d)))) 0
def aroundZ (b : List Int) (i : Nat) : Int := aroundTo b i 4
theorem aroundTo_succ (b : List Int) (i m : Nat) : aroundTo b i (m + 1) = if i / 4 * 4 + m = i then aroundTo b i m else max (aroundTo b i m) (absZ (bgt b (i / 4 * 4 + m))) := by
  unfold aroundTo; rw [List.range_succ, List.foldl_append]; rfl
theorem absZ_bd {x : Int} (h : -4611686018427387904 ≤ x ∧ x ≤ 4611686018427387904) : 0 ≤ absZ x ∧ absZ x ≤ 4611686018427387904 := by
  unfold absZ; split
  · omega
  · split <;> omega

/-- is a place a tone? -/
def isTone (b : List Int) (i : Int) : Bool := decide (0 ≤ i) && decide (i < 16) && decide (64 ≤ absZ (bgt b i.toNat)) && decide (aroundZ b i.toNat ≤ absZ (bgt b i.toNat) / 8)

end Go.Proofs.Ytbgkoopfdfnmcaa
