/- LayT. Conditions: as each theorem states. -/
import Derived.Test.YtoagdidkadfekaaGreatDoorPe33

namespace Go.Proofs.YtoagdidkadfekaaGreatDoor
open Go.RowKit Go.Lib

/-- rows of bytes in memory -/
structure BRows (w : World) (B : Nat) (A : Option Addr) (FR : List (List Nat)) : Prop where
  at_ : ∃ vs : List Value, vs.length = FR.length ∧ Row w B A vs ∧ ∀ (j : Nat) v f, vs[j]? = some v → FR[j]? = some f → ∃ a c, v = .slice a f.length c ∧ f.length ≤ c ∧ c ≤ 9223372036854775807 ∧ Row w B a (u8s f)
theorem quo_any {n : Int} (h0 : 0 ≤ n) : (n + 15).tdiv 16 = countZ n := by
  rw [Int.tdiv_eq_ediv_of_nonneg (by omega)]
  unfold countZ
  split <;> omega
end Go.Proofs.YtoagdidkadfekaaGreatDoor
