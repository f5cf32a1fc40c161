/- LiftA. Conditions: as each theorem states. -/
import Derived.Handy
import Derived.Test.YtbgkoopfdfnmcaaQc04
import Derived.Test.YtbgkoopfdfnmcaaQc05
import Derived.Test.YtbgkoopfdfnmcaaQc06

namespace Go.Proofs.Ytbgkoopfdfnmcaa
open Go.RowKit

def TurnV.cells (t : TurnV) : List Value := [.int .i64 t.p, .int .i64 t.u]
/-- a turn that may be -/
def TurnV.ok (t : TurnV) : Prop := (0 ≤ t.p ∧ t.p ≤ 16384) ∧ 0 ≤ t.u ∧ t.u ≤ 16384
theorem turnK_ok {k : Nat} (hk : k < 8) : (turnK k).ok := by
  have hk8 : k = 0 ∨ k = 1 ∨ k = 2 ∨ k = 3 ∨ k = 4 ∨ k = 5 ∨ k = 6 ∨ k = 7 := by omega
  unfold TurnV.ok
  rcases hk8 with rfl | rfl | rfl | rfl | rfl | rfl | rfl | rfl
  · rw [turnK_0]; simp
  · rw [turnK_1]; simp
  · rw [turnK_2]; simp
  · rw [turnK_3]; simp
  · rw [turnK_4]; simp
  · rw [turnK_5]; simp
  · rw [turnK_6]; simp
  · rw [turnK_7]; simp
theorem part_prod {c v B : Int} (hc : 0 ≤ c ∧ c ≤ 16384) (h1 : -B ≤ v) (h2 : v ≤ B) : -(16384 * B) ≤ c * v ∧ c * v ≤ 16384 * B := by
  have hB : 0 ≤ B := by omega
  have a := Int.mul_le_mul_of_nonneg_left h2 hc.1
  have b := Int.mul_le_mul_of_nonneg_left h1 hc.1
  have d := Int.mul_le_mul_of_nonneg_right hc.2 hB
  rw [Int.mul_neg] at b
  omega
theorem part_bd {c v B : Int} (hc : 0 ≤ c ∧ c ≤ 16384) (h1 : -B ≤ v) (h2 : v ≤ B) : -(B + 1) ≤ partZ c v ∧ partZ c v ≤ B + 1 := by
  have h := part_prod hc h1 h2
  have k := partZ_lin c v
  omega
/-- numbers that are turned -/
def Turnable (a : Int) : Prop := -1099511627776 ≤ a ∧ a ≤ 1099511627776
end Go.Proofs.Ytbgkoopfdfnmcaa
