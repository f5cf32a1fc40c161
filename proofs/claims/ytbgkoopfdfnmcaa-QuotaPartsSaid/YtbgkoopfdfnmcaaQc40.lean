/- WaveF. Conditions: as each theorem states. -/
import Derived.Test.YtbgkoopfdfnmcaaQc39

namespace Go.Proofs.Ytbgkoopfdfnmcaa
open Go.RowKit

theorem len0_le {rows : List (List Int)} (h : ∀ r ∈ rows, r.length ≤ 150) : len0 rows ≤ 150 := by
  cases rows with
  | nil => exact Nat.zero_le _
  | cons r rs => exact h r (by simp)

/-- What may be packed has a right directory. -/
theorem right_of_check {nm : ByteArray} {rate : Int} {lp : Bool} {f t : Int} {rows : List (List Int)} (h : checkZ nm rate lp f t rows = 0) :
    MetaV.right ⟨nm, len0 rows, rate, rows.length, lp, f, t, 0, 0⟩ = true := by
  unfold checkZ at h
  cases h1 : isName nm
  · simp [h1] at h
  · by_cases h2 : rate < 1 ∨ 192000 < rate
    · simp [h1, h2] at h
    · by_cases h3 : rows.length < 1 ∨ 2 < rows.length ∨ len0 rows < 1 ∨ 1048576 < len0 rows
      · rw [if_neg (by simp [h1]), if_neg h2, if_pos h3] at h; omega
      · cases h4 : loopOk lp f t (len0 rows)
        · rw [if_neg (by simp [h1]), if_neg h2, if_neg h3, if_pos h4] at h; omega
        · unfold MetaV.right
          simp only [h1, h4, Bool.true_and, Bool.and_true, Bool.and_eq_true, Bool.or_eq_true, decide_eq_true_eq]
          omega

end Go.Proofs.Ytbgkoopfdfnmcaa
