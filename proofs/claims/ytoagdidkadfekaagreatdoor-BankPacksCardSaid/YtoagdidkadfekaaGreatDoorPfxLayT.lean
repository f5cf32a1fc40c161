/- LayT. Conditions: as each theorem states. -/
import Derived.Test.YtoagdidkadfekaaGreatDoorPf30

namespace Go.Proofs.YtoagdidkadfekaaGreatDoor
open Go.RowKit Go.Lib

/-- rows of bytes in memory -/
structure BRows (w : World) (B : Nat) (A : Option Addr) (FR : List (List Nat)) : Prop where
  at_ : ∃ vs : List Value, vs.length = FR.length ∧ Row w B A vs ∧ ∀ (j : Nat) v f, vs[j]? = some v → FR[j]? = some f → ∃ a c, v = .slice a f.length c ∧ f.length ≤ c ∧ c ≤ 9223372036854775807 ∧ Row w B a (u8s f)
theorem quo_any {n : Int} (h0 : 0 ≤ n) : (n + 15).tdiv 16 = countZ n := by
  rw [Int.tdiv_eq_ediv_of_nonneg (by omega)]
  unfold countZ
  split <;> omega
/-- the frame at a place of a sample: block by block, channel by channel -/
def frAt (size : Nat) (s : SampV) (q : Nat) : List Nat :=
  match s.rows[q % s.rows.length]? with
  | some d => match (framesZ d size)[q / s.rows.length]? with
    | some x => frameBytes x size
    | none => []
  | none => []
/-- the first frames of a sample -/
def frS (size : Nat) (s : SampV) (q : Nat) : List (List Nat) := (List.range q).map (frAt size s)
/-- the frames of the first samples -/
def frTo (size : Nat) (SS : List SampV) : Nat → List (List Nat)
  | 0 => []
  | m + 1 => frTo size SS m ++ match SS[m]? with
    | some s => frS size s (countN (len0 s.rows) * s.rows.length)
    | none => []
theorem frS_len (size : Nat) (s : SampV) (q : Nat) : (frS size s q).length = q := by simp [frS]
theorem frS_succ (size : Nat) (s : SampV) (q : Nat) : frS size s (q + 1) = frS size s q ++ [frAt size s q] := by
  unfold frS
  rw [List.range_succ, List.map_append]
  rfl
theorem frTo_succ {size : Nat} {SS : List SampV} {m : Nat} {s : SampV} (h : SS[m]? = some s) : frTo size SS (m + 1) = frTo size SS m ++ frS size s (countN (len0 s.rows) * s.rows.length) := by
  show frTo size SS m ++ (match SS[m]? with | some s => _ | none => _) = _
  rw [h]
theorem frTo_over (size : Nat) (SS : List SampV) (m : Nat) : ∀ r, ∃ R, frTo size SS (m + r) = frTo size SS m ++ R
  | 0 => ⟨[], by rw [List.append_nil]; rfl⟩
  | r + 1 => by
    obtain ⟨R, h⟩ := frTo_over size SS m r
    refine ⟨R ++ match SS[m + r]? with | some s => frS size s (countN (len0 s.rows) * s.rows.length) | none => [], ?_⟩
    rw [← List.append_assoc, ← h]
    rfl
theorem frTo_mono (size : Nat) (SS : List SampV) {m n : Nat} (h : m ≤ n) : (frTo size SS m).length ≤ (frTo size SS n).length := by
  obtain ⟨R, hR⟩ := frTo_over size SS m (n - m)
  rw [show m + (n - m) = n by omega] at hR
  rw [hR, List.length_append]
  omega
theorem frTo_get {size : Nat} {SS : List SampV} {m : Nat} {s : SampV} (h : SS[m]? = some s) {q : Nat} (hq : q < countN (len0 s.rows) * s.rows.length) : (frTo size SS SS.length)[(frTo size SS m).length + q]? = some (frAt size s q) := by
  have hm := (List.getElem?_eq_some_iff.1 h).1
  obtain ⟨R, hR⟩ := frTo_over size SS (m + 1) (SS.length - (m + 1))
  rw [show m + 1 + (SS.length - (m + 1)) = SS.length by omega, frTo_succ h] at hR
  rw [hR, List.append_assoc, List.getElem?_append_right (by omega), Nat.add_sub_cancel_left, List.getElem?_append_left (by rw [frS_len]; exact hq)]
  unfold frS
  rw [List.getElem?_map, List.getElem?_range hq]
  rfl
end Go.Proofs.YtoagdidkadfekaaGreatDoor
