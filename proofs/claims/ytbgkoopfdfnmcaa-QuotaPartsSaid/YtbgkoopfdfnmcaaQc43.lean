/- QuotaC. Conditions: as each theorem states. -/
import Derived.Deep.RegionHeld3
import Derived.Deep.RegionLawGrows
import Derived.Deep.DrawnRows
import Derived.Test.YtbgkoopfdfnmcaaQc42

namespace Go.Proofs.Ytbgkoopfdfnmcaa
open Go.RowKit

abbrev SP := HSamp × SampV
/-- the first row that has room takes it -/
def putRow (good : List SP → Bool) (p : SP) : List (List SP) → List (List SP)
  | [] => [[p]]
  | r :: rs => if good (r ++ [p]) = true then (r ++ [p]) :: rs else r :: putRow good p rs
theorem putRow_at {good : List SP → Bool} {p : SP} : ∀ {rows : List (List SP)} {k : Nat} {r : List SP}, (∀ i x, i < k → rows[i]? = some x → good (x ++ [p]) = false) → rows[k]? = some r → good (r ++ [p]) = true → putRow good p rows = rows.set k (r ++ [p])
  | [], k, r, _, h, _ => by simp at h
  | x :: rs, 0, r, _, h, hg => by
    simp at h
    subst h
    show (if good (x ++ [p]) = true then _ else _) = _
    rw [if_pos hg]; rfl
  | x :: rs, k + 1, r, h0, h, hg => by
    show (if good (x ++ [p]) = true then _ else _) = _
    rw [if_neg (by rw [h0 0 x (by omega) rfl]; simp), putRow_at (k := k) (fun i y hi hy => h0 (i + 1) y (by omega) (by simpa using hy)) (by simpa using h) hg]
    rfl
theorem putRow_none {good : List SP → Bool} {p : SP} : ∀ {rows : List (List SP)}, (∀ i x, i < rows.length → rows[i]? = some x → good (x ++ [p]) = false) → putRow good p rows = rows ++ [[p]]
  | [], _ => rfl
  | x :: rs, h0 => by
    show (if good (x ++ [p]) = true then _ else _) = _
    rw [if_neg (by rw [h0 0 x (by simp) rfl]; simp), putRow_none (fun i y hi hy => h0 (i + 1) y (by simp; omega) (by simpa using hy))]
    rfl
/-- each sample, in order, in the first row that still has room for it -/
def partsTo (good : List SP → Bool) (L : List SP) : Nat → List (List SP)
  | 0 => []
  | m + 1 => match L[m]? with
    | some p => if good [p] = true then putRow good p (partsTo good L m) else partsTo good L m
    | none => partsTo good L m
theorem partsTo_succ {good : List SP → Bool} {L : List SP} {m : Nat} {p : SP} (h : L[m]? = some p) : partsTo good L (m + 1) = if good [p] = true then putRow good p (partsTo good L m) else partsTo good L m := by
  show (match L[m]? with | some p => _ | none => _) = _
  rw [h]
/-- rows of few samples of a list -/
structure RowsIn (L : List SP) (m : Nat) (rows : List (List SP)) : Prop where
  len : rows.length ≤ m
  each : ∀ r ∈ rows, 0 < r.length ∧ r.length ≤ m ∧ ∀ s ∈ r, s ∈ L
theorem RowsIn.more {L : List SP} {m : Nat} {rows : List (List SP)} (h : RowsIn L m rows) : RowsIn L (m + 1) rows := ⟨by have := h.len; omega, fun r hr => ⟨(h.each r hr).1, by have := (h.each r hr).2.1; omega, (h.each r hr).2.2⟩⟩
theorem RowsIn.put {L : List SP} {m : Nat} {good : List SP → Bool} {p : SP} (hp : p ∈ L) : ∀ {rows : List (List SP)}, RowsIn L m rows → (∀ r ∈ putRow good p rows, 0 < r.length ∧ r.length ≤ m + 1 ∧ ∀ s ∈ r, s ∈ L) ∧ (putRow good p rows).length ≤ rows.length + 1
  | [], _ => ⟨fun r hr => by
      have hr : r ∈ [[p]] := hr
      rw [List.mem_singleton] at hr
      subst hr
      exact ⟨by simp, by simp, fun s hs => by rw [List.mem_singleton] at hs; subst hs; exact hp⟩, by simp [putRow]⟩
  | x :: rs, h => by
    have hx := h.each x (by simp)
    unfold putRow
    split
    · refine ⟨fun r hr => ?_, by simp⟩
      rcases List.mem_cons.1 hr with rfl | hr
      · refine ⟨by simp, by simp; exact hx.2.1, fun s hs => ?_⟩
        rcases List.mem_append.1 hs with h1 | h1
        · exact hx.2.2 s h1
        · rw [List.mem_singleton] at h1; subst h1; exact hp
      · have := h.each r (by simp [hr])
        exact ⟨this.1, by omega, this.2.2⟩
    · obtain ⟨h1, h2⟩ := RowsIn.put (good := good) hp (rows := rs) ⟨by have := h.len; simp at this; omega, fun r hr => h.each r (by simp [hr])⟩
      refine ⟨fun r hr => ?_, by simp; omega⟩
      rcases List.mem_cons.1 hr with rfl | hr
      · exact ⟨hx.1, by omega, hx.2.2⟩
      · exact h1 r hr
theorem partsTo_in (good : List SP → Bool) (L : List SP) : ∀ m, RowsIn L m (partsTo good L m)
  | 0 => ⟨by simp [partsTo], fun r hr => by simp [partsTo] at hr⟩
  | m + 1 => by
    have ih := partsTo_in good L m
    unfold partsTo
    split
    · rename_i p hp
      split
      · obtain ⟨h1, h2⟩ := RowsIn.put (good := good) (List.mem_of_getElem? hp) ih
        exact ⟨by have := ih.len; omega, h1⟩
      · exact ih.more
    · exact ih.more
/-! Rows in memory. -/
structure RowA where
  a : Option Addr
  c : Nat
def rowV (p : RowA × List SP) : Value := .slice p.1.a p.2.length p.1.c
/-- a row whose block is another than one that grows -/
def RStands (w : World) (row : Option Nat) (p : RowA × List SP) : Prop :=
  p.2.length ≤ p.1.c ∧ p.1.c ≤ 9223372036854775807 ∧ ∃ g, p.1.a = some ⟨g, 0, none⟩ ∧ row ≠ some g ∧ g < w.heap.size ∧ Row w w.heap.size p.1.a (headCells p.2)
theorem RStands.below {w w' : World} {row : Option Nat} {p : RowA × List SP} (h : RStands w row p) (hb : Below w.heap.size w w') : RStands w' row p := by
  obtain ⟨h1, h2, g, h3, h4, h5, h6⟩ := h
  exact ⟨h1, h2, g, h3, h4, Nat.lt_of_lt_of_le h5 hb.size, h6.later hb⟩
theorem RStands.grown {w w' : World} {row row' : Option Nat} {p : RowA × List SP} (h : RStands w row p) (hg : w.grownBy w' row) (hr : row' = row ∨ row' = some w.heap.size) : RStands w' row' p := by
  obtain ⟨h1, h2, g, h3, h4, h5, h6⟩ := h
  refine ⟨h1, h2, g, h3, ?_, Nat.lt_of_lt_of_le h5 hg.size, (h6.aside (Nat.le_refl _) hg (fun ad ha => by
    rw [h3] at ha
    injection ha with ha
    subst ha
    exact h4)).more hg.size⟩
  rcases hr with rfl | rfl
  · exact h4
  · intro he; injection he with he; omega
end Go.Proofs.Ytbgkoopfdfnmcaa
