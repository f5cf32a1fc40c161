/- LayC. Conditions: as each theorem states. -/
import Derived.Test.YtoagdidkadfekaaGreatDoorPfxLayB
import Derived.Test.YtoagdidkadfekaaGreatDoorPf30
import Derived.Test.YtoagdidkadfekaaGreatDoorPfxLayT

namespace Go.Proofs.YtoagdidkadfekaaGreatDoor
open Go.RowKit Go.Lib

/-- how many frames are laid ahead of the entry m -/
def kTo (PM : List MetaV) (nf : Nat) : Nat → Nat
  | 0 => 0
  | m + 1 => match PM[m]? with
    | some x => min (kTo PM nf m + (framesN x).toNat) nf
    | none => kTo PM nf m
/-- the writes of an entry's first n frames -/
def lawF (size : Nat) (x : MetaV) (FR : List (List Nat)) (k : Nat) : Nat → List (Nat × List Nat)
  | 0 => []
  | n + 1 => lawF size x FR k n ++ match FR[k + n]? with
    | some f => [(x.sums.toNat + 4 * n, numB 4 (crcZ f).toNat), (x.first.toNat + size * n, f)]
    | none => []
/-- the writes of the first m entries -/
def lawTo (size : Nat) (PM : List MetaV) (FR : List (List Nat)) : Nat → List (Nat × List Nat)
  | 0 => []
  | m + 1 => lawTo size PM FR m ++ match PM[m]? with
    | some x => entryW (16 + 64 * m) x ++ lawF size x FR (kTo PM FR.length m) (framesN x).toNat
    | none => []
/-- the bytes ahead of the sum -/
def lawB (size : Nat) (PM : List MetaV) (FR : List (List Nat)) (N : Nat) : List Nat := lays (List.replicate N 0) (headW N PM.length size ++ lawTo size PM FR PM.length)
/-- law 15's image -/
def lawZ (size : Nat) (PM : List MetaV) (FR : List (List Nat)) (N : Nat) : List Nat :=
  putAt (lawB size PM FR N) (16 + 64 * PM.length) (numB 4 (crcZ ((lawB size PM FR N).take (16 + 64 * PM.length))).toNat)
theorem kTo_succ {PM : List MetaV} {nf m : Nat} {x : MetaV} (h : PM[m]? = some x) : kTo PM nf (m + 1) = min (kTo PM nf m + (framesN x).toNat) nf := by
  show (match PM[m]? with | some x => min (kTo PM nf m + (framesN x).toNat) nf | none => kTo PM nf m) = _
  rw [h]
theorem kTo_le (PM : List MetaV) (nf : Nat) : ∀ m, kTo PM nf m ≤ nf
  | 0 => Nat.zero_le _
  | m + 1 => by
    cases h : PM[m]? with
    | none =>
      have ih := kTo_le PM nf m
      show (match PM[m]? with | some x => min (kTo PM nf m + (framesN x).toNat) nf | none => kTo PM nf m) ≤ nf
      rw [h]
      exact ih
    | some x => rw [kTo_succ h]; exact Nat.min_le_right _ _
theorem lawTo_succ {size : Nat} {PM : List MetaV} {FR : List (List Nat)} {m : Nat} {x : MetaV} (h : PM[m]? = some x) : lawTo size PM FR (m + 1) = lawTo size PM FR m ++ (entryW (16 + 64 * m) x ++ lawF size x FR (kTo PM FR.length m) (framesN x).toNat) := by
  show lawTo size PM FR m ++ (match PM[m]? with | some x => _ | none => _) = _
  rw [h]
theorem lawF_succ {size : Nat} {x : MetaV} {FR : List (List Nat)} {k n : Nat} {f : List Nat} (h : FR[k + n]? = some f) : lawF size x FR k (n + 1) = lawF size x FR k n ++ [(x.sums.toNat + 4 * n, numB 4 (crcZ f).toNat), (x.first.toNat + size * n, f)] := by
  show lawF size x FR k n ++ (match FR[k + n]? with | some f => _ | none => _) = _
  rw [h]
theorem lawF_none {size : Nat} {x : MetaV} {FR : List (List Nat)} {k n : Nat} (h : FR.length ≤ k + n) : lawF size x FR k (n + 1) = lawF size x FR k n := by
  show lawF size x FR k n ++ (match FR[k + n]? with | some f => _ | none => _) = _
  rw [List.getElem?_eq_none h, List.append_nil]
theorem lawF_rest {size : Nat} {x : MetaV} {FR : List (List Nat)} {k n : Nat} (h : FR.length ≤ k + n) : ∀ r, lawF size x FR k (n + r) = lawF size x FR k n
  | 0 => rfl
  | r + 1 => by rw [← Nat.add_assoc, lawF_none (by omega), lawF_rest h r]
end Go.Proofs.YtoagdidkadfekaaGreatDoor
