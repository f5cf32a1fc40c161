/- ParT. Conditions: as each theorem states. -/
import Derived.Test.YtoagdidkadfekaaGreatDoorPexParR
import Derived.Test.YtoagdidkadfekaaGreatDoorPe33

namespace Go.Proofs.YtoagdidkadfekaaGreatDoor
open Go.RowKit Go.Lib

theorem flat_bytes {w : World} : ∀ (css : List (List Value)), (∀ cs ∈ css, Shape w (.int .u8) cs) → ∃ (B : List Nat), B.length = css.length ∧ css.flatten = u8s B ∧ ∀ x ∈ B, x < 256
  | [], _ => ⟨[], rfl, rfl, nofun⟩
  | cs :: r, h => by
    obtain ⟨B, h1, h2, h3⟩ := flat_bytes r (fun c hc => h c (by simp [hc]))
    obtain ⟨n, rfl, h4, h5⟩ := h cs (by simp)
    have h4 : 0 ≤ n := h4
    have h5 : n ≤ 255 := h5
    obtain ⟨k, rfl⟩ := Int.eq_ofNat_of_zero_le h4
    refine ⟨k :: B, by simp [h1], by rw [List.flatten_cons, h2]; rfl, fun x hx => ?_⟩
    rcases List.mem_cons.1 hx with rfl | hx
    · omega
    · exact h3 x hx
theorem take_row {w : World} {W : Nat} {A : Option Addr} {xs : List Value} (h : Row w W A xs) (n : Nat) : Row w W A (xs.take n) := fun i v hv => by
  rw [List.getElem?_take] at hv
  split at hv
  · exact h i v hv
  · cases hv
theorem take_u8s (B : List Nat) (n : Nat) : u8s (B.take n) = (u8s B).take n := by unfold u8s; rw [List.map_take]
end Go.Proofs.YtoagdidkadfekaaGreatDoor
