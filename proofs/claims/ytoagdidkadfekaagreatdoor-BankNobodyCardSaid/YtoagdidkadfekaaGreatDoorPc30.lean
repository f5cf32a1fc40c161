/- KitF. Conditions: as each theorem states. -/
import Derived.WalkSpells
import Derived.Test.YtoagdidkadfekaaGreatDoorPc08

namespace Go.Proofs.YtoagdidkadfekaaGreatDoor
open Go.RowKit

theorem own_empty (w : World) (e : TypeId) (size : Nat) : (w.alloc (.cells #[] e)).ownsRow w.heap.size e size (.slice (some ⟨w.heap.size, 0, none⟩) 0 0) 0 [] := by
  refine ⟨by simp, .inr ⟨w.heap.size, 0, #[], rfl, Nat.le_refl _, heap_alloc_new w _, Nat.le_refl _, by simp [maxLen], by simp, by simp⟩⟩
theorem zone_one (zs : List ZoneV) : ∀ u ∈ zoneCells zs, u.oneCell' = true := by
  intro u hu
  unfold zoneCells at hu
  obtain ⟨cs, hcs, hu⟩ := List.mem_flatten.1 hu
  obtain ⟨z, _, rfl⟩ := List.mem_map.1 hcs
  simp only [ZoneV.cells, List.mem_cons, List.not_mem_nil, or_false] at hu
  rcases hu with rfl | rfl | rfl | rfl | rfl | rfl | rfl | rfl | rfl | rfl | rfl <;> rfl

def ZonesPost (W : World) (zs : List ZoneV) (e : Ending) (w' : World) : Prop := ∃ A c, e = .returned (.slice A zs.length c) ∧ zs.length ≤ c ∧ c ≤ 9223372036854775807 ∧ Row w' w'.heap.size A (zoneCells zs) ∧ (∀ ad, A = some ad → W.heap.size ≤ ad.block) ∧ Below W.heap.size W w'

end Go.Proofs.YtoagdidkadfekaaGreatDoor
