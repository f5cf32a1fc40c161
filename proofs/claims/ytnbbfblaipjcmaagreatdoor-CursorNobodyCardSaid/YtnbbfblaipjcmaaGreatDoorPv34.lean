/- KitF. Conditions: as each theorem states. -/
import Derived.WalkSpells
import Derived.Test.YtnbbfblaipjcmaaGreatDoorPv09
namespace Go.Proofs.YtnbbfblaipjcmaaGreatDoor
open Go.RowKit
theorem mP (w:World) (e:TypeId) (size:Nat):(w.alloc (.cells #[] e)).ownsRow w.heap.size e size (.slice (some ⟨w.heap.size,0,none⟩) 0 0) 0 []:=by
 refine ⟨by simp,.inr ⟨w.heap.size,0,#[],rfl,Nat.le_refl _,heap_alloc_new w _,Nat.le_refl _,by simp [maxLen],by simp,by simp⟩⟩
end Go.Proofs.YtnbbfblaipjcmaaGreatDoor
