/- KitF. Conditions: as each theorem states. -/
import Derived.WalkSpells
import Derived.Test.YtbpgfkjhclpbdaaGreatDoorPw09
namespace Go.Proofs.YtbpgfkjhclpbdaaGreatDoor
open Tryz
open Go.RowKit
theorem nS(w:World)(e:TypeId)(size:Nat):(w.alloc (.cells #[] e)).ownsRow w.heap.size e size (.slice (some ⟨w.heap.size,0,none⟩) 0 0) 0 []:=by
 refine⟨by simp,.inr ⟨w.heap.size,0,#[],rfl,LE _,LT w _,LE _,by simp[maxLen],by simp,by simp⟩⟩
end Go.Proofs.YtbpgfkjhclpbdaaGreatDoor
