/- Contract of layer 11's Find; conditions: as each theorem states. -/
import Derived.Test.YtbgkoopfdfnmcaaToneE
import Derived.Test.YtbgkoopfdfnmcaaKitE
namespace Go.Proofs.Ytbgkoopfdfnmcaa
open Go.RowKit

def toneCells (ts : List ToneV) : List Value := (ts.map ToneV.cells).flatten
theorem bt_cells (ts : List BTone) : (ts.map BTone.cells).flatten = toneCells (ts.map BTone.t) := by
  unfold toneCells; rw [List.map_map]; rfl
theorem bt_ones (ts : List BTone) : ∀ u ∈ (ts.map BTone.cells).flatten, u.oneCell' = true := by
  intro u hu
  obtain ⟨cs, hcs, hu⟩ := List.mem_flatten.1 hu
  obtain ⟨z, _, rfl⟩ := List.mem_map.1 hcs
  exact bt_one z u hu
def TonesPost (W : World) (ts : List ToneV) (e : Ending) (w' : World) : Prop := ∃ A c, e = .returned (.slice A ts.length c) ∧ ts.length ≤ c ∧ c ≤ 9223372036854775807 ∧ (ts = [] ∨ ∃ g, A = some ⟨g, 0, none⟩ ∧ W.heap.size ≤ g) ∧ Row w' w'.heap.size A (toneCells ts) ∧ Below W.heap.size W w'

end Go.Proofs.Ytbgkoopfdfnmcaa
