/- CodeY. Conditions: as each theorem states. -/
import Derived.Test.YtbgkoopfdfnmcaaGreatCc36
import Derived.Test.YtbgkoopfdfnmcaaGreatCc40

namespace Go.Proofs.YtbgkoopfdfnmcaaGreat
open Go.RowKit

theorem row_of_list {W : World} {g : Nat} {t : TypeId} {l : List Int} (h : Blk W g t (l.map (.int .i64))) : Row W W.heap.size (some ⟨g, 0, none⟩) (l.map (.int .i64)) := fun i v hv => ⟨g, 0, rfl, h.lt, by rw [h.cell, Nat.zero_add]; exact hv⟩
end Go.Proofs.YtbgkoopfdfnmcaaGreat
