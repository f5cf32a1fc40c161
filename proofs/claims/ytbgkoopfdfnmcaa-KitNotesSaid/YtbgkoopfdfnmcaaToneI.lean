/- Contract of layer 11's Out; conditions: as each theorem states. -/
import Derived.Test.YtbgkoopfdfnmcaaToneH
namespace Go.Proofs.Ytbgkoopfdfnmcaa
open Go.RowKit

def outStep (b : List Int) (t : ToneV) : List Int := if 0 ≤ t.idx ∧ t.idx < 16 then b.set t.idx.toNat (bgt b t.idx.toNat - t.val) else b
def outT (b : List Int) (ts : List ToneV) : List Int := ts.foldl outStep b
theorem outStep_len (b : List Int) (t : ToneV) : (outStep b t).length = b.length := by unfold outStep; split <;> simp
theorem outT_len (b : List Int) : ∀ (ts : List ToneV), (outT b ts).length = b.length := by
  intro ts
  unfold outT
  induction ts generalizing b with
  | nil => rfl
  | cons t r ih => rw [List.foldl_cons, ih, outStep_len]
theorem outT_succ (b : List Int) {ts : List ToneV} {m : Nat} {t : ToneV} (h : ts[m]? = some t) : outT b (ts.take (m + 1)) = outStep (outT b (ts.take m)) t := by
  obtain ⟨hm, rfl⟩ := List.getElem?_eq_some_iff.1 h
  unfold outT
  rw [List.take_succ_eq_append_getElem hm, List.foldl_append]
  rfl
theorem Blk.of_heap {w : World} {g : Nat} {t : TypeId} {cs : List Value} (h : w.heap[g]? = some (.cells cs.toArray t (0, 0))) : Blk w g t cs := h

end Go.Proofs.Ytbgkoopfdfnmcaa
