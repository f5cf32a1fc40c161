/- Several new blocks, one behind the other. No condition but each theorem's own. -/
import Derived.Test.YtbgkoopfdfnmcaaArr
namespace Go.Proofs.Ytbgkoopfdfnmcaa
open Go.RowKit

section
variable (w : World) (A B C D E : Obj)
theorem heap1 : (w.alloc A).heap[w.heap.size]? = some A ∧ (w.alloc A).heap.size = w.heap.size + 1 ∧ Below w.heap.size w (w.alloc A) := ⟨heap_alloc_new w A, World.size_alloc _ _, bnew _ _⟩
theorem heap2 : ((w.alloc A).alloc B).heap[w.heap.size]? = some A ∧ ((w.alloc A).alloc B).heap[w.heap.size + 1]? = some B ∧ ((w.alloc A).alloc B).heap.size = w.heap.size + 2 ∧ Below w.heap.size w ((w.alloc A).alloc B) := by
  obtain ⟨a, s, b⟩ := heap1 w A
  refine ⟨(heap_alloc_old _ _ (by omega)).trans a, ?_, by rw [World.size_alloc, s], b.alloc (by omega) _⟩
  have := heap_alloc_new (w.alloc A) B
  rwa [s] at this
theorem heap3 : (((w.alloc A).alloc B).alloc C).heap[w.heap.size]? = some A ∧ (((w.alloc A).alloc B).alloc C).heap[w.heap.size + 1]? = some B ∧ (((w.alloc A).alloc B).alloc C).heap[w.heap.size + 1 + 1]? = some C ∧
    (((w.alloc A).alloc B).alloc C).heap.size = w.heap.size + 3 ∧ Below w.heap.size w (((w.alloc A).alloc B).alloc C) := by
  obtain ⟨a, b, s, l⟩ := heap2 w A B
  refine ⟨(heap_alloc_old _ _ (by omega)).trans a, (heap_alloc_old _ _ (by omega)).trans b, ?_, by rw [World.size_alloc, s], l.alloc (by omega) _⟩
  have := heap_alloc_new ((w.alloc A).alloc B) C
  rwa [s] at this
theorem heap4 : ((((w.alloc A).alloc B).alloc C).alloc D).heap[w.heap.size]? = some A ∧ ((((w.alloc A).alloc B).alloc C).alloc D).heap[w.heap.size + 1]? = some B ∧ ((((w.alloc A).alloc B).alloc C).alloc D).heap[w.heap.size + 1 + 1]? = some C ∧
    ((((w.alloc A).alloc B).alloc C).alloc D).heap[w.heap.size + 1 + 1 + 1]? = some D ∧ ((((w.alloc A).alloc B).alloc C).alloc D).heap.size = w.heap.size + 4 ∧ Below w.heap.size w ((((w.alloc A).alloc B).alloc C).alloc D) := by
  obtain ⟨a, b, c, s, l⟩ := heap3 w A B C
  refine ⟨(heap_alloc_old _ _ (by omega)).trans a, (heap_alloc_old _ _ (by omega)).trans b, (heap_alloc_old _ _ (by omega)).trans c, ?_, by rw [World.size_alloc, s], l.alloc (by omega) _⟩
  have := heap_alloc_new (((w.alloc A).alloc B).alloc C) D
  rwa [s] at this
end
/-- a block stays where nothing below it turns -/
theorem hkeep {w w' : World} {g : Nat} {o : Obj} (h : w.heap[g]? = some o) (hb : Below w.heap.size w w') : w'.heap[g]? = some o := by
  refine (hb.block g ?_).trans h
  rcases Nat.lt_or_ge g w.heap.size with h1 | h1
  · exact h1
  · rw [Array.getElem?_eq_none h1] at h; cases h
theorem hlt {w : World} {g : Nat} {o : Obj} (h : w.heap[g]? = some o) : g < w.heap.size := by
  rcases Nat.lt_or_ge g w.heap.size with h1 | h1
  · exact h1
  · rw [Array.getElem?_eq_none h1] at h; cases h
end Go.Proofs.Ytbgkoopfdfnmcaa
