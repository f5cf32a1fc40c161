/- What a slice of zones that can be read as data looks like; the law KitFinds. No condition. -/
import Derived.Test.YtbgkoopfdfnmcaaKitK
namespace Go.Proofs.Ytbgkoopfdfnmcaa
open Go.RowKit

abbrev zoneTy : Ty := .pair (.int .i64) 1 (.pair (.int .i64) 1 (.pair (.int .i64) 1 (.pair (.int .i64) 1 (.pair (.str) 1 (.pair (.int .i64) 1 (.pair (.int .i64) 1 (.pair (.pair (.int .i64) 1 (.pair (.int .i64) 1 (.pair (.int .i64) 1 (.pair (.int .i64) 1 (.unit))))) 4 (.unit))))))))
theorem zone_shape {w : World} {cs : List Value} (h : Shape w zoneTy cs) : ∃ z : ZoneV, cs = z.cells := by
  obtain ⟨c1, r1, rfl, ⟨lo, rfl, _, _⟩, c2, r2, rfl, ⟨hi, rfl, _, _⟩, c3, r3, rfl, ⟨so, rfl, _, _⟩, c4, r4, rfl, ⟨ha, rfl, _, _⟩, c5, r5, rfl, ⟨nm, rfl, _⟩, c6, r6, rfl, ⟨ro, rfl, _, _⟩, c7, r7, rfl, ⟨lu, rfl, _, _⟩, c8, r8, rfl, h8, rfl⟩ := h
  obtain ⟨d1, e1, rfl, ⟨a, rfl, _, _⟩, d2, e2, rfl, ⟨d, rfl, _, _⟩, d3, e3, rfl, ⟨s, rfl, _, _⟩, d4, e4, rfl, ⟨r, rfl, _, _⟩, rfl⟩ := h8
  exact ⟨⟨lo, hi, so, ha, nm, ro, lu, a, d, s, r⟩, rfl⟩
theorem map_of {α : Type} {f : α → List Value} : ∀ (css : List (List Value)), (∀ cs ∈ css, ∃ z : α, cs = f z) → ∃ l : List α, css = l.map f
  | [], _ => ⟨[], rfl⟩
  | cs :: r, h => by
    obtain ⟨z, rfl⟩ := h cs (by simp)
    obtain ⟨l, rfl⟩ := map_of r (fun c hc => h c (by simp [hc]))
    exact ⟨z :: l, rfl⟩
theorem zones_arg {w : World} {v : Value} (h : Arg w (.slice 11 zoneTy) v) : ∃ (l : List ZoneV) (A : Option Addr) (cap : Nat), v = .slice A l.length cap ∧ l.length ≤ cap ∧ cap ≤ 9223372036854775807 ∧ (A = none → cap = 0) ∧ Row w w.heap.size A (zoneCells l) := by
  obtain ⟨a, len, cap, hv, h1, h2, h3, h4⟩ := h
  obtain ⟨css, hl, _, hs, hrow⟩ := rows_of_shape h4
  obtain ⟨l, rfl⟩ := map_of css (fun cs hcs => zone_shape (hs cs hcs))
  rw [List.length_map] at hl
  injection hv with hv
  subst hv hl
  exact ⟨l, a, cap, rfl, h1, h2, fun ha => (h3 ha).2, hrow⟩

end Go.Proofs.Ytbgkoopfdfnmcaa
