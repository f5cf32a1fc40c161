/- FitK. Conditions: as each theorem states. -/
import Derived.Test.YtbgkoopfdfnmcaaGreatCc25

namespace Go.Proofs.YtbgkoopfdfnmcaaGreat
open Go.RowKit

theorem set_same {α : Type} {l : List α} {i : Nat} {x : α} (h : l[i]? = some x) : l.set i x = l := by
  apply List.ext_getElem?
  intro j
  rw [List.getElem?_set]
  by_cases hj : i = j
  · subst hj
    rw [if_pos rfl, if_pos (List.getElem?_eq_some_iff.1 h).1, h]
  · rw [if_neg hj]
end Go.Proofs.YtbgkoopfdfnmcaaGreat
