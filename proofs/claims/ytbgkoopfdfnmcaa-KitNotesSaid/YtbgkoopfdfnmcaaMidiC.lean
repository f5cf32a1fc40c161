/- Held keys in memory: a key more, a key let go; conditions: as each theorem states. -/
import Derived.Test.YtbgkoopfdfnmcaaMidiB
namespace Go.Proofs.Ytbgkoopfdfnmcaa
open Go.RowKit

/-- a row's block, by its slice -/
theorem own_block_of {w : World} {base : Nat} {e : TypeId} {size n c : Nat} {A : Option Addr} {xs : List Value} (h : w.ownsRow base e size (.slice A n c) n xs) {k : Nat} (hk : (Value.slice A n c).ownBlock = some k) : A = some ⟨k, 0, none⟩ := by
  rcases h.2 with ⟨h1, _⟩ | ⟨g, cap, cur, h1, _⟩
  · injection h1 with h1
    rw [h1] at hk
    cases hk
  · injection h1 with h1
    subst h1
    have h2 : some g = some k := hk
    injection h2 with h2
    rw [h2]
theorem set_grown (w : World) (p : Nat) (v : Value) : w.grownBy (w.setCell ⟨p, 0, none⟩ v) (some p) := ⟨rfl, rfl, rfl, by simp, fun k _ hk => Below.heap_setCell _ _ _ _ (fun e => hk (by simp [e]))⟩
/-- a key more in the row of those let go -/
theorem SpSt.push_out {w w5 : World} {ph po base : Nat} {A : Option Addr} {n c : Nat} {A2 : Option Addr} {n2 c2 : Nat} {held out : List SpanV} (h : SpSt w ph po base A n c A2 n2 c2 held out) (s : SpanV) {A3 : Option Addr} {c3 : Nat}
    (hown : w5.ownsRow base 42 5 (.slice A3 (n2 + 1) c3) (n2 + 1) (spanCells out ++ s.cells)) (hgr : w.grownBy w5 (Value.slice A2 n2 c2).ownBlock) (hat : (Value.slice A3 (n2 + 1) c3).ownBlock = (Value.slice A2 n2 c2).ownBlock ∨ (Value.slice A3 (n2 + 1) c3).ownBlock = some w.heap.size) :
    SpSt (w5.setCell ⟨po, 0, none⟩ (.slice A3 (n2 + 1) c3)) ph po base A n c A3 (n2 + 1) c3 held (out ++ [s]) := by
  have HA2 := own_block_ge h.outs
  have hlt := h.lt
  have Bo5 := h.ho.grown hgr (fun e => by have := HA2 po e.symm; omega)
  have Hg := set_grown w5 po (.slice A3 (n2 + 1) c3)
  obtain ⟨g3, rfl, hg3b, hg3l⟩ := own_start3 hown (by omega)
  have hA : ∀ ad, A = some ad → ∃ b, ad = ⟨b, 0, none⟩ ∧ base ≤ b ∧ b < w.heap.size ∧ g3 ≠ b := fun ad ha => by
    obtain ⟨b, e1, h2, h3⟩ := h.held.low ad ha
    refine ⟨b, e1, h2, h3, fun e => ?_⟩
    subst e e1
    rcases hat with h4 | h4
    · have h5 : some g3 = (Value.slice A2 n2 c2).ownBlock := h4
      exact h.ne _ _ ha (own_block_of h.outs h5.symm) rfl
    · have h5 : some g3 = some w.heap.size := h4
      injection h5 with h5
      omega
  exact
    { hh := (h.hh.grown hgr (fun e => by have := HA2 ph e.symm; omega)).grown Hg (fun e => by injection e with e; omega)
      ho := Bo5.set_ 0 _
      held := (h.held.grown hgr (fun ad ha e => by
        obtain ⟨b, e1, _, _, h5⟩ := hA ad ha
        have h6 := own_block_of h.outs e
        exact h.ne _ _ ha h6 rfl)).grown Hg (fun ad ha e => by
        obtain ⟨b, e1, h2, _, _⟩ := hA ad ha
        subst e1
        injection e with e
        simp only at e
        omega)
      outs := by
        rw [spanCells_app, show spanCells [s] = s.cells by simp [spanCells]]
        exact hown.kept Hg (.inr (fun e => by
          have h2 : (Value.slice (some (⟨g3, 0, none⟩ : Addr)) (n2 + 1) c3).ownBlock = some g3 := rfl
          rw [h2] at e
          injection e with e
          omega))
      olen := by rw [List.length_append, h.olen]; rfl
      ne := fun ad ad2 h1 h2 => by
        obtain ⟨b, e1, _, _, h5⟩ := hA ad h1
        injection h2 with h2
        subst e1 h2
        exact fun e => h5 e.symm
      lt := hlt
      bsz := by have := h.bsz; have := hgr.size; have := Hg.size; omega }
/-- the row of held keys is another one -/
theorem SpSt.new_held {w w8 : World} {ph po base : Nat} {A : Option Addr} {n c : Nat} {A2 : Option Addr} {n2 c2 : Nat} {held out held' : List SpanV} (h : SpSt w ph po base A n c A2 n2 c2 held out) {g8 n8 c8 : Nat} {row : Option Nat}
    (hown : w8.ownsRow base 42 5 (.slice (some ⟨g8, 0, none⟩) n8 c8) n8 (spanCells held')) (hlen : held'.length = n8) (hgr : w.grownBy w8 row) (hrow : ∀ k, row = some k → A = some ⟨k, 0, none⟩) (hg8 : A = some ⟨g8, 0, none⟩ ∨ w.heap.size ≤ g8) :
    SpSt (w8.setCell ⟨ph, 0, none⟩ (.slice (some ⟨g8, 0, none⟩) n8 c8)) ph po base (some ⟨g8, 0, none⟩) n8 c8 A2 n2 c2 held' out := by
  have hlt := h.lt
  have Hg := set_grown w8 ph (.slice (some ⟨g8, 0, none⟩) n8 c8)
  have hrb : ∀ k, row = some k → base ≤ k := fun k hk => by
    obtain ⟨b, e1, h2, _⟩ := h.held.low _ (hrow k hk)
    injection e1 with e1
    omega
  have hg8b : base ≤ g8 := own_block_ge hown g8 rfl
  have Bh8 := h.hh.grown hgr (fun e => by have := hrb ph e.symm; omega)
  have hown9 := hown.kept Hg (.inr (fun e => by
    have h2 : (Value.slice (some (⟨g8, 0, none⟩ : Addr)) n8 c8).ownBlock = some g8 := rfl
    rw [h2] at e
    injection e with e
    omega))
  have hout8 : w8.ownsRow base 42 5 (.slice A2 n2 c2) n2 (spanCells out) := h.outs.kept hgr (by
    by_cases hz : (Value.slice A2 n2 c2).ownBlock = none
    · exact .inl hz
    · right
      intro e
      cases hr : row with
      | none => rw [hr] at e; exact hz e
      | some k =>
        rw [hr] at e
        exact h.ne _ _ (hrow k hr) (own_block_of h.outs e) rfl)
  obtain ⟨A', c', e1, hc1, _⟩ := own_form hown
  injection e1 with e1 e2 e3
  subst e3
  exact
    { hh := Bh8.set_ 0 _
      ho := (h.ho.grown hgr (fun e => by have := hrb po e.symm; omega)).grown Hg (fun e => by injection e with e; omega)
      held := ⟨hlen, Row.of_own hown9, hc1, own_cap hown, nofun, fun ad ha => by
        injection ha with ha
        exact ⟨g8, ha.symm, hg8b, Nat.lt_of_lt_of_le (own_block_lt' hown) Hg.size⟩, .inl hown9⟩
      outs := hout8.kept Hg (by
        by_cases hz : (Value.slice A2 n2 c2).ownBlock = none
        · exact .inl hz
        · right
          intro e
          have := own_block_ge h.outs ph e
          omega)
      olen := h.olen
      ne := fun ad ad2 h1 h2 => by
        injection h1 with h1
        subst h1
        rcases hg8 with h3 | h3
        · exact h.ne _ _ h3 h2
        · intro e
          simp only at e
          rcases h.outs.2 with ⟨h4, _⟩ | ⟨g, cap, cur, h4, _⟩
          · injection h4 with h4
            rw [h4] at h2
            cases h2
          · injection h4 with h4
            rw [h4] at h2
            injection h2 with h2
            subst h2
            have h5 := h.outs
            rw [h4] at h5
            have := own_block_lt' h5
            simp only at e
            omega
      lt := hlt
      bsz := by have := h.bsz; have := hgr.size; have := Hg.size; omega }
theorem addr_cell {w : World} {b off j : Nat} {u : Value} (h : w.cell? ⟨b, off + j, none⟩ = some u) : w.cell? ((⟨b, off, none⟩ : Addr).add j) = some u := by
  unfold Addr.add
  split
  · rename_i hj
    have hj : j = 0 := by simpa using hj
    subst hj
    exact h
  · exact h
set_option maxRecDepth 100000 in
/-- a key more is held: the append's run -/
theorem SpSt.run_push {w : World} {ph po base : Nat} {A : Option Addr} {n c : Nat} {A2 : Option Addr} {n2 c2 : Nat} {held out : List SpanV} (h : SpSt w ph po base A n c A2 n2 c2 held out) (s : SpanV) {g : Nat} (hs : Row w w.heap.size (some ⟨g, 0, none⟩) s.cells) (hn : n ≤ 10000) :
    ∃ g8 c8 w8 row, (Builtin.append_ #[33, 33] 33 #[.slice A n c, .slice (some ⟨g, 0, none⟩) 1 1]).run Try.prog w = .ok (.slice (some ⟨g8, 0, none⟩) (n + 1) c8) w8 ∧
      w8.ownsRow base 42 5 (.slice (some ⟨g8, 0, none⟩) (n + 1) c8) (n + 1) (spanCells (held ++ [s])) ∧ w.grownBy w8 row ∧ (∀ k, row = some k → A = some ⟨k, 0, none⟩) ∧ (A = some ⟨g8, 0, none⟩ ∨ w.heap.size ≤ g8) := by
  obtain ⟨i0, hi, hz0, hz1, hz2⟩ := info_parts inf_span
  have hone : ∀ u ∈ s.cells, u.oneCell' = true := by
    have := span_one [s]
    rwa [show spanCells [s] = s.cells by simp [spanCells]] at this
  have happ : spanCells (held ++ [s]) = spanCells held ++ s.cells := by rw [spanCells_app, show spanCells [s] = s.cells by simp [spanCells]]
  have hown : w.ownsRow base 42 5 (.slice A n c) n (spanCells held) ∨ (c = n ∧ ∃ b, A = some ⟨b, 0, none⟩) := by
    rcases h.held.own with h1 | h1
    · exact .inl h1
    · cases A with
      | none =>
        have hc := h.held.none_ rfl
        subst hc
        subst h1
        have : held = [] := List.eq_nil_of_length_eq_zero h.held.len
        subst this
        exact .inl (World.ownsRow_nil _ _ _ _)
      | some ad =>
        obtain ⟨b, e1, _⟩ := h.held.low ad rfl
        exact .inr ⟨h1, b, by rw [e1]⟩
  rcases hown with hown | ⟨rfl, b, rfl⟩
  · obtain ⟨A', c', w', hrun, h1, h2, h3, _⟩ := run_app (P := Try.prog) (ty := 33) w base 33 42 i0 _ 5 40 Try.underlying33 hi hz0 hz1 hz2 rfl (by omega) (.slice A n c) n (spanCells held) hown w.heap.size (some ⟨g, 0, none⟩) 1 1 s.cells rfl hs hone (by omega) (by omega) h.bsz
    obtain ⟨g8, rfl, _, _⟩ := own_start3 h1 (by omega)
    refine ⟨g8, c', w', (Value.slice A n c).ownBlock, hrun, by rw [happ]; exact h1, h2, fun k hk => own_block_of hown hk, ?_⟩
    rcases h3 with h3 | h3
    · have h4 : some g8 = (Value.slice A n c).ownBlock := h3
      exact .inl (own_block_of hown h4.symm)
    · have h4 : some g8 = some w.heap.size := h3
      injection h4 with h4
      exact .inr (by omega)
  · have hrow := h.held.row
    obtain ⟨v', w', hrun, h1, h2⟩ := run_append_arg_grows (P := Try.prog) w 33 33 42 i0 _ 5 40 Try.underlying33 hi hz0 hz1 hz2 rfl (by omega) ⟨b, 0, none⟩ c c (spanCells held) (by rw [spanCells_len, h.held.len]) (fun j u hu => addr_cell (by
      obtain ⟨b', o', ha, _, hc⟩ := hrow j u hu
      injection ha with ha
      injection ha with e1 e2
      subst e1 e2
      exact hc)) ⟨g, 0, none⟩ 1 1 s.cells rfl (fun j u hu => addr_cell (by
      obtain ⟨b', o', ha, _, hc⟩ := hs j u hu
      injection ha with ha
      injection ha with e1 e2
      subst e1 e2
      exact hc)) (by omega) (by simp only [maxLen]; omega) (by omega)
    obtain ⟨A', c', rfl, _, _⟩ := own_form h1
    obtain ⟨g8, rfl, hg8, _⟩ := own_start3 h1 (by omega)
    exact ⟨g8, c', w', none, hrun, by rw [happ]; exact own_less h1 h.bsz, h2, nofun, .inr hg8⟩
set_option maxRecDepth 100000 in
/-- a key that is not the last is let go: the append's run -/
theorem SpSt.run_cut {w : World} {ph po base b : Nat} {n c : Nat} {A2 : Option Addr} {n2 c2 : Nat} {held out : List SpanV} (h : SpSt w ph po base (some ⟨b, 0, none⟩) n c A2 n2 c2 held out) {i : Nat} (hi1 : i + 1 < n) (hn : n ≤ 10000) :
    ∃ g8 c8 w8, (Builtin.append_ #[33, 33] 33 #[.slice (some ⟨b, 0, none⟩) i i, .slice (some ⟨b, (i + 1) * 5, none⟩) (n - (i + 1)) (c - (i + 1))]).run Try.prog w = .ok (.slice (some ⟨g8, 0, none⟩) (i + (n - (i + 1))) c8) w8 ∧
      w8.ownsRow base 42 5 (.slice (some ⟨g8, 0, none⟩) (i + (n - (i + 1))) c8) (i + (n - (i + 1))) (spanCells (held.take i ++ held.drop (i + 1))) ∧ w.grownBy w8 none ∧ w.heap.size ≤ g8 := by
  obtain ⟨i0, hi, hz0, hz1, hz2⟩ := info_parts inf_span
  have hcells : ∀ j u, (spanCells held)[j]? = some u → w.cell? ⟨b, j, none⟩ = some u := fun j u hu => by
    obtain ⟨b', o', ha, _, hc⟩ := h.held.row j u hu
    injection ha with ha
    injection ha with e1 e2
    subst e1 e2
    rwa [Nat.zero_add] at hc
  have hsplit : spanCells held = spanCells (held.take i) ++ spanCells (held.drop i) := by rw [← spanCells_app, List.take_append_drop]
  have hsplit2 : spanCells held = spanCells (held.take (i + 1)) ++ spanCells (held.drop (i + 1)) := by rw [← spanCells_app, List.take_append_drop]
  have hlt1 : (spanCells (held.take i)).length = i * 5 := by rw [spanCells_len, List.length_take, h.held.len, Nat.min_eq_left (by omega)]
  have hlt2 : (spanCells (held.take (i + 1))).length = (i + 1) * 5 := by rw [spanCells_len, List.length_take, h.held.len, Nat.min_eq_left (by omega)]
  have hld : (spanCells (held.drop (i + 1))).length = (n - (i + 1)) * 5 := by rw [spanCells_len, List.length_drop, h.held.len]
  obtain ⟨v', w8, hrun, hown8, hgr8⟩ := run_append_arg_grows (P := Try.prog) w 33 33 42 i0 _ 5 40 Try.underlying33 hi hz0 hz1 hz2 rfl (by omega) ⟨b, 0, none⟩ i i (spanCells (held.take i)) hlt1 (fun j u hu => addr_cell (by
    rw [Nat.zero_add]
    exact hcells j u (by rw [hsplit, List.getElem?_append_left (List.getElem?_eq_some_iff.1 hu).1]; exact hu))) ⟨b, (i + 1) * 5, none⟩ (n - (i + 1)) (c - (i + 1)) (spanCells (held.drop (i + 1))) hld (fun j u hu => addr_cell (hcells _ u (by
    rw [hsplit2, List.getElem?_append_right (by omega), hlt2, Nat.add_sub_cancel_left]; exact hu))) (by omega) (by simp only [maxLen]; omega) (by omega)
  obtain ⟨A8, c8, rfl, _, _⟩ := own_form hown8
  rw [← spanCells_app] at hown8
  obtain ⟨g8, rfl, hg8, _⟩ := own_start3 hown8 (by omega)
  exact ⟨g8, c8, w8, hrun, own_less hown8 h.bsz, hgr8, hg8⟩
/-- the last key is let go -/
theorem SpSt.cut_last {w : World} {ph po base b : Nat} {i c : Nat} {A2 : Option Addr} {n2 c2 : Nat} {held out : List SpanV} (h : SpSt w ph po base (some ⟨b, 0, none⟩) (i + 1) c A2 n2 c2 held out) :
    SpSt (w.setCell ⟨ph, 0, none⟩ (.slice (some ⟨b, 0, none⟩) i i)) ph po base (some ⟨b, 0, none⟩) i i A2 n2 c2 (held.take i ++ held.drop (i + 1)) out := by
  have hlt := h.lt
  have Hg := set_grown w ph (.slice (some ⟨b, 0, none⟩) i i)
  have hbb : base ≤ b := by
    obtain ⟨g', e', h2, _⟩ := h.held.low _ rfl
    injection e' with e'
    omega
  have hh9 := h.held.grown Hg (fun ad ha e => by injection ha with ha; subst ha; injection e with e; simp only at e; omega)
  have hdrop : held.take i ++ held.drop (i + 1) = held.take i := by
    rw [List.drop_eq_nil_of_le (by rw [h.held.len]; exact Nat.le_refl _), List.append_nil]
  exact
    { hh := h.hh.set_ 0 _
      ho := h.ho.grown Hg (fun e => by injection e with e; omega)
      held := by
        rw [hdrop]
        have hsplit : spanCells held = spanCells (held.take i) ++ spanCells (held.drop i) := by rw [← spanCells_app, List.take_append_drop]
        exact ⟨by rw [List.length_take, hh9.len]; omega, fun j v hv => hh9.row j v (by rw [hsplit, List.getElem?_append_left (List.getElem?_eq_some_iff.1 hv).1]; exact hv), Nat.le_refl _, by have := hh9.le63; have := hh9.le; omega, nofun, hh9.low, .inr rfl⟩
      outs := h.outs.kept Hg (by
        by_cases hz : (Value.slice A2 n2 c2).ownBlock = none
        · exact .inl hz
        · right
          intro e
          have := own_block_ge h.outs ph e
          omega)
      olen := h.olen
      ne := h.ne
      lt := hlt
      bsz := by have := h.bsz; have := Hg.size; omega }
end Go.Proofs.Ytbgkoopfdfnmcaa
