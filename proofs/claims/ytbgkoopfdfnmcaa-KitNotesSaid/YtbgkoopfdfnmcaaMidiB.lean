/- Held keys: plain law and rows in memory; contract of layer 37's Spans$1; conditions: as each theorem states. -/
import Derived.Test.YtbgkoopfdfnmcaaMidiA
import Derived.Test.YtbgkoopfdfnmcaaKitE
import Derived.Test.YtbgkoopfdfnmcaaLists
import Derived.Test.YtbgkoopfdfnmcaaArr
namespace Go.Proofs.Ytbgkoopfdfnmcaa
open Go.RowKit

theorem wpList_append_run {P : Program} (w : World) {ops : Array Oper} {rest : List Oper} {o : Oper} {a : Act} {Q : Exit → Act → World → Prop} (hgd : o.guard = none) (d s : Operand) (t t' : TypeId)
    (ho : o.op = .call { callee := .builtin .append, args := #[d, s], argTypes := #[t, t'] }) (v x : Value) (hd : a.eval d = v) (hs : a.eval s = x) {v' : Value} {w' : World}
    (hr : (Builtin.append_ #[t, t'] o.type #[v, x]).run P w = .ok v' w') (h : wpList P ops Q rest (a.put o.dst v') w') : wpList P ops Q (o :: rest) a w := by
  refine wpList_plain hgd fun K hK => ?_
  unfold Oper.wp execOp
  simp only [ho, resolve, invoke, builtin, Sem.run_bind, Sem.run_pure, Result.andThen_ok, List.map_toArray, List.map_cons, List.map_nil, hd, hs, hr]
  exact hK _ _ h
structure SpanV where
  ch : Int
  key : Int
  from_ : Int
  to_ : Int
  hard : Int
def SpanV.cells (s : SpanV) : List Value := [.int .i64 s.ch, .int .i64 s.key, .int .i64 s.from_, .int .i64 s.to_, .int .i64 s.hard]
def spanCells (l : List SpanV) : List Value := (l.map SpanV.cells).flatten
def SpanV.is (s : SpanV) (m : MsgV) : Bool := decide (s.ch = m.ch) && decide (s.key = m.a)
/-- the first held key that a message means is let go -/
def letZ (m : MsgV) : List SpanV → List SpanV × Option SpanV
  | [] => ([], none)
  | s :: r => if s.is m = true then (r, some { s with to_ := m.at_ }) else ((s :: (letZ m r).1), (letZ m r).2)
theorem letZ_none {m : MsgV} : ∀ {l : List SpanV}, (∀ (i : Nat) (s : SpanV), l[i]? = some s → s.is m = false) → letZ m l = (l, none)
  | [], _ => rfl
  | s :: r, h => by
    unfold letZ
    rw [if_neg (by rw [h 0 s rfl]; simp), letZ_none (l := r) (fun i t ht => h (i + 1) t (by simpa using ht))]
theorem letZ_some {m : MsgV} : ∀ {l : List SpanV} {i : Nat} {s : SpanV}, l[i]? = some s → (∀ (j : Nat) (t : SpanV), j < i → l[j]? = some t → t.is m = false) → s.is m = true → letZ m l = (l.take i ++ l.drop (i + 1), some { s with to_ := m.at_ })
  | [], i, s, h, _, _ => by simp at h
  | x :: r, 0, s, h, _, hs => by
    simp at h
    subst h
    unfold letZ
    rw [if_pos hs]; rfl
  | x :: r, i + 1, s, h, hj, hs => by
    unfold letZ
    rw [if_neg (by rw [hj 0 x (by omega) rfl]; simp), letZ_some (l := r) (i := i) (by simpa using h) (fun j t hji ht => hj (j + 1) t (by omega) (by simpa using ht)) hs]
    rfl
theorem spanCells_get (L : List SpanV) {k : Nat} {p : SpanV} (h : L[k]? = some p) (j : Nat) (hj : j < 5) : (spanCells L)[k * 5 + j]? = p.cells[j]? := by
  unfold spanCells
  rw [flat_get 5 (L.map SpanV.cells) (fun cs hcs => by obtain ⟨z, _, rfl⟩ := List.mem_map.1 hcs; rfl) k j hj]
  simp [h]
theorem spanCells_len (L : List SpanV) : (spanCells L).length = L.length * 5 := by
  unfold spanCells
  rw [flat_len 5 (L.map SpanV.cells) (fun cs hcs => by obtain ⟨z, _, rfl⟩ := List.mem_map.1 hcs; rfl), List.length_map]
theorem spanCells_app (a b : List SpanV) : spanCells (a ++ b) = spanCells a ++ spanCells b := by simp [spanCells]
theorem span_at {w : World} {B : Nat} {A : Option Addr} {L : List SpanV} (hr : Row w B A (spanCells L)) {k : Nat} {p : SpanV} (h : L[k]? = some p) :
    ∃ b off, A = some ⟨b, off, none⟩ ∧ b < B ∧ ∀ j v, p.cells[j]? = some v → w.cell? ⟨b, off + k * 5 + j, none⟩ = some v := by
  have h0 := spanCells_get L h 0 (by omega)
  obtain ⟨b, off, hA, hb, _⟩ := hr (k * 5 + 0) (.int .i64 p.ch) h0
  refine ⟨b, off, hA, hb, fun j v hv => ?_⟩
  have hj : j < 5 := by have := (List.getElem?_eq_some_iff.1 hv).1; simpa [SpanV.cells] using this
  have h1 := spanCells_get L h j hj
  rw [hv] at h1
  obtain ⟨b', off', hA', _, hc⟩ := hr (k * 5 + j) v h1
  rw [hA] at hA'
  injection hA' with hA'
  injection hA' with e1 e2
  subst e1 e2
  rw [Nat.add_assoc]; exact hc
theorem span_one (l : List SpanV) : ∀ u ∈ spanCells l, u.oneCell' = true := by
  intro u hu
  unfold spanCells at hu
  obtain ⟨cs, hcs, hu⟩ := List.mem_flatten.1 hu
  obtain ⟨z, _, rfl⟩ := List.mem_map.1 hcs
  simp only [SpanV.cells, List.mem_cons, List.not_mem_nil, or_false] at hu
  rcases hu with rfl | rfl | rfl | rfl | rfl <;> rfl
theorem inf_span : (Try.prog.info? 42).map (fun i => (i.zero, i.size, i.bytes)) = some (some (.agg #[.int .i64 0, .int .i64 0, .int .i64 0, .int .i64 0, .int .i64 0]), 5, 40) := by kernel_rfl
/-- keys that are held, in memory: a row of the call's own, or one that is full -/
structure HeldAt (W : World) (base : Nat) (A : Option Addr) (n c : Nat) (xs : List SpanV) : Prop where
  len : xs.length = n
  row : Row W W.heap.size A (spanCells xs)
  le : n ≤ c
  le63 : c ≤ 9223372036854775807
  none_ : A = none → c = 0
  low : ∀ ad, A = some ad → ∃ g, ad = ⟨g, 0, none⟩ ∧ base ≤ g ∧ g < W.heap.size
  own : W.ownsRow base 42 5 (.slice A n c) n (spanCells xs) ∨ c = n
theorem HeldAt.below {W W' : World} {base : Nat} {A : Option Addr} {n c : Nat} {xs : List SpanV} (h : HeldAt W base A n c xs) (hb : Below W.heap.size W W') : HeldAt W' base A n c xs :=
  ⟨h.len, h.row.later hb, h.le, h.le63, h.none_, fun ad ha => by
    obtain ⟨g, h1, h2, h3⟩ := h.low ad ha
    exact ⟨g, h1, h2, Nat.lt_of_lt_of_le h3 hb.size⟩, h.own.imp (fun o => own_below o hb) id⟩
/-- what is written lies in another block -/
theorem HeldAt.grown {W W' : World} {base : Nat} {A : Option Addr} {n c : Nat} {xs : List SpanV} {row : Option Nat} (h : HeldAt W base A n c xs) (hg : W.grownBy W' row) (hne : ∀ ad, A = some ad → row ≠ some ad.block) : HeldAt W' base A n c xs := by
  have hrow : Row W' W.heap.size A (spanCells xs) := fun i v hv => by
    obtain ⟨b, off, ha, hbl, hc⟩ := h.row i v hv
    exact ⟨b, off, ha, hbl, (hg.cell_far ⟨b, off + i, none⟩ hbl (fun e => hne _ ha e.symm)).trans hc⟩
  refine ⟨h.len, hrow.more hg.size, h.le, h.le63, h.none_, fun ad ha => by
    obtain ⟨g, h1, h2, h3⟩ := h.low ad ha
    exact ⟨g, h1, h2, Nat.lt_of_lt_of_le h3 hg.size⟩, ?_⟩
  rcases h.own with o | o
  · cases A with
    | none =>
      have hc := h.none_ rfl
      exact .inr (by have := h.le; omega)
    | some ad =>
      obtain ⟨g, rfl, _, _⟩ := h.low ad rfl
      exact .inl (o.kept hg (.inr (fun e => hne _ rfl (by
        have h2 : (Value.slice (some ⟨g, 0, none⟩) n c).ownBlock = some g := rfl
        rw [← e, h2]))))
  · exact .inr o
/-- the two rows of keys, in memory -/
structure SpSt (W : World) (ph po base : Nat) (A : Option Addr) (n c : Nat) (A2 : Option Addr) (n2 c2 : Nat) (held out : List SpanV) : Prop where
  hh : Blk W ph 33 [.slice A n c]
  ho : Blk W po 33 [.slice A2 n2 c2]
  held : HeldAt W base A n c held
  outs : W.ownsRow base 42 5 (.slice A2 n2 c2) n2 (spanCells out)
  olen : out.length = n2
  ne : ∀ ad ad2, A = some ad → A2 = some ad2 → ad.block ≠ ad2.block
  lt : ph < po ∧ po < base
  bsz : base ≤ W.heap.size
theorem SpSt.below {W W' : World} {ph po base : Nat} {A : Option Addr} {n c : Nat} {A2 : Option Addr} {n2 c2 : Nat} {held out : List SpanV} (h : SpSt W ph po base A n c A2 n2 c2 held out) (hb : Below W.heap.size W W') : SpSt W' ph po base A n c A2 n2 c2 held out :=
  ⟨h.hh.below hb h.hh.lt, h.ho.below hb h.ho.lt, h.held.below hb, own_below h.outs hb, h.olen, h.ne, h.lt, Nat.le_trans h.bsz hb.size⟩
theorem own_start3 {w : World} {base : Nat} {e : TypeId} {size n c : Nat} {A : Option Addr} {xs : List Value} (h : w.ownsRow base e size (.slice A n c) n xs) (hn : 0 < n) : ∃ g, A = some ⟨g, 0, none⟩ ∧ base ≤ g ∧ g < w.heap.size := by
  rcases h.2 with ⟨_, h0⟩ | ⟨g, cap, cur, hv, hb, hh, _⟩
  · omega
  · injection hv with h1
    subst h1
    refine ⟨g, rfl, hb, ?_⟩
    rcases Nat.lt_or_ge g w.heap.size with h2 | h2
    · exact h2
    · rw [Array.getElem?_eq_none h2] at hh; cases hh
theorem own_less {w : World} {base base' : Nat} {e : TypeId} {size n : Nat} {v : Value} {xs : List Value} (h : w.ownsRow base' e size v n xs) (hb : base ≤ base') : w.ownsRow base e size v n xs := by
  obtain ⟨h1, h2⟩ := h
  refine ⟨h1, h2.imp id ?_⟩
  rintro ⟨g, cap, cur, h3, h4, h5⟩
  exact ⟨g, cap, cur, h3, Nat.le_trans hb h4, h5⟩
theorem own_block_lt' {w : World} {base : Nat} {e : TypeId} {size n c g : Nat} {xs : List Value} (h : w.ownsRow base e size (.slice (some ⟨g, 0, none⟩) n c) n xs) : g < w.heap.size := by
  rcases h.2 with ⟨h1, _⟩ | ⟨g', cap, cur, h1, hb, hh, _⟩
  · injection h1 with h1
    cases h1
  · injection h1 with h1
    injection h1 with h1
    injection h1 with h1
    subst h1
    rcases Nat.lt_or_ge g w.heap.size with h2 | h2
    · exact h2
    · rw [Array.getElem?_eq_none h2] at hh; cases hh
/-- what stays: all blocks but the two variables' and the row's that is appended to -/
def SpKeep (W W' : World) (ph po : Nat) (A2 : Option Addr) : Prop := W.heap.size ≤ W'.heap.size ∧ ∀ k, k < W.heap.size → k ≠ ph → k ≠ po → (∀ ad, A2 = some ad → k ≠ ad.block) → W'.heap[k]? = W.heap[k]?
def LetPost (w : World) (ph po base : Nat) (A2 : Option Addr) (held out : List SpanV) (m : MsgV) (e : Ending) (w' : World) : Prop :=
  e = .returned (.tuple #[]) ∧ ∃ A' n' c' A2' n2' c2', SpSt w' ph po base A' n' c' A2' n2' c2' (letZ m held).1 (out ++ (letZ m held).2.toList) ∧ SpKeep w w' ph po A2 ∧ Below ph w w'
set_option maxRecDepth 100000 in
set_option maxHeartbeats 16000000 in
theorem let_any (ph po base : Nat) (A : Option Addr) (n c : Nat) (A2 : Option Addr) (n2 c2 : Nat) (held out : List SpanV) (m : MsgV) (w : World) (h : SpSt w ph po base A n c A2 n2 c2 held out) (hn : n ≤ 10000) (hn2 : n2 ≤ 10000) :
    Calls Try.prog 29 #[.agg m.cells.toArray, .pointer (some ⟨ph, 0, none⟩), .pointer (some ⟨po, 0, none⟩)] w (LetPost w ph po base A2 held out m) := by
  obtain ⟨i0, hi, hz0, hz1, hz2⟩ := info_parts inf_span
  have H := Lib.hid h
  obtain ⟨mt, mk, mc, ma, mb⟩ := m
  have HP := Lib.hid (fun e w' => (show LetPost w ph po base A2 held out ⟨mt, mk, mc, ma, mb⟩ e w' = (e = .returned (.tuple #[]) ∧ ∃ A' n' c' A2' n2' c2', SpSt w' ph po base A' n' c' A2' n2' c2' (letZ ⟨mt, mk, mc, ma, mb⟩ held).1 (out ++ (letZ ⟨mt, mk, mc, ma, mb⟩ held).2.toList) ∧ SpKeep w w' ph po A2 ∧ Below ph w w') from rfl))
  have HZn := Lib.hid (letZ_none (m := ⟨mt, mk, mc, ma, mb⟩) (l := held))
  have HZs := Lib.hid (fun i s => letZ_some (m := ⟨mt, mk, mc, ma, mb⟩) (l := held) (i := i) (s := s))
  have Hl := Lib.hid h.held.len
  show Calls Try.prog 29 #[.agg #[.int .i64 mt, .int .i64 mk, .int .i64 mc, .int .i64 ma, .int .i64 mb], .pointer (some ⟨ph, 0, none⟩), .pointer (some ⟨po, 0, none⟩)] w _
  obtain ⟨w1, hw1⟩ : ∃ w1, w.alloc (.cells #[.int .i64 mt, .int .i64 mk, .int .i64 mc, .int .i64 ma, .int .i64 mb] 30) = w1 := ⟨_, rfl⟩
  have Hb1 := Lib.hid (show Below w.heap.size w w1 by rw [← hw1]; exact bnew w _)
  have Hm := Lib.hid (show Blk w1 w.heap.size 30 [.int .i64 mt, .int .i64 mk, .int .i64 mc, .int .i64 ma, .int .i64 mb] by rw [← hw1]; exact Blk.new w _ [.int .i64 mt, .int .i64 mk, .int .i64 mc, .int .i64 ma, .int .i64 mb])
  have H1 := Lib.hid (H.out.below Hb1.out)
  have xh : w1.cell? ⟨ph, 0, none⟩ = some (.slice A n c) := H1.out.hh.cell 0
  clear h
  go_enter Try.func29, Try.ntmps29
  go_wp2_with fail
  clear xh hw1
  go_loopw [8] (fun v wr => ∃ i : Nat, i ≤ n ∧ v = .int .i64 i ∧ (∀ (j : Nat) (t : SpanV), j < i → held[j]? = some t → t.is ⟨mt, mk, mc, ma, mb⟩ = false) ∧ Below w1.heap.size w1 wr) (fun v _ => n - (intOf v).toNat)
  case atStart => exact ⟨0, by omega, rfl, fun j t hj => by omega, Below.refl _ _⟩
  case round =>
    obtain ⟨i, hi5, rfl, hno, hbel⟩ := hrel
    have Hno := Lib.hid hno
    have Hbel := Lib.hid hbel
    have Hwr := Lib.hid (bnext Hb1.out hbel)
    have HS := Lib.hid (H1.out.below hbel)
    have HM := Lib.hid (Hm.out.below hbel Hm.out.lt)
    clear hno hbel
    by_cases hlt : i < n
    · have t1 : (i : Int) < (n : Int) := by omega
      have t2 : (0 : Int) ≤ (i : Int) := by omega
      obtain ⟨p, hp⟩ := list_get (k := i) Hl.out hlt
      obtain ⟨b, off, hA, hb, hc⟩ := span_at HS.out.held.row hp
      obtain ⟨g, hg, hgb, hgl⟩ := HS.out.held.low _ hA
      injection hg with e1 e2
      subst e1 e2 hA
      obtain ⟨sc, sk, sf, st, sh⟩ := p
      have k0 := hc 0 _ rfl
      have k1 := hc 1 _ rfl
      have k2 := hc 2 _ rfl
      have k3 := hc 3 _ rfl
      have k4 := hc 4 _ rfl
      simp only [Nat.zero_add, Nat.add_zero] at k0 k1 k2 k3 k4
      have xm := blk_cells HM.out
      obtain ⟨w2, hw2⟩ : ∃ w2, wr.alloc (.cells #[.int .i64 sc, .int .i64 sk, .int .i64 sf, .int .i64 st, .int .i64 sh] 42) = w2 := ⟨_, rfl⟩
      have Hb2 := Lib.hid (show Below wr.heap.size wr w2 by rw [← hw2]; exact bnew wr _)
      have HX := Lib.hid (show Blk w2 wr.heap.size 42 [.int .i64 sc, .int .i64 sk, .int .i64 sf, .int .i64 st, .int .i64 sh] by rw [← hw2]; exact Blk.new wr _ [.int .i64 sc, .int .i64 sk, .int .i64 sf, .int .i64 st, .int .i64 sh])
      have HM2 := Lib.hid (HM.out.below Hb2.out HM.out.lt)
      have HS2 := Lib.hid (HS.out.below Hb2.out)
      have Hw2 := Lib.hid (bnext Hwr.out Hb2.out)
      have xm2 : ∀ i, w2.cell? ⟨w.heap.size, i, none⟩ = ([.int .i64 mt, .int .i64 mk, .int .i64 mc, .int .i64 ma, .int .i64 mb] : List Value)[i]? := blk_cells HM2.out
      have xs2 : ∀ i, w2.cell? ⟨wr.heap.size, i, none⟩ = ([.int .i64 sc, .int .i64 sk, .int .i64 sf, .int .i64 st, .int .i64 sh] : List Value)[i]? := blk_cells HX.out
      have Hp := Lib.hid hp
      clear hp hc hb hgb hgl xm
      by_cases hm1 : sc = mc
      · have t3 : (sc == mc) = true := by rw [hm1]; exact beq_self_eq_true mc
        by_cases hm2 : sk = ma
        · have t4 : (sk == ma) = true := by rw [hm2]; exact beq_self_eq_true ma
          have HZ := Lib.hid (HZs.out i _ Hp.out Hno.out (by unfold SpanV.is; simp [hm1, hm2]))
          have ys2 := blk_free HX.out
          clear hm1 hm2
          obtain ⟨w3, hw3⟩ : ∃ w3, w2.setCell ⟨wr.heap.size, 3, none⟩ (.int .i64 mt) = w3 := ⟨_, rfl⟩
          have B3 := Lib.hid (show Below wr.heap.size wr w3 by rw [← hw3]; exact Hb2.out.setCell (Nat.le_refl _) _)
          have HX3 := Lib.hid (show Blk w3 wr.heap.size 42 [.int .i64 sc, .int .i64 sk, .int .i64 sf, .int .i64 mt, .int .i64 sh] by rw [← hw3]; exact HX.out.set_ 3 _)
          have S3 := Lib.hid (HS.out.below B3.out)
          have x3 : ∀ i, w3.cell? ⟨wr.heap.size, i, none⟩ = ([.int .i64 sc, .int .i64 sk, .int .i64 sf, .int .i64 mt, .int .i64 sh] : List Value)[i]? := blk_cells HX3.out
          have xo3 : w3.cell? ⟨po, 0, none⟩ = some (.slice A2 n2 c2) := S3.out.ho.cell 0
          have S4 := Lib.hid (S3.out.below (bnew w3 (.cells #[.int .i64 sc, .int .i64 sk, .int .i64 sf, .int .i64 mt, .int .i64 sh] 42)))
          have hz3 := B3.out.size
          have hbase := S3.out.bsz
          have HA2 := Lib.hid (own_block_ge S3.out.outs)
          have hsl := World.size_alloc w3 (.cells #[.int .i64 sc, .int .i64 sk, .int .i64 sf, .int .i64 mt, .int .i64 sh] 42)
          go_wp2_with (first | (refine wpList_build_one rfl 33 42 (.tmp 29) rfl i0 _ 5 Try.underlying33 hi hz0 hz1 (by omega) (by omega) #[.int .i64 sc, .int .i64 sk, .int .i64 sf, .int .i64 mt, .int .i64 sh] rfl rfl ?_) | (at_builtin; refine wpList_app _ rfl (.tmp 28) (.tmp 30) 33 rfl base 42 i0 _ 5 40 Try.underlying33 hi hz0 hz1 hz2 rfl (by omega) (.slice A2 n2 c2) n2 (spanCells out) rfl S4.out.outs (w3.heap.size + 1) (some ⟨w3.heap.size, 0, none⟩) 1 1 [.int .i64 sc, .int .i64 sk, .int .i64 sf, .int .i64 mt, .int .i64 sh] rfl rfl (Row.new w3 _ _) (span_one [⟨sc, sk, sf, mt, sh⟩]) (by omega) (by omega) (by simp; omega) ?_; intro A3 c3 w5 hown5 hgr5 hat5 hcc5; have Bo5 := S4.out.ho.grown hgr5 (fun e => by have := HA2.out po e.symm; have := S3.out.lt; omega); have xo5 : w5.cell? ⟨po, 0, none⟩ = some (.slice A2 n2 c2) := Bo5.cell 0; have yo5 := blk_free Bo5))
          obtain ⟨w6, hw6⟩ : ∃ w6, w5.setCell ⟨po, 0, none⟩ (.slice A3 (n2 + 1) c3) = w6 := ⟨_, rfl⟩
          rw [hw6]
          have hlt3 := S3.out.lt
          have hpw : po < w5.heap.size := Bo5.lt
          have Hg56 := Lib.hid (show w5.grownBy w6 (some po) by rw [← hw6]; exact ⟨rfl, rfl, rfl, by simp, fun k _ hk => Below.heap_setCell _ _ _ _ (fun e => hk (by simp [e]))⟩)
          obtain ⟨g3, hg3, hg3b, hg3l⟩ := own_start3 hown5 (by omega)
          subst hg3
          have hne3 : g3 ≠ b := fun e => by
            subst e
            rcases hat5 with h | h
            · have hA : A2 = some ⟨g3, 0, none⟩ := by
                rcases S3.out.outs.2 with ⟨h1, _⟩ | ⟨g', cap', cur', h1, _⟩
                · injection h1 with h1
                  rw [h1] at h
                  cases h
                · injection h1 with h1
                  rw [h1] at h ⊢
                  have h2 : some g3 = some g' := h
                  injection h2 with h2
                  rw [h2]
              exact S3.out.ne _ _ rfl hA rfl
            · have h2 : some g3 = some (w3.alloc (.cells #[.int .i64 sc, .int .i64 sk, .int .i64 sf, .int .i64 mt, .int .i64 sh] 42)).heap.size := h
              injection h2 with h2
              obtain ⟨g', e', _, h3⟩ := S3.out.held.low _ rfl
              injection e' with e'
              omega
          have Hh5 := Lib.hid (S4.out.held.grown hgr5 (fun ad ha e => by
            injection ha with ha
            subst ha
            rcases hat5 with h | h
            · exact hne3 (by have h2 : some g3 = (Value.slice A2 n2 c2).ownBlock := h; rw [e] at h2; injection h2)
            · rcases S3.out.outs.2 with ⟨h1, _⟩ | ⟨g', cap', cur', h1, _⟩
              · injection h1 with h1
                rw [h1] at e
                cases e
              · injection h1 with h1
                have h2 : (Value.slice A2 n2 c2).ownBlock = some g' := by rw [h1]; rfl
                rw [h2] at e
                injection e with e
                exact S3.out.ne _ _ rfl h1 e.symm))
          have hbb : base ≤ b := by
            obtain ⟨g', e', h2, _⟩ := S3.out.held.low _ rfl
            injection e' with e'
            omega
          have S6 := Lib.hid (show SpSt w6 ph po base (some ⟨b, 0, none⟩) n c (some ⟨g3, 0, none⟩) (n2 + 1) c3 held (out ++ [⟨sc, sk, sf, mt, sh⟩]) from
            { hh := (S4.out.hh.grown hgr5 (fun e => by have := HA2.out ph e.symm; omega)).grown Hg56.out (fun e => by injection e with e; omega)
              ho := by rw [← hw6]; exact Bo5.set_ 0 _
              held := Hh5.out.grown Hg56.out (fun ad ha e => by injection ha with ha; subst ha; injection e with e; simp only at e; omega)
              outs := by
                have h := hown5.kept Hg56.out (.inr (fun e => by
                  have h2 : (Value.slice (some (⟨g3, 0, none⟩ : Addr)) (n2 + 1) c3).ownBlock = some g3 := rfl
                  rw [h2] at e
                  injection e with e
                  omega))
                rw [spanCells_app]
                exact h
              olen := by rw [List.length_append, S3.out.olen]; rfl
              ne := fun ad ad2 h1 h2 => by injection h1 with h1; injection h2 with h2; subst h1 h2; exact fun e => hne3 e.symm
              lt := hlt3
              bsz := by have := Hg56.out.size; have := hgr5.size; omega })
          have K6 := Lib.hid (show SpKeep w w6 ph po A2 from ⟨by have := Hg56.out.size; have := hgr5.size; have := Hwr.out.size; omega, fun k hk h1 h2 h3 => by
            have e1 : w3.heap[k]? = w.heap[k]? := (bnext Hwr.out B3.out).block k hk
            have hk3 : k < w3.heap.size := by have := Hwr.out.size; omega
            have e2 : (w3.alloc (.cells #[.int .i64 sc, .int .i64 sk, .int .i64 sf, .int .i64 mt, .int .i64 sh] 42)).heap[k]? = w3.heap[k]? := (bnew w3 _).block k hk3
            have e3 : w5.heap[k]? = (w3.alloc (.cells #[.int .i64 sc, .int .i64 sk, .int .i64 sf, .int .i64 mt, .int .i64 sh] 42)).heap[k]? := hgr5.block k (by omega) (fun e => by
              rcases S3.out.outs.2 with ⟨h4, _⟩ | ⟨g', cap', cur', h4, _⟩
              · injection h4 with h4
                rw [h4] at e
                cases e
              · injection h4 with h4
                have h5 : (Value.slice A2 n2 c2).ownBlock = some g' := by rw [h4]; rfl
                rw [h5] at e
                injection e with e
                exact h3 _ h4 e)
            have e4 : w6.heap[k]? = w5.heap[k]? := Hg56.out.block k (by have := hgr5.size; omega) (fun e => by injection e with e; exact h2 e)
            rw [e4, e3, e2, e1]⟩)
          have N6 := Lib.hid (show Below ph w w6 from by
            have h1 : Below ph w w3 := (bnext Hwr.out B3.out).mono (Nat.le_of_lt H.out.hh.lt)
            have h2 : Below ph w (w3.alloc (.cells #[.int .i64 sc, .int .i64 sk, .int .i64 sf, .int .i64 mt, .int .i64 sh] 42)) := h1.alloc (by omega) _
            have h3 : Below ph w w5 := h2.grown hgr5 (by omega) (fun k hk => by have := HA2.out k hk; omega)
            exact h3.grown Hg56.out (by have := hgr5.size; omega) (fun k hk => by injection hk with hk; omega))
          clear hown5 hgr5 hat5 hcc5 Bo5 xo5 yo5 hw6 Hh5 Hg56 S4 S3 B3 HX3 x3 xo3 hsl hw3 hw2 xm2 xs2 ys2
          have hnc := S6.out.held.le
          have HZ1 := Lib.hid (show (letZ ⟨mt, mk, mc, ma, mb⟩ held).1 = held.take i ++ held.drop (i + 1) by rw [HZ.out])
          have HZ2 := Lib.hid (show out ++ (letZ ⟨mt, mk, mc, ma, mb⟩ held).2.toList = out ++ [⟨sc, sk, sf, mt, sh⟩] by rw [HZ.out]; rfl)
          have xph := fun (z : GW w6) => (show z.1.cell? ⟨ph, 0, none⟩ = some (.slice (some ⟨b, 0, none⟩) n c) from (z.2.cell (p := ⟨ph, 0, none⟩) S6.out.hh.lt).trans (S6.out.hh.cell 0))
          have t5 : ¬ ((c : Int) < (i : Int)) := by omega
          have t6 : (i : Int) ≤ (c : Int) := by omega
          have t7 : (i : Int) + 1 ≤ (n : Int) := by omega
          by_cases hlast : i + 1 < n
          · have t8 : ¬ (c = i + 1) := by omega
            have t9 : ¬ (i + (n - (i + 1)) ≤ i) := by omega
            refine wp_region_calm_tail 8 (by kernel_rfl) (by kernel_rfl) ?_
            simp only [List.take_succ_cons, List.take_zero, List.drop_succ_cons, List.drop_zero]
            repeat (go_big_quiet_step (fail))
            refine wpQuiet_nil ?_
            intro w7 hw'
            have B7 := Lib.hid (gw_below hw')
            clear hw' xph
            have S7 := Lib.hid (S6.out.below B7.out)
            have hrow7 := S7.out.held.row
            have hl5 := spanCells_len held
            rw [S7.out.held.len] at hl5
            have hcells : ∀ j u, (spanCells held)[j]? = some u → w7.cell? ⟨b, j, none⟩ = some u := fun j u hu => by
              obtain ⟨b', o', ha, _, hc⟩ := hrow7 j u hu
              injection ha with ha
              injection ha with e1 e2
              subst e1 e2
              rwa [Nat.zero_add] at hc
            have hsplit : spanCells held = spanCells (held.take i) ++ spanCells (held.drop i) := by rw [← spanCells_app, List.take_append_drop]
            have hsplit2 : spanCells held = spanCells (held.take (i + 1)) ++ spanCells (held.drop (i + 1)) := by rw [← spanCells_app, List.take_append_drop]
            have hlt1 : (spanCells (held.take i)).length = i * 5 := by rw [spanCells_len, List.length_take, S7.out.held.len, Nat.min_eq_left (by omega)]
            have hlt2 : (spanCells (held.take (i + 1))).length = (i + 1) * 5 := by rw [spanCells_len, List.length_take, S7.out.held.len, Nat.min_eq_left (by omega)]
            have hld : (spanCells (held.drop (i + 1))).length = (n - (i + 1)) * 5 := by rw [spanCells_len, List.length_drop, S7.out.held.len]
            obtain ⟨v', w8, hrun, hown8, hgr8⟩ := run_append_arg_grows (P := Try.prog) w7 33 33 42 i0 _ 5 40 Try.underlying33 hi hz0 hz1 hz2 rfl (by omega) ⟨b, 0, none⟩ i i (spanCells (held.take i)) hlt1 (fun j u hu => by
              have h1 : (spanCells held)[j]? = some u := by rw [hsplit, List.getElem?_append_left (List.getElem?_eq_some_iff.1 hu).1]; exact hu
              have h2 := hcells j u h1
              unfold Addr.add
              split
              · rename_i hj
                have hj : j = 0 := by simpa using hj
                subst hj
                exact h2
              · rw [Nat.zero_add]; exact h2) ⟨b, (i + 1) * 5, none⟩ (n - (i + 1)) (c - (i + 1)) (spanCells (held.drop (i + 1))) hld (fun j u hu => by
              have h1 : (spanCells held)[(i + 1) * 5 + j]? = some u := by
                rw [hsplit2, List.getElem?_append_right (by omega), hlt2, Nat.add_sub_cancel_left]; exact hu
              have h2 := hcells _ u h1
              unfold Addr.add
              split
              · rename_i hj
                have hj : j = 0 := by simpa using hj
                subst hj
                exact h2
              · exact h2) (by omega) (by simp only [maxLen]; omega) (by omega)
            obtain ⟨A8, c8, rfl, hc8, hn8⟩ := own_form hown8
            have hc8b := own_cap hown8
            rw [← spanCells_app] at hown8
            obtain ⟨g8, rfl, hg8, hg8l⟩ := own_start3 hown8 (by omega)
            have Bh8 := S7.out.hh.grown hgr8 nofun
            have xh8 : w8.cell? ⟨ph, 0, none⟩ = some (.slice (some ⟨b, 0, none⟩) n c) := Bh8.cell 0
            have yh8 := blk_free Bh8
            obtain ⟨w9, hw9⟩ : ∃ w9, w8.setCell ⟨ph, 0, none⟩ (.slice (some ⟨g8, 0, none⟩) (i + (n - (i + 1))) c8) = w9 := ⟨_, rfl⟩
            have Hg9 := Lib.hid (show w8.grownBy w9 (some ph) by rw [← hw9]; exact ⟨rfl, rfl, rfl, by simp, fun k _ hk => Below.heap_setCell _ _ _ _ (fun e => hk (by simp [e]))⟩)
            have hz7 := B7.out.size
            have S9 := Lib.hid (show SpSt w9 ph po base (some ⟨g8, 0, none⟩) (i + (n - (i + 1))) c8 (some ⟨g3, 0, none⟩) (n2 + 1) c3 (held.take i ++ held.drop (i + 1)) (out ++ [⟨sc, sk, sf, mt, sh⟩]) from
              have hph8 : ∀ k, k ≠ ph → (some k : Option Nat) ≠ some ph := fun k hk e => by injection e with e; exact hk e
              have hown9 := hown8.kept Hg9.out (.inr (fun e => by
                have h2 : (Value.slice (some (⟨g8, 0, none⟩ : Addr)) (i + (n - (i + 1))) c8).ownBlock = some g8 := rfl
                rw [h2] at e
                injection e with e
                have := S7.out.hh.lt
                omega))
              { hh := by rw [← hw9]; exact Bh8.set_ 0 _
                ho := (S7.out.ho.grown hgr8 nofun).grown Hg9.out (hph8 _ (by omega))
                held := ⟨by rw [List.length_append, List.length_take, List.length_drop, S7.out.held.len, Nat.min_eq_left (by omega)], Row.of_own hown9, hc8, hc8b, nofun, fun ad ha => by
                    injection ha with ha
                    exact ⟨g8, ha.symm, by have := S7.out.bsz; omega, Nat.lt_of_lt_of_le hg8l Hg9.out.size⟩, .inl (own_less hown9 S7.out.bsz)⟩
                outs := (S7.out.outs.kept hgr8 (.inr nofun)).kept Hg9.out (.inr (fun e => by
                  have h2 : (Value.slice (some (⟨g3, 0, none⟩ : Addr)) (n2 + 1) c3).ownBlock = some g3 := rfl
                  rw [h2] at e
                  injection e with e
                  omega))
                olen := S7.out.olen
                ne := fun ad ad2 h1 h2 => by
                  injection h1 with h1
                  injection h2 with h2
                  subst h1 h2
                  have := own_block_lt' S7.out.outs
                  intro e
                  simp only at e
                  omega
                lt := hlt3
                bsz := by have := S7.out.bsz; have := hgr8.size; have := Hg9.out.size; omega })
            have K9 := Lib.hid (show SpKeep w w9 ph po A2 from ⟨by have := K6.out.1; have := hgr8.size; have := Hg9.out.size; omega, fun k hk h1 h2 h3 => by
              have hk6 : k < w6.heap.size := by have := K6.out.1; omega
              have e1 := B7.out.block k hk6
              have e2 := hgr8.block k (by omega) nofun
              have e3 := Hg9.out.block k (by have := hgr8.size; omega) (fun e => by injection e with e; exact h1 e)
              rw [e3, e2, e1, K6.out.2 k hk h1 h2 h3]⟩)
            have N9 := Lib.hid (show Below ph w w9 from by
              have hl6 := S6.out.hh.lt
              have h1 : Below ph w w7 := N6.out.trans (B7.out.mono (by omega))
              have h2 : Below ph w w8 := h1.grown hgr8 (by omega) nofun
              exact h2.grown Hg9.out (by have := hgr8.size; omega) (fun k hk => by injection hk with hk; omega))
            clear hown8 hgr8 hcells hsplit hsplit2 hlt1 hlt2 hld hl5 hrow7 Bh8
            go_wp2_with (at_builtin; refine wpList_append_run _ rfl (.tmp 35) (.tmp 39) 33 33 rfl _ _ rfl rfl hrun ?_)
            refine bodyPost_end (v := .tuple #[]) (results_none Try.results29 _ _ _) rfl ?_
            rw [HP.out, HZ1.out, HZ2.out]
            exact ⟨rfl, some ⟨g8, 0, none⟩, i + (n - (i + 1)), c8, some ⟨g3, 0, none⟩, n2 + 1, c3, S9.out, K9.out, N9.out⟩
          · obtain rfl : n = i + 1 := by omega
            have hz0' : i + 1 - (i + 1) = 0 := by omega
            have hdrop : held.take i ++ held.drop (i + 1) = held.take i := by
              rw [List.drop_eq_nil_of_le (by rw [S6.out.held.len]; exact Nat.le_refl _), List.append_nil]
            have hcc : c = i + 1 ∨ ¬ (c = i + 1) := by omega
            rcases hcc with hce | hce
            all_goals
              refine wp_region_calm_tail 8 (by kernel_rfl) (by kernel_rfl) ?_
              simp only [List.take_succ_cons, List.take_zero, List.drop_succ_cons, List.drop_zero]
              repeat (go_big_quiet_step (fail))
              refine wpQuiet_nil ?_
              intro w7 hw'
              have B7 := Lib.hid (gw_below hw')
              clear hw' xph
              have S7 := Lib.hid (S6.out.below B7.out)
              have xh7 : w7.cell? ⟨ph, 0, none⟩ = some (.slice (some ⟨b, 0, none⟩) (i + 1) c) := S7.out.hh.cell 0
              have yh7 := blk_free S7.out.hh
              obtain ⟨w9, hw9⟩ : ∃ w9, w7.setCell ⟨ph, 0, none⟩ (.slice (some ⟨b, 0, none⟩) i i) = w9 := ⟨_, rfl⟩
              have Hg9 := Lib.hid (show w7.grownBy w9 (some ph) by rw [← hw9]; exact ⟨rfl, rfl, rfl, by simp, fun k _ hk => Below.heap_setCell _ _ _ _ (fun e => hk (by simp [e]))⟩)
              have hz7 := B7.out.size
              have S9 := Lib.hid (show SpSt w9 ph po base (some ⟨b, 0, none⟩) i i (some ⟨g3, 0, none⟩) (n2 + 1) c3 (held.take i ++ held.drop (i + 1)) (out ++ [⟨sc, sk, sf, mt, sh⟩]) from
                have hh9 : HeldAt w9 base (some ⟨b, 0, none⟩) (i + 1) c held := S7.out.held.grown Hg9.out (fun ad ha e => by injection ha with ha; subst ha; injection e with e; simp only at e; omega)
                { hh := by rw [← hw9]; exact S7.out.hh.set_ 0 _
                  ho := S7.out.ho.grown Hg9.out (fun e => by injection e with e; omega)
                  held := by
                    rw [hdrop]
                    have hsplit : spanCells held = spanCells (held.take i) ++ spanCells (held.drop i) := by rw [← spanCells_app, List.take_append_drop]
                    exact ⟨by rw [List.length_take, hh9.len]; omega, fun j v hv => hh9.row j v (by rw [hsplit, List.getElem?_append_left (List.getElem?_eq_some_iff.1 hv).1]; exact hv), Nat.le_refl _, by have := hh9.le63; omega, nofun, hh9.low, .inr rfl⟩
                  outs := S7.out.outs.kept Hg9.out (.inr (fun e => by
                    have h2 : (Value.slice (some (⟨g3, 0, none⟩ : Addr)) (n2 + 1) c3).ownBlock = some g3 := rfl
                    rw [h2] at e
                    injection e with e
                    omega))
                  olen := S7.out.olen
                  ne := S7.out.ne
                  lt := hlt3
                  bsz := by have := S7.out.bsz; have := Hg9.out.size; omega })
              have K9 := Lib.hid (show SpKeep w w9 ph po A2 from ⟨by have := K6.out.1; have := Hg9.out.size; omega, fun k hk h1 h2 h3 => by
                have hk6 : k < w6.heap.size := by have := K6.out.1; omega
                have e1 := B7.out.block k hk6
                have e3 := Hg9.out.block k (by omega) (fun e => by injection e with e; exact h1 e)
                rw [e3, e1, K6.out.2 k hk h1 h2 h3]⟩)
              have N9 := Lib.hid (show Below ph w w9 from by
                have hl6 := S6.out.hh.lt
                have h1 : Below ph w w7 := N6.out.trans (B7.out.mono (by omega))
                exact h1.grown Hg9.out (by omega) (fun k hk => by injection hk with hk; omega))
              clear hz0'
              go_wp2
              refine bodyPost_end (v := .tuple #[]) (results_none Try.results29 _ _ _) rfl ?_
              rw [HP.out, HZ1.out, HZ2.out]
              exact ⟨rfl, some ⟨b, 0, none⟩, i, i, some ⟨g3, 0, none⟩, n2 + 1, c3, S9.out, K9.out, N9.out⟩
        · have t4 : (sk == ma) = false := beq_eq_false_iff_ne.2 hm2
          have hno2 : ∀ (j : Nat) (t : SpanV), j < i + 1 → held[j]? = some t → t.is ⟨mt, mk, mc, ma, mb⟩ = false := fun j t hj ht => by
            by_cases hji : j = i
            · subst hji
              rw [Hp.out] at ht
              injection ht with ht
              rw [← ht]; unfold SpanV.is; simp [hm2]
            · exact Hno.out j t (by omega) ht
          have Hno2 := Lib.hid hno2
          clear hno2 hm1 hm2
          go_wp2
          go_roundw
          case rel => exact ⟨i + 1, by omega, by go_num, Hno2.out, bnext Hbel.out Hb2.out⟩
          case measure => simp [intOf]; omega
      · have t3 : (sc == mc) = false := beq_eq_false_iff_ne.2 hm1
        have hno2 : ∀ (j : Nat) (t : SpanV), j < i + 1 → held[j]? = some t → t.is ⟨mt, mk, mc, ma, mb⟩ = false := fun j t hj ht => by
          by_cases hji : j = i
          · subst hji
            rw [Hp.out] at ht
            injection ht with ht
            rw [← ht]; unfold SpanV.is; simp [hm1]
          · exact Hno.out j t (by omega) ht
        have Hno2 := Lib.hid hno2
        clear hno2 hm1
        go_wp2
        go_roundw
        case rel => exact ⟨i + 1, by omega, by go_num, Hno2.out, bnext Hbel.out Hb2.out⟩
        case measure => simp [intOf]; omega
    · have hin : i = n := by omega
      subst hin
      have t1 : ¬ ((i : Int) < (i : Int)) := by omega
      have hz := HZn.out (fun j t hj => Hno.out j t (by have := (List.getElem?_eq_some_iff.1 hj).1; rw [Hl.out] at this; exact this) hj)
      have Hz := Lib.hid hz
      clear hz
      go_wp2
      refine bodyPost_end (v := .tuple #[]) (results_none Try.results29 _ _ _) rfl ?_
      rw [HP.out, Hz.out]
      refine ⟨rfl, A, i, c, A2, n2, c2, by simpa using HS.out, ⟨Hwr.out.size, fun k hk _ _ _ => Hwr.out.block k hk⟩, Hwr.out.mono ?_⟩
      exact Nat.le_of_lt H.out.hh.lt
end Go.Proofs.Ytbgkoopfdfnmcaa
