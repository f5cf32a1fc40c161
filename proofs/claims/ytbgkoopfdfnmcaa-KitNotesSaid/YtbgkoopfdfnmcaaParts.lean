/- Arrays that are parts of a block: loads of them; arrays of integers compared; frames' values. No condition but each theorem's own. -/
import Derived.Test.YtbgkoopfdfnmcaaQuantC
import Derived.ChangeKeysEq
import Derived.Laws.Tables
namespace Go.Proofs.Ytbgkoopfdfnmcaa
open Go.RowKit

section
variable {P : Program} {ops : Array Oper} {rest : List Oper} {o : Oper} {a : Act} {w : World} {Q : Exit → Act → World → Prop}
theorem add_off (g off j : Nat) : (⟨g, off, none⟩ : Addr).add j = ⟨g, off + j, none⟩ := by
  unfold Addr.add
  split
  · rename_i h; simp_all
  · rfl
theorem run_loadVar_part (w : World) (g off : Nat) (ty : TypeId) (xs : List Value) (d : TypeDesc) (h : ∀ j v, xs[j]? = some v → w.cell? ⟨g, off + j, none⟩ = some v)
    (hu : P.underlying ty = some d) (hd : (match d with | .struct _ | .array _ _ => true | _ => false) = true) (hi : (P.info? ty).map (·.size) = some xs.length) :
    (loadVar ty ⟨g, off, none⟩).run P w = .ok (.agg xs.toArray) w := by
  have hl : (loadCells ⟨g, off, none⟩ xs.length).run P w = .ok xs.toArray w :=
    run_loadCells_list (P := P) w ⟨g, off, none⟩ xs (fun j v hv => by rw [add_off]; exact h j v hv)
  cases hq : P.info? ty with
  | none => simp [hq] at hi
  | some i =>
    have hs : i.size = xs.length := by simpa [hq] using hi
    have hagg : (isAgg ty).run P w = .ok true w := by
      unfold isAgg
      rw [Sem.run_bind, run_underlying hu w]
      cases d <;> simp_all
    simp [loadVar, Sem.run_bind, hagg, sizeOf, typeInfo, hq, hs, hl]
/-- an array that is a part of a block, out of memory -/
theorem wpList_load_part_w (hgd : Region.wanted o (yielded ops a.tmps) = true) (ty : TypeId) (x : Operand) (ho : o.op = .load ty x)
    (g off : Nat) (hx : a.eval x = .pointer (some ⟨g, off, none⟩)) (xs : List Value) (d : TypeDesc) (h : ∀ j v, xs[j]? = some v → w.cell? ⟨g, off + j, none⟩ = some v)
    (hu : P.underlying ty = some d) (hd : (match d with | .struct _ | .array _ _ => true | _ => false) = true) (hi : (P.info? ty).map (·.size) = some xs.length)
    (hk : wpList P ops Q rest (a.put o.dst (.agg xs.toArray)) w) : wpList P ops Q (o :: rest) a w :=
  wpList_wanted hgd fun _ hK => by
    unfold Oper.wp execOp
    simp only [ho, hx, Instr.loadAt, Instr.sureAddr, Sem.run_bind, Sem.run_pure, Result.andThen_ok, run_loadVar_part w g off ty xs d h hu hd hi]
    exact hK _ _ hk
theorem quiet_load_part {C : World → Prop} {K : Act → Prop} (ty : TypeId) (x : Operand) (ho : o.op = .load ty x)
    (g off : Nat) (hx : a.eval x = .pointer (some ⟨g, off, none⟩)) (xs : List Value) (d : TypeDesc) (h : ∀ w, C w → ∀ j v, xs[j]? = some v → w.cell? ⟨g, off + j, none⟩ = some v)
    (hu : P.underlying ty = some d) (hd : (match d with | .struct _ | .array _ _ => true | _ => false) = true) (hi : (P.info? ty).map (·.size) = some xs.length)
    (hk : K (a.put o.dst (.agg xs.toArray))) : o.quiet P a C K := by
  refine ⟨_, fun w hw => ?_, hk⟩
  unfold Oper.quietAt execOp
  simp only [ho, hx, Instr.loadAt, Instr.sureAddr, Sem.run_bind, Sem.run_pure, Result.andThen_ok, run_loadVar_part w g off ty xs d (h w hw) hu hd hi]
  exact ⟨rfl, rfl⟩

/-- a struct or an array is built -/
theorem wpList_built (hgd : o.guard = none) (t : TypeId) (parts : Array (Nat × Operand)) (ho : o.op = .build t parts) (cs : Array Value)
    (hb : P.built t (parts.map fun (i, x) => (i, a.eval x)).toList = some cs) (h : wpList P ops Q rest (a.put o.dst (.agg cs)) w) : wpList P ops Q (o :: rest) a w :=
  wpList_build hgd t parts ho (by rw [hb]; rfl) (by rw [hb]; exact h)
theorem run_part_int {e : TypeId} {k : IntKind} (he : P.underlying e = some (.int k)) {i : TypeInfo} (hi : P.info? e = some i) (hs : i.size = 1) (a : List Int) {j : Nat} {x : Int} (hx : a[j]? = some x) (w : World) :
    (part e (a.map (Value.int .i64)).toArray (j * 1)).run P w = .ok (.int .i64 x) w := by
  have ha : (isAgg e).run P w = .ok false w := by
    unfold isAgg
    rw [Sem.run_bind, run_underlying he w]
    simp
  unfold part
  simp [Sem.run_bind, sizeOf, typeInfo, hi, hs, ha, hx]
theorem run_eqItems_ints (d : Nat) {e : TypeId} (he : P.underlying e = some (.int .i64)) {i : TypeInfo} (hi : P.info? e = some i) (hs : i.size = 1) (a b : List Int) (w : World) : ∀ (is : List Nat), (∀ j ∈ is, j < a.length ∧ j < b.length) →
    (Op.eqItems (d + 1) e 1 (a.map (Value.int .i64)).toArray (b.map (Value.int .i64)).toArray is).run P w = .ok (is.all fun j => decide (bgt a j = bgt b j)) w
  | [], _ => by simp [Op.eqItems]
  | j :: is, h => by
    obtain ⟨h1, h2⟩ := h j (by simp)
    have e1 := List.getElem?_eq_getElem h1
    have e2 := List.getElem?_eq_getElem h2
    have ih := run_eqItems_ints d he hi hs a b w is (fun k hk => h k (by simp [hk]))
    simp only [Op.eqItems, Sem.run_bind, run_part_int he hi hs a e1, run_part_int he hi hs b e2, Result.andThen_ok, Op.equalIn, run_underlying he, if_true, Sem.run_pure]
    rw [List.all_cons, bgt_get e1, bgt_get e2]
    by_cases hh : a[j] = b[j]
    · simp [hh, ih]
    · simp [hh]
theorem all_range_eq {a b : List Int} {n : Nat} (ha : a.length = n) (hb : b.length = n) : (List.range n).all (fun j => decide (bgt a j = bgt b j)) = decide (a = b) := by
  rw [Bool.eq_iff_iff, List.all_eq_true, decide_eq_true_eq]
  constructor
  · intro h
    refine (self_map ha).trans ((List.map_congr_left fun k hk => ?_).trans (self_map hb).symm)
    exact of_decide_eq_true (h k hk)
  · rintro rfl k _
    simp
/-- arrays of integers are compared -/
theorem run_eq_ints {t e : TypeId} {n : Nat} (hu : P.underlying t = some (.array n e)) (he : P.underlying e = some (.int .i64)) {i : TypeInfo} (hi : P.info? e = some i) (hs : i.size = 1)
    (a b : List Int) (ha : a.length = n) (hb : b.length = n) (w : World) : (Op.equal t (blockV a) (blockV b)).run P w = .ok (decide (a = b)) w := by
  have hc : P.cellsOf e = 1 := by unfold Program.cellsOf; rw [hi]; simpa using hs
  show (Op.equalIn (9999 + 1) t _ _).run P w = _
  unfold blockV
  rw [run_equalIn_array w 9999 _ _ hu hi, hc, run_eqItems_ints 9998 he hi hs a b w _ (fun j hj => by have := List.mem_range.1 hj; omega), all_range_eq ha hb]
end
theorem inf_int1 : (Try.prog.info? 3).map (·.size) = some 1 := by kernel_rfl
theorem inf_int64 : (Try.prog.info? 2).map (·.size) = some 1 := by kernel_rfl
/-! Frames. -/
def FrameV.cells (f : FrameV) (tv : Value) : List Value := f.gains.map (Value.int .i64) ++ (tv :: (f.scale.map (Value.int .i64) ++ (f.width.map (Value.int .i64) ++ f.q.map (Value.int .i64))))
structure FrameV.Len (f : FrameV) : Prop where
  g : f.gains.length = 4
  s : f.scale.length = 4
  w : f.width.length = 4
  q : f.q.length = 16
theorem FrameV.cells_len {f : FrameV} (h : f.Len) (tv : Value) : (f.cells tv).length = 29 := by
  unfold FrameV.cells
  simp [h.g, h.s, h.w, h.q]
/-- a frame's value in a world: its tones lie in memory -/
def FrameAt (w : World) (f : FrameV) (tv : Value) : Prop := ∃ A c, tv = .slice A f.tones.length c ∧ f.tones.length ≤ c ∧ c ≤ 9223372036854775807 ∧ Row w w.heap.size A (toneCells f.tones)
theorem FrameAt.later {w w' : World} {f : FrameV} {tv : Value} (h : FrameAt w f tv) (hb : Below w.heap.size w w') : FrameAt w' f tv := by
  obtain ⟨A, c, h1, h2, h3, h4⟩ := h
  exact ⟨A, c, h1, h2, h3, h4.later hb⟩
theorem four_of {l : List Int} (h : l.length = 4) : ∃ a b c d, l = [a, b, c, d] := by
  match l, h with
  | [a, b, c, d], _ => exact ⟨a, b, c, d, rfl⟩
theorem sixteen_of {l : List Int} (h : l.length = 16) : ∃ a0 a1 a2 a3 a4 a5 a6 a7 a8 a9 b0 b1 b2 b3 b4 b5, l = [a0, a1, a2, a3, a4, a5, a6, a7, a8, a9, b0, b1, b2, b3, b4, b5] := by
  match l, h with
  | [a0, a1, a2, a3, a4, a5, a6, a7, a8, a9, b0, b1, b2, b3, b4, b5], _ => exact ⟨a0, a1, a2, a3, a4, a5, a6, a7, a8, a9, b0, b1, b2, b3, b4, b5, rfl⟩
end Go.Proofs.Ytbgkoopfdfnmcaa
