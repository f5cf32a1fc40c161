/- Arrays of integers: their values, their boxes, loads of a whole array. No condition. -/
import Derived.Test.YtbgkoopfdfnmcaaMem
import Derived.Handy
import Derived.Laws.Rows
import Derived.Deep.RegionWith
namespace Go.Proofs.Ytbgkoopfdfnmcaa
open Go.RowKit

/-- numbers of 64 bits as an array's value -/
def blockV (b : List Int) : Value := .agg (b.map (Value.int .i64)).toArray
/-- far from the ends of 64 bits -/
def BigB (b : List Int) : Prop := ∀ (k : Nat) (x : Int), b[k]? = some x → -4611686018427387904 ≤ x ∧ x ≤ 4611686018427387904
def bgt (b : List Int) (k : Nat) : Int := b.getD k 0
theorem bgt_get {b : List Int} {k : Nat} {x : Int} (h : b[k]? = some x) : bgt b k = x := by unfold bgt; simp [List.getD, h]
theorem blk_get {b : List Int} {k : Nat} {x : Int} (h : b[k]? = some x) : (b.map (Value.int .i64)).toArray[k]? = some (.int .i64 x) := by simp [h]
theorem list_get {α : Type} {b : List α} {k n : Nat} (hb : b.length = n) (h : k < n) : ∃ x, b[k]? = some x := ⟨_, List.getElem?_eq_getElem (by omega)⟩


theorem btail {B : Nat} {a b c : World} (h : Below B a b) (hB : B ≤ a.heap.size) (k : Below b.heap.size b c) : Below B a c := h.trans (k.mono (Nat.le_trans hB h.size))

section
variable {P : Program} {ops : Array Oper} {rest : List Oper} {o : Oper} {a : Act} {w : World} {Q : Exit → Act → World → Prop}
theorem wpList_wanted (hw : Region.wanted o (yielded ops a.tmps) = true) (h : ∀ K : Act → World → Prop, (∀ a w, wpList P ops Q rest a w → K a w) → o.wp P a w K Q) : wpList P ops Q (o :: rest) a w :=
  wpList_step fun K hK => by rw [if_pos hw]; exact h K hK
/-- a whole array out of a variable, guarded or not -/
theorem wpList_load_row_w (hgd : Region.wanted o (yielded ops a.tmps) = true) (ty : TypeId) (x : Operand) (ho : o.op = .load ty x)
    (g : Nat) (hx : a.eval x = .pointer (some ⟨g, 0, none⟩)) (t : TypeId) (cs : Array Value) (fr : Nat × Nat) (d : TypeDesc) (hg : w.heap[g]? = some (.cells cs t fr))
    (hu : P.underlying ty = some d) (hd : (match d with | .struct _ | .array _ _ => true | _ => false) = true) (hi : (P.info? ty).map (·.size) = some cs.size)
    (h : wpList P ops Q rest (a.put o.dst (.agg cs)) w) : wpList P ops Q (o :: rest) a w :=
  wpList_wanted hgd fun _ hK => wp_load_row ty x ho g hx t cs fr d hg hu hd hi (hK _ _ h)
/-- a whole array into a block that is known whole -/
theorem wpList_store_row_w (hgd : Region.wanted o (yielded ops a.tmps) = true) (ty : TypeId) (x y : Operand) (ho : o.op = .store ty x y)
    (g : Nat) (hx : a.eval x = .pointer (some ⟨g, 0, none⟩)) (t : TypeId) (old cs : Array Value) (hy : a.eval y = .agg cs) (hg : w.heap[g]? = some (.cells old t (0, 0)))
    (hi : (P.info? ty).map (·.size) = some cs.size) (hsz : old.size = cs.size) (h1 : cs.all (·.oneCell') = true)
    (h : wpList P ops Q rest (a.put o.dst undef) (w.setRow g cs)) : wpList P ops Q (o :: rest) a w :=
  wpList_wanted hgd fun _ hK => by
    unfold Oper.wp execOp
    simp only [ho, hx, hy, Instr.storeAt, Instr.sureAddr, Sem.run_bind, Sem.run_pure, Result.andThen_ok, run_storeVar_row w g t ty old cs hg hi hsz h1]
    exact hK _ _ h
theorem quiet_load_row {C : World → Prop} {K : Act → Prop} (ty : TypeId) (x : Operand) (ho : o.op = .load ty x)
    (g : Nat) (hx : a.eval x = .pointer (some ⟨g, 0, none⟩)) (t : TypeId) (cs : Array Value) (fr : Nat × Nat) (d : TypeDesc) (hg : ∀ w, C w → w.heap[g]? = some (.cells cs t fr))
    (hu : P.underlying ty = some d) (hd : (match d with | .struct _ | .array _ _ => true | _ => false) = true) (hi : (P.info? ty).map (·.size) = some cs.size)
    (h : K (a.put o.dst (.agg cs))) : o.quiet P a C K := by
  refine ⟨_, fun w hw => ?_, h⟩
  unfold Oper.quietAt execOp
  simp only [ho, hx, Instr.loadAt, Instr.sureAddr, Sem.run_bind, Sem.run_pure, Result.andThen_ok, run_loadVar_row w g t ty cs fr d (hg w hw) hu hd hi]
  exact ⟨rfl, rfl⟩
end
theorem setRow_at (w : World) (g : Nat) (t : TypeId) (old cs : Array Value) (hg : w.heap[g]? = some (.cells old t (0, 0))) : (w.setRow g cs).heap[g]? = some (.cells cs t (0, 0)) := by
  simp [World.setRow, Array.getElem?_modify, hg]
theorem setRow_below {B : Nat} {w0 w : World} (hb : Below B w0 w) (g : Nat) (hB : B ≤ g) (cs : Array Value) : Below B w0 (w.setRow g cs) := by
  refine hb.trans ⟨rfl, rfl, rfl, by simp [World.setRow], fun k hk => ?_⟩
  simp only [World.setRow, Array.getElem?_modify]
  rw [if_neg (by omega)]
theorem ints_one (b : List Int) : ((b.map (Value.int .i64)).toArray).all (·.oneCell') = true := by
  rw [Array.all_eq_true_iff_forall_mem]
  intro v hv
  simp at hv
  obtain ⟨x, _, rfl⟩ := hv
  rfl
theorem gw_heap {W : World} {g : Nat} {t : TypeId} {cs : Array Value} (h : W.heap[g]? = some (.cells cs t (0, 0))) : ∀ w', (∃ x : GW W, w' = x.1) → w'.heap[g]? = some (.cells cs t (0, 0)) := by
  rintro w' ⟨x, rfl⟩
  have hl : g < W.heap.size := by
    rcases Nat.lt_or_ge g W.heap.size with h1 | h1
    · exact h1
    · rw [Array.getElem?_eq_none h1] at h; cases h
  exact (x.2.block g hl).trans h
theorem gw_cells {W : World} {g : Nat} {t : TypeId} {cs : Array Value} (h : W.heap[g]? = some (.cells cs t (0, 0))) (x : GW W) (i : Nat) : x.1.cell? ⟨g, i, none⟩ = cs[i]? := cell_of_row x.1 g i cs t (0, 0) (gw_heap h x.1 ⟨x, rfl⟩)
/-- an array's value, indexed -/
theorem run_index_arr {P : Program} {t e : TypeId} {n : Nat} {cs : Array Value} {k : Nat} {v : Value} (hu : P.underlying t = some (.array n e)) (hk : k < n) (hs : ∀ W, (Go.sizeOf e).run P W = .ok 1 W) (ha : ∀ W, (isAgg e).run P W = .ok false W) (hv : cs[k]? = some v) (W : World) :
    (Instr.index t (.agg cs) (.int .i64 (k : Int))).run P W = .ok v W := by
  have h1 : (0 : Int) ≤ (k : Int) ∧ (k : Int) < (n : Int) := by omega
  unfold Instr.index part
  simp [Sem.run_bind, run_underlying hu, asIntOf, h1, hs, ha, hv]
  intro h; omega
theorem rep_ints {w : World} : ∀ (n : Nat) (cs : List Value), Shape w (tyRep (.int .i64) 1 n) cs → ∃ xs : List Int, xs.length = n ∧ cs = xs.map (Value.int .i64) ∧ I64s xs
  | 0, cs, h => by
    have h : cs = [] := h
    subst h
    exact ⟨[], rfl, rfl, fun x hx => by simp at hx⟩
  | n + 1, cs, h => by
    obtain ⟨c1, r, rfl, ⟨x, rfl, h1, h2⟩, hr⟩ := h
    obtain ⟨xs, hl, rfl, hb⟩ := rep_ints n r hr
    rw [min_i64] at h1
    rw [max_i64] at h2
    refine ⟨x :: xs, by simp [hl], rfl, fun y hy => ?_⟩
    rcases List.mem_cons.1 hy with rfl | hy
    · exact ⟨h1, h2⟩
    · exact hb y hy
/-- an array of integers that came in -/
theorem arr_arg {w : World} {n : Nat} {v : Value} (h : Arg w (tyRep (.int .i64) 1 (n + 1)) v) : ∃ b : List Int, b.length = n + 1 ∧ v = blockV b ∧ I64s b := by
  obtain ⟨cs, rfl, hs⟩ := h
  obtain ⟨b, hl, rfl, hb⟩ := rep_ints (n + 1) cs hs
  exact ⟨b, hl, rfl, hb⟩
end Go.Proofs.Ytbgkoopfdfnmcaa
