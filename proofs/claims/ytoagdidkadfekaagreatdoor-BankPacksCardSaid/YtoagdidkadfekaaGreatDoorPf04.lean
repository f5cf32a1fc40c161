/- Arr, ToneA, ToneB, ToneC, Heaps, LiftA, NumB. Conditions: as each theorem states. -/
import Derived.Handy
import Derived.Laws.Rows
import Derived.Deep.RegionWith
import Derived.Test.YtoagdidkadfekaaGreatDoorPf03
import Derived.Test.YtoagdidkadfekaaGreatDoorPf01
import Derived.Test.YtoagdidkadfekaaGreatDoorPf02

namespace Go.Proofs.YtoagdidkadfekaaGreatDoor
open Go.RowKit

/-- numbers of 64 bits as an array's value -/
def blockV (b : List Int) : Value := .agg (b.map (Value.int .i64)).toArray
/-- far from the ends of 64 bits -/
def BigB (b : List Int) : Prop := ∀ (k : Nat) (x : Int), b[k]? = some x → -4611686018427387904 ≤ x ∧ x ≤ 4611686018427387904
def bgt (b : List Int) (k : Nat) : Int := b.getD k 0
theorem bgt_get {b : List Int} {k : Nat} {x : Int} (h : b[k]? = some x) : bgt b k = x := by unfold bgt; simp [List.getD, h]
theorem blk_get {b : List Int} {k : Nat} {x : Int} (h : b[k]? = some x) : (b.map (Value.int .i64)).toArray[k]? = some (.int .i64 x) := by simp [h]
theorem list_get {α : Type} {b : List α} {k n : Nat} (hb : b.length = n) (h : k < n) : ∃ x, b[k]? = some x := ⟨_, List.getElem?_eq_getElem (by omega)⟩

theorem btail {B : Nat} {a b c : World} (h : Below B a b) (hB : B ≤ a.heap.size) (k : Below b.heap.size b c) : Below B a c := h.trans (k.mono (Nat.le_trans hB h.size))

section
variable {P : Program} {ops : Array Oper} {rest : List Oper} {o : Oper} {a : Act} {w : World} {Q : Exit → Act → World → Prop}
theorem wpList_wanted (hw : Region.wanted o (yielded ops a.tmps) = true) (h : ∀ K : Act → World → Prop, (∀ a w, wpList P ops Q rest a w → K a w) → o.wp P a w K Q) : wpList P ops Q (o :: rest) a w :=
  wpList_step fun K hK => by rw [if_pos hw]; exact h K hK
/-- a whole array out of a variable, guarded or not -/
theorem wpList_load_row_w (hgd : Region.wanted o (yielded ops a.tmps) = true) (ty : TypeId) (x : Operand) (ho : o.op = .load ty x)
    (g : Nat) (hx : a.eval x = .pointer (some ⟨g, 0, none⟩)) (t : TypeId) (cs : Array Value) (fr : Nat × Nat) (d : TypeDesc) (hg : w.heap[g]? = some (.cells cs t fr))
    (hu : P.underlying ty = some d) (hd : (match d with | .struct _ | .array _ _ => true | _ => false) = true) (hi : (P.info? ty).map (·.size) = some cs.size)
    (h : wpList P ops Q rest (a.put o.dst (.agg cs)) w) : wpList P ops Q (o :: rest) a w :=
  wpList_wanted hgd fun _ hK => wp_load_row ty x ho g hx t cs fr d hg hu hd hi (hK _ _ h)
/-- a whole array into a block that is known whole -/
theorem wpList_store_row_w (hgd : Region.wanted o (yielded ops a.tmps) = true) (ty : TypeId) (x y : Operand) (ho : o.op = .store ty x y)
    (g : Nat) (hx : a.eval x = .pointer (some ⟨g, 0, none⟩)) (t : TypeId) (old cs : Array Value) (hy : a.eval y = .agg cs) (hg : w.heap[g]? = some (.cells old t (0, 0)))
    (hi : (P.info? ty).map (·.size) = some cs.size) (hsz : old.size = cs.size) (h1 : cs.all (·.oneCell') = true)
    (h : wpList P ops Q rest (a.put o.dst undef) (w.setRow g cs)) : wpList P ops Q (o :: rest) a w :=
  wpList_wanted hgd fun _ hK => by
    unfold Oper.wp execOp
    simp only [ho, hx, hy, Instr.storeAt, Instr.sureAddr, Sem.run_bind, Sem.run_pure, Result.andThen_ok, run_storeVar_row w g t ty old cs hg hi hsz h1]
    exact hK _ _ h
theorem quiet_load_row {C : World → Prop} {K : Act → Prop} (ty : TypeId) (x : Operand) (ho : o.op = .load ty x)
    (g : Nat) (hx : a.eval x = .pointer (some ⟨g, 0, none⟩)) (t : TypeId) (cs : Array Value) (fr : Nat × Nat) (d : TypeDesc) (hg : ∀ w, C w → w.heap[g]? = some (.cells cs t fr))
    (hu : P.underlying ty = some d) (hd : (match d with | .struct _ | .array _ _ => true | _ => false) = true) (hi : (P.info? ty).map (·.size) = some cs.size)
    (h : K (a.put o.dst (.agg cs))) : o.quiet P a C K := by
  refine ⟨_, fun w hw => ?_, h⟩
  unfold Oper.quietAt execOp
  simp only [ho, hx, Instr.loadAt, Instr.sureAddr, Sem.run_bind, Sem.run_pure, Result.andThen_ok, run_loadVar_row w g t ty cs fr d (hg w hw) hu hd hi]
  exact ⟨rfl, rfl⟩
end
theorem setRow_at (w : World) (g : Nat) (t : TypeId) (old cs : Array Value) (hg : w.heap[g]? = some (.cells old t (0, 0))) : (w.setRow g cs).heap[g]? = some (.cells cs t (0, 0)) := by
  simp [World.setRow, Array.getElem?_modify, hg]
theorem setRow_below {B : Nat} {w0 w : World} (hb : Below B w0 w) (g : Nat) (hB : B ≤ g) (cs : Array Value) : Below B w0 (w.setRow g cs) := by
  refine hb.trans ⟨rfl, rfl, rfl, by simp [World.setRow], fun k hk => ?_⟩
  simp only [World.setRow, Array.getElem?_modify]
  rw [if_neg (by omega)]
theorem ints_one (b : List Int) : ((b.map (Value.int .i64)).toArray).all (·.oneCell') = true := by
  rw [Array.all_eq_true_iff_forall_mem]
  intro v hv
  simp at hv
  obtain ⟨x, _, rfl⟩ := hv
  rfl
theorem gw_heap {W : World} {g : Nat} {t : TypeId} {cs : Array Value} (h : W.heap[g]? = some (.cells cs t (0, 0))) : ∀ w', (∃ x : GW W, w' = x.1) → w'.heap[g]? = some (.cells cs t (0, 0)) := by
  rintro w' ⟨x, rfl⟩
  have hl : g < W.heap.size := by
    rcases Nat.lt_or_ge g W.heap.size with h1 | h1
    · exact h1
    · rw [Array.getElem?_eq_none h1] at h; cases h
  exact (x.2.block g hl).trans h
theorem gw_cells {W : World} {g : Nat} {t : TypeId} {cs : Array Value} (h : W.heap[g]? = some (.cells cs t (0, 0))) (x : GW W) (i : Nat) : x.1.cell? ⟨g, i, none⟩ = cs[i]? := cell_of_row x.1 g i cs t (0, 0) (gw_heap h x.1 ⟨x, rfl⟩)
/-- an array's value, indexed -/
theorem run_index_arr {P : Program} {t e : TypeId} {n : Nat} {cs : Array Value} {k : Nat} {v : Value} (hu : P.underlying t = some (.array n e)) (hk : k < n) (hs : ∀ W, (Go.sizeOf e).run P W = .ok 1 W) (ha : ∀ W, (isAgg e).run P W = .ok false W) (hv : cs[k]? = some v) (W : World) :
    (Instr.index t (.agg cs) (.int .i64 (k : Int))).run P W = .ok v W := by
  have h1 : (0 : Int) ≤ (k : Int) ∧ (k : Int) < (n : Int) := by omega
  unfold Instr.index part
  simp [Sem.run_bind, run_underlying hu, asIntOf, h1, hs, ha, hv]
  intro h; omega
end Go.Proofs.YtoagdidkadfekaaGreatDoor

namespace Go.Proofs.YtoagdidkadfekaaGreatDoor
open Go.RowKit

theorem Band_any (i : Nat) (w : World) (hi : i < 16) : Calls Tryz.prog 68 #[.int .i64 i] w fun e w' => e = .returned (.int .i64 ((i : Int) / 4)) ∧ w = w' := by
  go_enter Tryz.func68, Tryz.ntmps68
  go_wp2
  go_ret
  exact ⟨rfl, rfl⟩

/-- the greatest number of a band's first ones without one -/
def aroundTo (b : List Int) (i m : Nat) : Int := (List.range m).foldl (fun p d => if i / 4 * 4 + d = i then p else max p (absZ (bgt b (i / 4 * 4 + d)))) 0
def aroundZ (b : List Int) (i : Nat) : Int := aroundTo b i 4
theorem aroundTo_succ (b : List Int) (i m : Nat) : aroundTo b i (m + 1) = if i / 4 * 4 + m = i then aroundTo b i m else max (aroundTo b i m) (absZ (bgt b (i / 4 * 4 + m))) := by
  unfold aroundTo; rw [List.range_succ, List.foldl_append]; rfl
theorem absZ_bd {x : Int} (h : -4611686018427387904 ≤ x ∧ x ≤ 4611686018427387904) : 0 ≤ absZ x ∧ absZ x ≤ 4611686018427387904 := by
  unfold absZ; split
  · omega
  · split <;> omega

set_option maxHeartbeats 1000000 in
theorem around_any (b : List Int) (i : Nat) (w : World) (hb : b.length = 16) (hr : BigB b) (hi : i < 16) :
    Calls Tryz.prog 184 #[blockV b, .int .i64 i] w fun e w' => e = .returned (.int .i64 (aroundZ b i)) ∧ Below w.heap.size w w' := by
  unfold blockV
  have HC := Lib.hid (fun (k : Nat) (x : Int) (h : b[k]? = some x) => blk_get h)
  generalize (b.map (Value.int .i64)).toArray = cs at *
  have Hb := Lib.hid hb
  have HR := Lib.hid hr
  clear hb hr
  obtain ⟨q, hq⟩ : ∃ q, i / 4 = q := ⟨_, rfl⟩
  have Hq := Lib.hid hq
  have hq4 : q < 4 := by omega
  have hB := Lib.hid (show ∀ W, Calls Tryz.prog 68 #[.int .i64 i] W fun e w' => e = .returned (.int .i64 (q : Int)) ∧ W = w' from fun W => (Band_any i W hi).mono fun e w' ⟨he, hw⟩ => ⟨he.trans (ret_int (by omega)), hw⟩)
  clear hq
  go_enter Tryz.func184, Tryz.ntmps184
  go_wp2_with (go_at_call 68; refine (hB.out _).mono ?_; rintro e w' ⟨rfl, rfl⟩)
  go_loop [6, 7] (fun p k => ∃ (m : Nat) (z : Int), m ≤ 4 ∧ 0 ≤ z ∧ z ≤ 4611686018427387904 ∧ z = aroundTo b i m ∧ p = .int .i64 z ∧ k = .int .i64 ((q : Int) * 4 + m)) (fun p k => (20 - (intOf k)).toNat)
  case atStart => exact ⟨0, 0, by omega, by omega, by omega, rfl, rfl, by go_num⟩
  case round =>
    obtain ⟨m, z, hm, hz0, hz1, hz, rfl, rfl⟩ := hrel
    have Hz := Lib.hid hz
    clear hz
    by_cases hlt : m < 4
    · have t1 : (q : Int) * 4 + m < (q : Int) * 4 + 4 := by omega
      obtain ⟨x, hx⟩ := list_get (k := q * 4 + m) Hb.out (by omega)
      have hc := HC.out _ _ hx
      have hxb := HR.out _ _ hx
      have hab := absZ_bd hxb
      have HS := Lib.hid (show aroundTo b i (m + 1) = if q * 4 + m = i then z else max z (absZ x) by rw [aroundTo_succ, Hq.out, Hz.out, bgt_get hx])
      clear hx
      by_cases he : q * 4 + m = i
      · have t2 : (((q : Int) * 4 + m) == (i : Int)) = true := beq_iff_eq.2 (by omega)
        have t3 : (((q : Int) * 4 + m) != (i : Int)) = false := by rw [bne_eq_false_iff_eq]; omega
        have He := Lib.hid he
        clear he
        go_wp2
        go_round
        case rel => exact ⟨m + 1, z, by omega, hz0, hz1, by rw [HS.out, if_pos He.out], rfl, by go_num⟩
        case measure => simp [intOf]; omega
      · have t2 : (((q : Int) * 4 + m) == (i : Int)) = false := beq_eq_false_iff_ne.2 (by omega)
        have t3 : (((q : Int) * 4 + m) != (i : Int)) = true := by rw [bne_iff_ne]; omega
        have He := Lib.hid he
        clear he
        obtain ⟨y, hy⟩ : ∃ y, absZ x = y := ⟨_, rfl⟩
        rw [hy] at hab HS
        have Hy := Lib.hid hy
        clear hy
        have hmx : z < y ∨ y ≤ z := by omega
        rcases hmx with hmx | hmx
        all_goals
          go_wp2_with (go_at_call 152; refine (Abs_any _ _ (by omega) (by omega)).mono ?_; rw [Hy.out]; rintro e w' ⟨rfl, rfl⟩)
          go_round
          case rel => exact ⟨m + 1, max z y, by omega, by omega, by omega, by rw [HS.out, if_neg He.out], val_int (by first | rfl | omega), by go_num⟩
          case measure => simp [intOf]; omega
    · have hm4 : m = 4 := by omega
      have t1 : ¬ ((q : Int) * 4 + m < (q : Int) * 4 + 4) := by omega
      have Hm := Lib.hid hm4
      clear hm4 hlt
      go_wp2
      go_ret
      exact ⟨ret_int (by rw [Hz.out, Hm.out]; rfl), bnew _ _⟩
theorem inf_block : (Tryz.prog.info? 60).map (·.size) = some 16 := by kernel_rfl
/-- is a place a tone? -/
def isTone (b : List Int) (i : Int) : Bool := decide (0 ≤ i) && decide (i < 16) && decide (64 ≤ absZ (bgt b i.toNat)) && decide (aroundZ b i.toNat ≤ absZ (bgt b i.toNat) / 8)

set_option maxRecDepth 100000 in
set_option maxHeartbeats 1000000 in
theorem toneIs_any (b : List Int) (i : Int) (w : World) (hb : b.length = 16) (hr : BigB b) :
    Calls Tryz.prog 172 #[blockV b, .int .i64 i] w fun e w' => e = .returned (.bool (isTone b i)) ∧ Below w.heap.size w w' := by
  by_cases hi : 0 ≤ i ∧ i < 16
  · obtain ⟨h0, h1⟩ := hi
    obtain ⟨n, rfl⟩ := Int.eq_ofNat_of_zero_le h0
    have hn : n < 16 := by omega
    obtain ⟨x, hx⟩ := list_get (k := n) hb hn
    have HA := Lib.hid (fun W => around_any b n W hb hr hn)
    have hxb := hr _ _ hx
    have hab := absZ_bd hxb
    have HT := Lib.hid (show isTone b (n : Int) = (decide (64 ≤ absZ x) && decide (aroundZ b n ≤ absZ x / 8)) by unfold isTone; rw [Int.toNat_natCast, bgt_get hx]; have e1 : decide ((0 : Int) ≤ (n : Int)) = true := decide_eq_true h0; have e2 : decide ((n : Int) < 16) = true := decide_eq_true h1; rw [e1, e2]; rfl)
    obtain ⟨y, hy⟩ : ∃ y, absZ x = y := ⟨_, rfl⟩
    obtain ⟨z, hz⟩ : ∃ z, aroundZ b n = z := ⟨_, rfl⟩
    have hsz : (b.map (Value.int .i64)).toArray.size = 16 := by simp [hb]
    rw [hy] at hab HT
    rw [hz] at HA HT
    have Hy := Lib.hid hy
    unfold blockV at HA ⊢
    have hc := blk_get hx
    generalize (b.map (Value.int .i64)).toArray = cs at *
    have HI := Lib.hid (show (Tryz.prog.info? 60).map (·.size) = some cs.size by rw [hsz]; exact inf_block)
    clear hx hy hz hsz hb hr
    have hB := Lib.hid (heap_alloc_new w (.cells cs 60))
    go_enter Tryz.func172, Tryz.ntmps172
    go_wp2_with (first | (go_at_call 152; refine (Abs_any _ _ (by omega) (by omega)).mono ?_; rw [Hy.out]; rintro e w' ⟨rfl, rfl⟩) | (go_at_call 184; refine (HA.out _).mono ?_; rintro e w1 ⟨rfl, hb1⟩) | (refine wpList_load_row_w rfl 60 (.tmp 2) rfl w.heap.size rfl _ cs _ _ hB.out Tryz.underlying60 rfl HI.out ?_))
    all_goals
      go_ret
      refine ⟨ret_bool (by rw [HT.out, Bool.eq_iff_iff]; simp <;> omega), ?_⟩
      first | exact bnext (bnew _ _) hb1 | exact bnew _ _
  · have hT := Lib.hid (show isTone b i = false by unfold isTone; simp; omega)
    have hi' : i < 0 ∨ 16 ≤ i := by omega
    clear hi
    unfold blockV
    generalize (b.map (Value.int .i64)).toArray = cs at *
    rcases hi' with hi' | hi'
    · have a2 : decide (i < 0) = true := decide_eq_true hi'
      have HH := Lib.hid hi'
      clear hi'
      go_enter Tryz.func172, Tryz.ntmps172
      go_wp2
      go_ret
      exact ⟨ret_bool hT.out.symm, bnew _ _⟩
    · have a1 : ¬ i < 0 := by omega
      have a2 : decide (i < 0) = false := decide_eq_false a1
      go_enter Tryz.func172, Tryz.ntmps172
      go_wp2
      go_ret
      exact ⟨ret_bool hT.out.symm, bnew _ _⟩
end Go.Proofs.YtoagdidkadfekaaGreatDoor

namespace Go.Proofs.YtoagdidkadfekaaGreatDoor
open Go.RowKit

end Go.Proofs.YtoagdidkadfekaaGreatDoor

namespace Go.Proofs.YtoagdidkadfekaaGreatDoor
open Go.RowKit

/-- is a tone greater than another number, or alike and ahead of it? -/
def aheadB (b : List Int) (i k : Nat) : Bool := isTone b (k : Int) && (decide (absZ (bgt b i) < absZ (bgt b k)) || (decide (absZ (bgt b k) = absZ (bgt b i)) && decide (k < i)))
def aheadTo (b : List Int) (i m : Nat) : Nat := ((List.range m).filter (aheadB b i)).length
def aheadZ (b : List Int) (i : Nat) : Nat := aheadTo b i 16
end Go.Proofs.YtoagdidkadfekaaGreatDoor

namespace Go.Proofs.YtoagdidkadfekaaGreatDoor
open Go.RowKit

section
variable (w : World) (A B C D E : Obj)
theorem heap1 : (w.alloc A).heap[w.heap.size]? = some A ∧ (w.alloc A).heap.size = w.heap.size + 1 ∧ Below w.heap.size w (w.alloc A) := ⟨heap_alloc_new w A, World.size_alloc _ _, bnew _ _⟩
theorem heap2 : ((w.alloc A).alloc B).heap[w.heap.size]? = some A ∧ ((w.alloc A).alloc B).heap[w.heap.size + 1]? = some B ∧ ((w.alloc A).alloc B).heap.size = w.heap.size + 2 ∧ Below w.heap.size w ((w.alloc A).alloc B) := by
  obtain ⟨a, s, b⟩ := heap1 w A
  refine ⟨(heap_alloc_old _ _ (by omega)).trans a, ?_, by rw [World.size_alloc, s], b.alloc (by omega) _⟩
  have := heap_alloc_new (w.alloc A) B
  rwa [s] at this
theorem heap3 : (((w.alloc A).alloc B).alloc C).heap[w.heap.size]? = some A ∧ (((w.alloc A).alloc B).alloc C).heap[w.heap.size + 1]? = some B ∧ (((w.alloc A).alloc B).alloc C).heap[w.heap.size + 1 + 1]? = some C ∧
    (((w.alloc A).alloc B).alloc C).heap.size = w.heap.size + 3 ∧ Below w.heap.size w (((w.alloc A).alloc B).alloc C) := by
  obtain ⟨a, b, s, l⟩ := heap2 w A B
  refine ⟨(heap_alloc_old _ _ (by omega)).trans a, (heap_alloc_old _ _ (by omega)).trans b, ?_, by rw [World.size_alloc, s], l.alloc (by omega) _⟩
  have := heap_alloc_new ((w.alloc A).alloc B) C
  rwa [s] at this
theorem heap4 : ((((w.alloc A).alloc B).alloc C).alloc D).heap[w.heap.size]? = some A ∧ ((((w.alloc A).alloc B).alloc C).alloc D).heap[w.heap.size + 1]? = some B ∧ ((((w.alloc A).alloc B).alloc C).alloc D).heap[w.heap.size + 1 + 1]? = some C ∧
    ((((w.alloc A).alloc B).alloc C).alloc D).heap[w.heap.size + 1 + 1 + 1]? = some D ∧ ((((w.alloc A).alloc B).alloc C).alloc D).heap.size = w.heap.size + 4 ∧ Below w.heap.size w ((((w.alloc A).alloc B).alloc C).alloc D) := by
  obtain ⟨a, b, c, s, l⟩ := heap3 w A B C
  refine ⟨(heap_alloc_old _ _ (by omega)).trans a, (heap_alloc_old _ _ (by omega)).trans b, (heap_alloc_old _ _ (by omega)).trans c, ?_, by rw [World.size_alloc, s], l.alloc (by omega) _⟩
  have := heap_alloc_new (((w.alloc A).alloc B).alloc C) D
  rwa [s] at this
end
/-- a block stays where nothing below it turns -/
theorem hkeep {w w' : World} {g : Nat} {o : Obj} (h : w.heap[g]? = some o) (hb : Below w.heap.size w w') : w'.heap[g]? = some o := by
  refine (hb.block g ?_).trans h
  rcases Nat.lt_or_ge g w.heap.size with h1 | h1
  · exact h1
  · rw [Array.getElem?_eq_none h1] at h; cases h
theorem hlt {w : World} {g : Nat} {o : Obj} (h : w.heap[g]? = some o) : g < w.heap.size := by
  rcases Nat.lt_or_ge g w.heap.size with h1 | h1
  · exact h1
  · rw [Array.getElem?_eq_none h1] at h; cases h
end Go.Proofs.YtoagdidkadfekaaGreatDoor

namespace Go.Proofs.YtoagdidkadfekaaGreatDoor
open Go.RowKit

def TurnV.cells (t : TurnV) : List Value := [.int .i64 t.p, .int .i64 t.u]
/-- a turn that may be -/
def TurnV.ok (t : TurnV) : Prop := (0 ≤ t.p ∧ t.p ≤ 16384) ∧ 0 ≤ t.u ∧ t.u ≤ 16384
theorem turnK_ok {k : Nat} (hk : k < 8) : (turnK k).ok := by
  have hk8 : k = 0 ∨ k = 1 ∨ k = 2 ∨ k = 3 ∨ k = 4 ∨ k = 5 ∨ k = 6 ∨ k = 7 := by omega
  unfold TurnV.ok
  rcases hk8 with rfl | rfl | rfl | rfl | rfl | rfl | rfl | rfl
  · rw [turnK_0]; simp
  · rw [turnK_1]; simp
  · rw [turnK_2]; simp
  · rw [turnK_3]; simp
  · rw [turnK_4]; simp
  · rw [turnK_5]; simp
  · rw [turnK_6]; simp
  · rw [turnK_7]; simp
theorem part_prod {c v B : Int} (hc : 0 ≤ c ∧ c ≤ 16384) (h1 : -B ≤ v) (h2 : v ≤ B) : -(16384 * B) ≤ c * v ∧ c * v ≤ 16384 * B := by
  have hB : 0 ≤ B := by omega
  have a := Int.mul_le_mul_of_nonneg_left h2 hc.1
  have b := Int.mul_le_mul_of_nonneg_left h1 hc.1
  have d := Int.mul_le_mul_of_nonneg_right hc.2 hB
  rw [Int.mul_neg] at b
  omega
theorem part_bd {c v B : Int} (hc : 0 ≤ c ∧ c ≤ 16384) (h1 : -B ≤ v) (h2 : v ≤ B) : -(B + 1) ≤ partZ c v ∧ partZ c v ≤ B + 1 := by
  have h := part_prod hc h1 h2
  have k := partZ_lin c v
  omega
set_option maxRecDepth 100000 in
theorem part_any (c v : Int) (w : World) (hc : 0 ≤ c ∧ c ≤ 16384) (h1 : -17592186044416 ≤ v) (h2 : v ≤ 17592186044416) :
    Calls Tryz.prog 171 #[.int .i64 c, .int .i64 v] w fun e w' => e = .returned (.int .i64 (partZ c v)) ∧ Below w.heap.size w w' := by
  have hp := part_prod hc h1 h2
  have hw : IntKind.i64.wrap (c * v) = c * v := IntWalk.i64_in _ (by omega)
  have hb14 : -9223372036854775808 ≤ c * v ∧ c * v ≤ 9223372036854775807 := by omega
  unfold partZ
  have HR := Lib.hid (fun W => Round_any (c * v) 14 W hb14.1 hb14.2 (by decide) (by decide))
  rw [show (14 : Int).toNat = 14 from rfl] at HR
  generalize roundZ (c * v) 14 = pz at *
  clear hb14 hp h1 h2 hc
  go_enter Tryz.func171, Tryz.ntmps171
  go_wp2_with (go_at_call 166; fail)
  refine (HR.out _).mono ?_
  rintro e w1 ⟨rfl, nd, hnd⟩
  have hb : Below w.heap.size w w1 := by rw [hnd]; exact below_drewN (Below.refl _ _) nd
  clear hnd
  go_wp2
  go_ret
  exact ⟨rfl, hb⟩

/-- numbers that are turned -/
def Turnable (a : Int) : Prop := -1099511627776 ≤ a ∧ a ≤ 1099511627776
set_option maxRecDepth 100000 in
theorem liftTurn_any (a b : Int) (t : TurnV) (w : World) (ht : t.ok) (ha : Turnable a) (hb : Turnable b) :
    Calls Tryz.prog 151 #[.int .i64 a, .int .i64 b, .agg #[.int .i64 t.p, .int .i64 t.u]] w fun e w' => e = .returned (.tuple #[.int .i64 (turnA a b t), .int .i64 (turnB a b t)]) ∧ Below w.heap.size w w' := by
  obtain ⟨p, u⟩ := t
  obtain ⟨hp, hu⟩ := ht
  simp only at hp hu
  have b1 := part_bd hp hb.1 hb.2
  have H1 := Lib.hid (fun W => part_any p b W hp (by have := hb.1; omega) (by have := hb.2; omega))
  obtain ⟨ha1, ha2⟩ := ha
  obtain ⟨hb1, hb2⟩ := hb
  have HA : turnA a b ⟨p, u⟩ = a + partZ p b + partZ p (b - partZ u (a + partZ p b)) := rfl
  have HB : turnB a b ⟨p, u⟩ = b - partZ u (a + partZ p b) := rfl
  rw [HA, HB]
  generalize partZ p b = X at *
  have b2 := part_bd (v := a + X) (B := 4398046511104) hu (by omega) (by omega)
  have H2 := Lib.hid (fun W => part_any u (a + X) W hu (by omega) (by omega))
  generalize partZ u (a + X) = Y at *
  have b3 := part_bd (v := b - Y) (B := 8796093022208) hp (by omega) (by omega)
  have H3 := Lib.hid (fun W => part_any p (b - Y) W hp (by omega) (by omega))
  generalize partZ p (b - Y) = Z at *
  have w1 : IntKind.i64.wrap (a + X) = a + X := IntWalk.i64_in _ (by omega)
  have w2 : IntKind.i64.wrap (b - Y) = b - Y := IntWalk.i64_in _ (by omega)
  have w3 : IntKind.i64.wrap (a + X + Z) = a + X + Z := IntWalk.i64_in _ (by omega)
  have HM := Lib.hid (heap_alloc_new w (.cells #[.int .i64 p, .int .i64 u] 132))
  clear HA HB b1 b2 b3 hp hu ha1 ha2 hb1 hb2
  go_enter Tryz.func151, Tryz.ntmps151
  go_wp2_with (go_at_call 171; fail)
  refine (H1.out _).mono ?_
  rintro e v1 ⟨rfl, hv1⟩
  have M1 := Lib.hid (hkeep HM.out hv1)
  have B1 := Lib.hid (bnext (bnew w _) hv1)
  have c1 := cell_of_row v1 w.heap.size 1 _ _ _ M1.out
  clear hv1
  go_wp2_with (go_at_call 171; fail)
  refine (H2.out _).mono ?_
  rintro e v2 ⟨rfl, hv2⟩
  have M2 := Lib.hid (hkeep M1.out hv2)
  have B2 := Lib.hid (bnext B1.out hv2)
  have c2 := cell_of_row v2 w.heap.size 0 _ _ _ M2.out
  clear hv2 c1
  go_wp2_with (go_at_call 171; fail)
  refine (H3.out _).mono ?_
  rintro e v3 ⟨rfl, hv3⟩
  go_wp2
  refine bodyPost_ret (results_tmp2 Tryz.results151 _ _ _) rfl ?_
  exact ⟨rfl, bnext B2.out hv3⟩
theorem inf_turn : (Tryz.prog.info? 132).map (·.size) = some 2 := by kernel_rfl
set_option maxRecDepth 100000 in
theorem tableTurn_any (k : Nat) (w : World) (hk : k < 8) :
    Calls Tryz.prog 140 #[.int .i64 k] w fun e w' => e = .returned (.agg #[.int .i64 (turnK k).p, .int .i64 (turnK k).u]) ∧ Below w.heap.size w w' := by
  have hk8 : k = 0 ∨ k = 1 ∨ k = 2 ∨ k = 3 ∨ k = 4 ∨ k = 5 ∨ k = 6 ∨ k = 7 := by omega
  rcases hk8 with rfl | rfl | rfl | rfl | rfl | rfl | rfl | rfl
  all_goals
    first | rw [turnK_0] | rw [turnK_1] | rw [turnK_2] | rw [turnK_3] | rw [turnK_4] | rw [turnK_5] | rw [turnK_6] | rw [turnK_7]
    go_enter Tryz.func140, Tryz.ntmps140
    go_wp2
    refine bodyPost_ret (v := _) (results_cell_row Tryz.results140 _ _ w.heap.size 132 _ (0, 0) _ rfl (heap_alloc_new w _) Tryz.underlying132 rfl inf_turn) rfl ?_
    exact ⟨rfl, bnew _ _⟩
end Go.Proofs.YtoagdidkadfekaaGreatDoor

namespace Go.Proofs.YtoagdidkadfekaaGreatDoor
open Go.RowKit

theorem i64_not (v : Int) (h1 : -9223372036854775808 ≤ v) (h2 : v ≤ 9223372036854775807) : bits .xor .i64 (-1) v = -v - 1 := by
  have key : (BitVec.ofInt 64 (-1) ^^^ BitVec.ofInt 64 v).toNat = 2 ^ 64 - 1 - (v % ((2 ^ 64 : Nat) : Int)).toNat := by
    rw [show BitVec.ofInt 64 (-1) = BitVec.allOnes 64 by decide, BitVec.allOnes_xor, BitVec.toNat_not, BitVec.toNat_ofInt]
  show IntKind.i64.wrap ((BitVec.ofInt 64 (-1) ^^^ BitVec.ofInt 64 v).toNat : Nat) = -v - 1
  rw [key, IntKind.wrap_i64]
  omega

set_option maxHeartbeats 1000000 in
theorem width_walk (v : Int) (w : World) (hb : (v == 0) = false) (hw : widthZ v = 1 + bitsN (bodyN v)) (hlt : bodyN v < 9223372036854775808) (h : (v < 0 ∧ bits .xor .i64 (-1) v = (bodyN v : Int)) ∨ (0 < v ∧ v = (bodyN v : Int))) :
    Calls Tryz.prog 118 #[.int .i64 v] w fun e w' => e = .returned (.int .i64 (widthZ v)) ∧ w = w' := by
  have HW := Lib.hid hw
  have HL := Lib.hid (bitsN_le (k := 63) hlt)
  have Hlt := Lib.hid hlt
  clear hw hlt
  rcases h with ⟨h, h2⟩ | ⟨h, h2⟩
  all_goals
    have H2 := Lib.hid h2
    clear h2
    go_enter Tryz.func118, Tryz.ntmps118
    go_wp2
    go_loop [0, 3] (fun x n => ∃ (y k : Nat), k + bitsN y = bitsN (bodyN v) ∧ x = .int .i64 y ∧ n = .int .i64 (1 + (k : Int)) ∧ y < 9223372036854775808) (fun x _ => (intOf x).toNat)
    case atStart => exact ⟨bodyN v, 0, by omega, val_int H2.out, rfl, Hlt.out⟩
    case round =>
      obtain ⟨y, k, hk, rfl, rfl, hy⟩ := hrel
      have Hk := Lib.hid hk
      have hkb : k ≤ 63 := by have := HL.out; omega
      clear hk
      by_cases hy0 : 0 < y
      · have t1 : (0 : Int) < (y : Int) := by omega
        have HS := Lib.hid (bitsN_half hy0)
        go_wp2
        go_round
        case rel => exact ⟨y / 2, k + 1, by have := HS.out; have := Hk.out; omega, val_int (by simp), val_int (by omega), by omega⟩
        case measure => simp [intOf]; omega
      · have t1 : ¬ (0 : Int) < (y : Int) := by omega
        have hy1 : y = 0 := by omega
        subst hy1
        go_wp2
        go_ret
        exact ⟨ret_int (by rw [HW.out]; have := Hk.out; rw [bitsN_zero] at this; omega), rfl⟩
theorem Width_any (v : Int) (w : World) (h1 : -9223372036854775808 ≤ v) (h2 : v ≤ 9223372036854775807) :
    Calls Tryz.prog 118 #[.int .i64 v] w fun e w' => e = .returned (.int .i64 (widthZ v)) ∧ w = w' := by
  by_cases h0 : v = 0
  · subst h0
    go_enter Tryz.func118, Tryz.ntmps118
    go_wp2
    go_ret
    exact ⟨rfl, rfl⟩
  · refine width_walk v w (beq_eq_false_iff_ne.2 h0) (by unfold widthZ; rw [if_neg h0]) (by unfold bodyN; split <;> omega) ?_
    rcases Int.lt_or_le v 0 with h | h
    · exact .inl ⟨h, by rw [i64_not v h1 h2]; unfold bodyN; rw [if_pos h]; omega⟩
    · exact .inr ⟨by omega, by unfold bodyN; rw [if_neg (by omega)]; omega⟩

theorem Near_zero (v : Int) (w : World) (h1 : -4611686018427387904 ≤ v) (h2 : v ≤ 4611686018427387904) :
    Calls Tryz.prog 187 #[.int .i64 v, .int .i64 0] w fun e w' => e = .returned (.int .i64 (nearZ v 0)) ∧ ∃ n, w' = w.drewN n := by
  have e1 : IntKind.i64.wrap (v.tdiv 1) = v := by rw [Int.tdiv_one]; exact IntWalk.i64_in _ (by omega)
  have e2 : IntKind.i64.wrap (v.tmod 1) = 0 := by rw [Int.tmod_one]; rfl
  go_enter Tryz.func187, Tryz.ntmps187
  go_wp2
  go_quiet (fail)
  go_wp2
  go_ret
  exact ⟨rfl, _, rfl⟩
set_option maxHeartbeats 1000000 in
theorem Near_succ (v : Int) (k : Nat) (w : World) (h1 : -4611686018427387904 ≤ v) (h2 : v ≤ 4611686018427387904) (hp : k ≤ 60) :
    Calls Tryz.prog 187 #[.int .i64 v, .int .i64 (k + 1 : Nat)] w fun e w' => e = .returned (.int .i64 (nearZ v (k + 1))) ∧ ∃ n, w' = w.drewN n := by
  have HN := Lib.hid (show nearZ v (k + 1) = if 2 ^ k ≤ v.tmod (2 ^ (k + 1)) then v.tdiv (2 ^ (k + 1)) + 1 else if v.tmod (2 ^ (k + 1)) ≤ -2 ^ k then v.tdiv (2 ^ (k + 1)) - 1 else v.tdiv (2 ^ (k + 1)) by
    unfold nearZ; rw [if_neg (by omega)]; rfl)
  have hlt : (2 : Nat) ^ k ≤ 2 ^ 60 := Nat.pow_le_pow_right (by decide) hp
  have hd0 : (0 : Int) < 2 ^ k := Int.pow_pos (by decide)
  have hd1 : (2 : Int) ^ k ≤ 1152921504606846976 := by
    rw [show (2 : Int) ^ k = ((2 ^ k : Nat) : Int) by rw [Int.natCast_pow]; rfl]
    exact Int.ofNat_le.2 hlt
  have e : (2 : Int) ^ (k + 1) = 2 * 2 ^ k := by rw [Int.pow_succ]; omega
  have hq := tdiv_between v ((2 : Int) ^ (k + 1)) (by omega)
  have hx1 : IntKind.i64.wrap (2 ^ (k + 1)) = 2 ^ (k + 1) := IntWalk.i64_in _ (by omega)
  have hx2 : IntKind.i64.wrap (2 ^ k) = 2 ^ k := IntWalk.i64_in _ (by omega)
  have hx3 : IntKind.i64.wrap (-2 ^ k) = -2 ^ k := IntWalk.i64_in _ (by omega)
  have hr1 : IntKind.i64.wrap (v.tmod (2 ^ (k + 1))) = v.tmod (2 ^ (k + 1)) := by
    have a1 := Int.lt_tmod_of_pos v (b := (2 : Int) ^ (k + 1)) (by omega)
    have a2 := Int.tmod_lt_of_pos v (b := (2 : Int) ^ (k + 1)) (by omega)
    exact IntWalk.i64_in _ (by omega)
  have hq1 : IntKind.i64.wrap (v.tdiv (2 ^ (k + 1))) = v.tdiv (2 ^ (k + 1)) := IntWalk.i64_in _ (by omega)
  have hqb : -4611686018427387904 ≤ v.tdiv (2 ^ (k + 1)) ∧ v.tdiv (2 ^ (k + 1)) ≤ 4611686018427387904 := by omega
  have hz : ((2 : Int) ^ (k + 1)) ≠ 0 := by omega
  clear e hq hd0 hd1 hlt
  go_enter Tryz.func187, Tryz.ntmps187
  go_wp2
  go_quiet (fail)
  generalize v.tdiv (2 ^ (k + 1)) = q at *
  generalize v.tmod (2 ^ (k + 1)) = r at *
  obtain ⟨hq0, hq2⟩ := hqb
  have hw1 : IntKind.i64.wrap (q + 1) = q + 1 := IntWalk.i64_in _ (by omega)
  have hw2 : IntKind.i64.wrap (q - 1) = q - 1 := IntWalk.i64_in _ (by omega)
  go_wp2
  all_goals
    go_ret
    refine ⟨ret_int ?_, _, rfl⟩
    rw [HN.out]
    (repeat' split) <;> omega
theorem Near_any (v : Int) (p : Nat) (w : World) (h1 : -4611686018427387904 ≤ v) (h2 : v ≤ 4611686018427387904) (hp : p ≤ 61) :
    Calls Tryz.prog 187 #[.int .i64 v, .int .i64 p] w fun e w' => e = .returned (.int .i64 (nearZ v p)) ∧ ∃ n, w' = w.drewN n := by
  cases p with
  | zero => exact Near_zero v w h1 h2
  | succ k => exact Near_succ v k w h1 h2 (by omega)

set_option maxHeartbeats 1000000 in
theorem Peak_any (A : Option Addr) (cap : Nat) (l : List Int) (w : World) (hl : l.length ≤ 1000000000) (hr : Row w w.heap.size A (l.map (.int .i64))) (hb : ∀ x ∈ l, -9223372036854775808 ≤ x ∧ x ≤ 9223372036854775807) :
    Calls Tryz.prog 119 #[.slice A l.length cap] w fun e w' => e = .returned (.int .i64 (peakZ l)) ∧ w = w' := by
  have Hr := Lib.hid hr
  have Hb := Lib.hid hb
  obtain ⟨n, hn⟩ : ∃ n, l.length = n := ⟨_, rfl⟩
  rw [hn] at hl ⊢
  have Hn := Lib.hid hn
  clear hr hb hn
  go_enter Tryz.func119, Tryz.ntmps119
  go_wp2
  go_loop [3, 8] (fun p i => ∃ (m : Nat), m ≤ n ∧ i = .int .i64 m ∧ p = .int .i64 (peakZ (l.take m))) (fun _ i => n - (intOf i).toNat)
  case atStart => exact ⟨0, by omega, rfl, rfl⟩
  case round =>
    obtain ⟨m, hm, rfl, rfl⟩ := hrel
    by_cases hlt : m < n
    · have t1 : (m : Int) < (n : Int) := by omega
      obtain ⟨x, hx⟩ := list_get (k := m) Hn.out hlt
      obtain ⟨b, off, hA, _, hc⟩ := Hr.out m (.int .i64 x) (by rw [List.getElem?_map, hx]; rfl)
      have hxb := Hb.out x (List.mem_of_getElem? hx)
      have HP := Lib.hid (show peakZ (l.take (m + 1)) = max (peakZ (l.take m)) (absZ x) by
        obtain ⟨hk, rfl⟩ := List.getElem?_eq_some_iff.1 hx
        rw [List.take_succ_eq_append_getElem hk, peakZ_snoc])
      generalize peakZ (l.take m) = P at *
      subst hA
      obtain ⟨y, hy⟩ : ∃ y, absZ x = y := ⟨_, rfl⟩
      rw [hy] at HP
      have Hy := Lib.hid hy
      clear hx hy
      have hmx : P < y ∨ y ≤ P := by omega
      rcases hmx with hmx | hmx
      all_goals
        go_wp2_with (go_at_call 152; refine (Abs_any _ _ (by omega) (by omega)).mono ?_; rw [Hy.out]; rintro e w' ⟨rfl, rfl⟩)
        go_round
        case rel => exact ⟨m + 1, by omega, by go_num, val_int (by rw [HP.out]; first | rfl | omega)⟩
        case measure => simp [intOf]; omega
    · have t1 : ¬ ((m : Int) < (n : Int)) := by omega
      have HE := Lib.hid (show peakZ (l.take m) = peakZ l by rw [List.take_of_length_le (by rw [Hn.out]; omega)])
      go_wp2
      go_ret
      exact ⟨ret_int HE.out, rfl⟩
end Go.Proofs.YtoagdidkadfekaaGreatDoor
