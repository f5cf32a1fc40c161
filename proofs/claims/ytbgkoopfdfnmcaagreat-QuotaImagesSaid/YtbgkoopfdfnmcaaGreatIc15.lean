/- Parts, LiftB, GainA. Conditions: as each theorem states. -/
import Derived.ChangeKeysEq
import Derived.Laws.Tables
import Derived.Test.YtbgkoopfdfnmcaaGreatIc09
import Derived.Test.YtbgkoopfdfnmcaaGreatIc08
import Derived.Test.YtbgkoopfdfnmcaaGreatIc14

namespace Go.Proofs.YtbgkoopfdfnmcaaGreat
open Go.RowKit

section
variable {P : Program} {ops : Array Oper} {rest : List Oper} {o : Oper} {a : Act} {w : World} {Q : Exit → Act → World → Prop}
theorem add_off (g off j : Nat) : (⟨g, off, none⟩ : Addr).add j = ⟨g, off + j, none⟩ := by
  unfold Addr.add
  split
  · rename_i h; simp_all
  · rfl
theorem run_loadVar_part (w : World) (g off : Nat) (ty : TypeId) (xs : List Value) (d : TypeDesc) (h : ∀ j v, xs[j]? = some v → w.cell? ⟨g, off + j, none⟩ = some v)
    (hu : P.underlying ty = some d) (hd : (match d with | .struct _ | .array _ _ => true | _ => false) = true) (hi : (P.info? ty).map (·.size) = some xs.length) :
    (loadVar ty ⟨g, off, none⟩).run P w = .ok (.agg xs.toArray) w := by
  have hl : (loadCells ⟨g, off, none⟩ xs.length).run P w = .ok xs.toArray w :=
    run_loadCells_list (P := P) w ⟨g, off, none⟩ xs (fun j v hv => by rw [add_off]; exact h j v hv)
  cases hq : P.info? ty with
  | none => simp [hq] at hi
  | some i =>
    have hs : i.size = xs.length := by simpa [hq] using hi
    have hagg : (isAgg ty).run P w = .ok true w := by
      unfold isAgg
      rw [Sem.run_bind, run_underlying hu w]
      cases d <;> simp_all
    simp [loadVar, Sem.run_bind, hagg, sizeOf, typeInfo, hq, hs, hl]
/-- an array that is a part of a block, out of memory -/
theorem wpList_load_part_w (hgd : Region.wanted o (yielded ops a.tmps) = true) (ty : TypeId) (x : Operand) (ho : o.op = .load ty x)
    (g off : Nat) (hx : a.eval x = .pointer (some ⟨g, off, none⟩)) (xs : List Value) (d : TypeDesc) (h : ∀ j v, xs[j]? = some v → w.cell? ⟨g, off + j, none⟩ = some v)
    (hu : P.underlying ty = some d) (hd : (match d with | .struct _ | .array _ _ => true | _ => false) = true) (hi : (P.info? ty).map (·.size) = some xs.length)
    (hk : wpList P ops Q rest (a.put o.dst (.agg xs.toArray)) w) : wpList P ops Q (o :: rest) a w :=
  wpList_wanted hgd fun _ hK => by
    unfold Oper.wp execOp
    simp only [ho, hx, Instr.loadAt, Instr.sureAddr, Sem.run_bind, Sem.run_pure, Result.andThen_ok, run_loadVar_part w g off ty xs d h hu hd hi]
    exact hK _ _ hk
theorem quiet_load_part {C : World → Prop} {K : Act → Prop} (ty : TypeId) (x : Operand) (ho : o.op = .load ty x)
    (g off : Nat) (hx : a.eval x = .pointer (some ⟨g, off, none⟩)) (xs : List Value) (d : TypeDesc) (h : ∀ w, C w → ∀ j v, xs[j]? = some v → w.cell? ⟨g, off + j, none⟩ = some v)
    (hu : P.underlying ty = some d) (hd : (match d with | .struct _ | .array _ _ => true | _ => false) = true) (hi : (P.info? ty).map (·.size) = some xs.length)
    (hk : K (a.put o.dst (.agg xs.toArray))) : o.quiet P a C K := by
  refine ⟨_, fun w hw => ?_, hk⟩
  unfold Oper.quietAt execOp
  simp only [ho, hx, Instr.loadAt, Instr.sureAddr, Sem.run_bind, Sem.run_pure, Result.andThen_ok, run_loadVar_part w g off ty xs d (h w hw) hu hd hi]
  exact ⟨rfl, rfl⟩

/-- a struct or an array is built -/
theorem wpList_built (hgd : o.guard = none) (t : TypeId) (parts : Array (Nat × Operand)) (ho : o.op = .build t parts) (cs : Array Value)
    (hb : P.built t (parts.map fun (i, x) => (i, a.eval x)).toList = some cs) (h : wpList P ops Q rest (a.put o.dst (.agg cs)) w) : wpList P ops Q (o :: rest) a w :=
  wpList_build hgd t parts ho (by rw [hb]; rfl) (by rw [hb]; exact h)
theorem run_part_int {e : TypeId} {k : IntKind} (he : P.underlying e = some (.int k)) {i : TypeInfo} (hi : P.info? e = some i) (hs : i.size = 1) (a : List Int) {j : Nat} {x : Int} (hx : a[j]? = some x) (w : World) :
    (part e (a.map (Value.int .i64)).toArray (j * 1)).run P w = .ok (.int .i64 x) w := by
  have ha : (isAgg e).run P w = .ok false w := by
    unfold isAgg
    rw [Sem.run_bind, run_underlying he w]
    simp
  unfold part
  simp [Sem.run_bind, sizeOf, typeInfo, hi, hs, ha, hx]
theorem run_eqItems_ints (d : Nat) {e : TypeId} (he : P.underlying e = some (.int .i64)) {i : TypeInfo} (hi : P.info? e = some i) (hs : i.size = 1) (a b : List Int) (w : World) : ∀ (is : List Nat), (∀ j ∈ is, j < a.length ∧ j < b.length) →
    (Op.eqItems (d + 1) e 1 (a.map (Value.int .i64)).toArray (b.map (Value.int .i64)).toArray is).run P w = .ok (is.all fun j => decide (bgt a j = bgt b j)) w
  | [], _ => by simp [Op.eqItems]
  | j :: is, h => by
    obtain ⟨h1, h2⟩ := h j (by simp)
    have e1 := List.getElem?_eq_getElem h1
    have e2 := List.getElem?_eq_getElem h2
    have ih := run_eqItems_ints d he hi hs a b w is (fun k hk => h k (by simp [hk]))
    simp only [Op.eqItems, Sem.run_bind, run_part_int he hi hs a e1, run_part_int he hi hs b e2, Result.andThen_ok, Op.equalIn, run_underlying he, if_true, Sem.run_pure]
    rw [List.all_cons, bgt_get e1, bgt_get e2]
    by_cases hh : a[j] = b[j]
    · simp [hh, ih]
    · simp [hh]
theorem all_range_eq {a b : List Int} {n : Nat} (ha : a.length = n) (hb : b.length = n) : (List.range n).all (fun j => decide (bgt a j = bgt b j)) = decide (a = b) := by
  rw [Bool.eq_iff_iff, List.all_eq_true, decide_eq_true_eq]
  constructor
  · intro h
    refine (self_map ha).trans ((List.map_congr_left fun k hk => ?_).trans (self_map hb).symm)
    exact of_decide_eq_true (h k hk)
  · rintro rfl k _
    simp
/-- arrays of integers are compared -/
theorem run_eq_ints {t e : TypeId} {n : Nat} (hu : P.underlying t = some (.array n e)) (he : P.underlying e = some (.int .i64)) {i : TypeInfo} (hi : P.info? e = some i) (hs : i.size = 1)
    (a b : List Int) (ha : a.length = n) (hb : b.length = n) (w : World) : (Op.equal t (blockV a) (blockV b)).run P w = .ok (decide (a = b)) w := by
  have hc : P.cellsOf e = 1 := by unfold Program.cellsOf; rw [hi]; simpa using hs
  show (Op.equalIn (9999 + 1) t _ _).run P w = _
  unfold blockV
  rw [run_equalIn_array w 9999 _ _ hu hi, hc, run_eqItems_ints 9998 he hi hs a b w _ (fun j hj => by have := List.mem_range.1 hj; omega), all_range_eq ha hb]
end
theorem inf_int1 : (Tryz.prog.info? 3).map (·.size) = some 1 := by kernel_rfl
theorem inf_int64 : (Tryz.prog.info? 2).map (·.size) = some 1 := by kernel_rfl
theorem eq_four (a b : List Int) (ha : a.length = 4) (hb : b.length = 4) (w : World) : (Op.equal 75 (blockV a) (blockV b)).run Tryz.prog w = .ok (decide (a = b)) w := by
  obtain ⟨i, hi, hs⟩ : ∃ i, Tryz.prog.info? 3 = some i ∧ i.size = 1 := by
    have := inf_int1
    cases h : Tryz.prog.info? 3 with
    | none => rw [h] at this; cases this
    | some i => rw [h] at this; exact ⟨i, rfl, by simpa using this⟩
  exact run_eq_ints Tryz.underlying75 Tryz.underlying3 hi hs a b ha hb w
theorem eq_block (a b : List Int) (ha : a.length = 16) (hb : b.length = 16) (w : World) : (Op.equal 74 (blockV a) (blockV b)).run Tryz.prog w = .ok (decide (a = b)) w := by
  obtain ⟨i, hi, hs⟩ : ∃ i, Tryz.prog.info? 2 = some i ∧ i.size = 1 := by
    have := inf_int64
    cases h : Tryz.prog.info? 2 with
    | none => rw [h] at this; cases this
    | some i => rw [h] at this; exact ⟨i, rfl, by simpa using this⟩
  exact run_eq_ints Tryz.underlying74 Tryz.underlying2 hi hs a b ha hb w

theorem block_len : Tryz.prog.arrayLen 74 = 16 := by kernel_rfl
theorem block_und : Tryz.prog.underlying 74 = some (.array (Tryz.prog.arrayLen 74) (Tryz.prog.elem 74)) := by kernel_rfl
theorem block_elem (W : World) : (sizeOf (Tryz.prog.elem 74)).run Tryz.prog W = .ok 1 W := by kernel_rfl
/-- a part of a block, as a slice -/
theorem slice_block (g off : Nat) (l h : Int) (x y : Nat) (hl : l = x) (hh : h = y) (h1 : x ≤ y) (h2 : y ≤ 16) (hx : x < 16) (W : World) :
    (Instr.sliceAt 74 (.pointer (some ⟨g, off, none⟩)) (some (.int .i64 l)) (some (.int .i64 h)) none).run Tryz.prog W = .ok (.slice (some ⟨g, off + x, none⟩) (y - x) (16 - x)) W := by
  subst hl hh
  rw [run_sliceAt_array_lh W 74 ⟨g, off, none⟩ block_und .i64 .i64 x y (by omega) (by omega) (by rw [block_len]; omega), block_elem W]
  simp only [Result.andThen_ok, slicedAt, block_len, Int.toNat_natCast, Nat.mul_one]
  rw [if_neg (by omega), add_off]

/-! Frames. -/
def FrameV.cells (f : FrameV) (tv : Value) : List Value := f.gains.map (Value.int .i64) ++ (tv :: (f.scale.map (Value.int .i64) ++ (f.width.map (Value.int .i64) ++ f.q.map (Value.int .i64))))
structure FrameV.Len (f : FrameV) : Prop where
  g : f.gains.length = 4
  s : f.scale.length = 4
  w : f.width.length = 4
  q : f.q.length = 16
theorem FrameV.cells_len {f : FrameV} (h : f.Len) (tv : Value) : (f.cells tv).length = 29 := by
  unfold FrameV.cells
  simp [h.g, h.s, h.w, h.q]
theorem inf_frame : (Tryz.prog.info? 78).map (·.size) = some 29 := by kernel_rfl
/-- a frame's value in a world: its tones lie in memory -/
def FrameAt (w : World) (f : FrameV) (tv : Value) : Prop := ∃ A c, tv = .slice A f.tones.length c ∧ f.tones.length ≤ c ∧ c ≤ 9223372036854775807 ∧ Row w w.heap.size A (toneCells f.tones)
theorem FrameAt.later {w w' : World} {f : FrameV} {tv : Value} (h : FrameAt w f tv) (hb : Below w.heap.size w w') : FrameAt w' f tv := by
  obtain ⟨A, c, h1, h2, h3, h4⟩ := h
  exact ⟨A, c, h1, h2, h3, h4.later hb⟩
theorem four_of {l : List Int} (h : l.length = 4) : ∃ a b c d, l = [a, b, c, d] := by
  match l, h with
  | [a, b, c, d], _ => exact ⟨a, b, c, d, rfl⟩
theorem sixteen_of {l : List Int} (h : l.length = 16) : ∃ a0 a1 a2 a3 a4 a5 a6 a7 a8 a9 b0 b1 b2 b3 b4 b5, l = [a0, a1, a2, a3, a4, a5, a6, a7, a8, a9, b0, b1, b2, b3, b4, b5] := by
  match l, h with
  | [a0, a1, a2, a3, a4, a5, a6, a7, a8, a9, b0, b1, b2, b3, b4, b5], _ => exact ⟨a0, a1, a2, a3, a4, a5, a6, a7, a8, a9, b0, b1, b2, b3, b4, b5, rfl⟩
theorem frame_built (f : FrameV) (h : f.Len) (A : Option Addr) (n c : Nat) :
    Tryz.prog.built 78 [(0, blockV f.gains), (1, .slice A n c), (2, blockV f.scale), (3, blockV f.width), (4, blockV f.q)] = some (f.cells (.slice A n c)).toArray := by
  obtain ⟨g, ts, s, wd, q⟩ := f
  obtain ⟨hg, hs, hw, hq⟩ := h
  simp only at hg hs hw hq
  obtain ⟨g0, g1, g2, g3, rfl⟩ := four_of hg
  obtain ⟨s0, s1, s2, s3, rfl⟩ := four_of hs
  obtain ⟨w0, w1, w2, w3, rfl⟩ := four_of hw
  obtain ⟨a0, a1, a2, a3, a4, a5, a6, a7, a8, a9, b0, b1, b2, b3, b4, b5, rfl⟩ := sixteen_of hq
  kernel_rfl
end Go.Proofs.YtbgkoopfdfnmcaaGreat

namespace Go.Proofs.YtbgkoopfdfnmcaaGreat
open Go.RowKit

def turnsTo (m : Nat) : List Value := ((List.range 8).map fun k => if k < m then (turnK k).cells else [.int .i64 0, .int .i64 0]).flatten
def turnsA : Array Value := (turnsTo 8).toArray
theorem turnsTo_len (m : Nat) : (turnsTo m).length = 16 := by
  unfold turnsTo
  simp [List.range, List.range.loop]
  repeat' split
  all_goals rfl
theorem turnsTo_set {m : Nat} (hm : m < 8) : ((turnsTo m).set (m * 2) (.int .i64 (turnK m).p)).set (m * 2 + 1) (.int .i64 (turnK m).u) = turnsTo (m + 1) := by
  have hk8 : m = 0 ∨ m = 1 ∨ m = 2 ∨ m = 3 ∨ m = 4 ∨ m = 5 ∨ m = 6 ∨ m = 7 := by omega
  rcases hk8 with rfl | rfl | rfl | rfl | rfl | rfl | rfl | rfl <;> rfl
theorem turnsTo_get {m : Nat} (hm : m < 8) : (turnsTo m)[m * 2]? = some (.int .i64 0) ∧ (turnsTo m)[m * 2 + 1]? = some (.int .i64 0) := by
  have hk8 : m = 0 ∨ m = 1 ∨ m = 2 ∨ m = 3 ∨ m = 4 ∨ m = 5 ∨ m = 6 ∨ m = 7 := by omega
  rcases hk8 with rfl | rfl | rfl | rfl | rfl | rfl | rfl | rfl <;> exact ⟨rfl, rfl⟩
theorem turnsTo_one (m : Nat) : (turnsTo m).toArray.all (·.oneCell') = true := by
  rw [Array.all_eq_true_iff_forall_mem]
  intro v hv
  rw [List.mem_toArray] at hv
  unfold turnsTo at hv
  obtain ⟨l, hl, hv⟩ := List.mem_flatten.1 hv
  obtain ⟨k, _, rfl⟩ := List.mem_map.1 hl
  split at hv
  · simp [TurnV.cells] at hv
    rcases hv with rfl | rfl <;> rfl
  · simp at hv
    subst hv; rfl
theorem inf_turns : (Tryz.prog.info? 54).map (·.size) = some 16 := by kernel_rfl
theorem inf_pairs : (Tryz.prog.info? 56).map (·.size) = some 16 := by kernel_rfl
theorem inf_net : (Tryz.prog.info? 58).map (·.size) = some 16 := by kernel_rfl
theorem inf_lap : (Tryz.prog.info? 60).map (·.size) = some 32 := by kernel_rfl

set_option maxRecDepth 100000 in
set_option maxHeartbeats 4000000 in
theorem Turns_any (w : World) : Calls Tryz.prog 44 #[] w fun e w' => e = .returned (.agg turnsA) ∧ Below w.heap.size w w' := by
  have H2 := Lib.hid (heap2 w (.cells (List.replicate 16 (Value.int .i64 0)).toArray 54) (.cells (List.replicate 16 (Value.int .i64 0)).toArray 54))
  go_enter Tryz.func44, Tryz.ntmps44
  go_wp2
  go_loopw [3] (fun i wr => ∃ m : Nat, m ≤ 8 ∧ i = .int .i64 m ∧ Blk wr (w.heap.size + 1) 54 (turnsTo m) ∧ Blk wr w.heap.size 54 (List.replicate 16 (.int .i64 0)) ∧ Below w.heap.size w wr) (fun i _ => 8 - (intOf i).toNat)
  case atStart => exact ⟨0, by omega, rfl, H2.out.2.1, H2.out.1, H2.out.2.2.2⟩
  case round =>
    obtain ⟨m, hm, rfl, hB, hZ, hbel⟩ := hrel
    have HB := Lib.hid hB
    have HZ := Lib.hid hZ
    have Hbel := Lib.hid hbel
    clear hB hZ hbel H2
    by_cases hlk : m < 8
    · have t1 : (m : Int) < 8 := by omega
      have HS := Lib.hid (turnsTo_set hlk)
      have HG := Lib.hid (turnsTo_get hlk)
      have HT := Lib.hid (fun W => tableTurn_any m W hlk)
      generalize turnK m = tk at *
      obtain ⟨p, u⟩ := tk
      simp only at HS HT
      go_wp2_with (go_at_call 76; fail)
      refine (HT.out _).mono ?_
      rintro e w1 ⟨rfl, hb1⟩
      have B1 := Lib.hid (HB.out.below hb1 HB.out.lt)
      have Z1 := Lib.hid (HZ.out.below hb1 HZ.out.lt)
      have L1 := Lib.hid (bnext Hbel.out hb1)
      have ce1 : w1.cell? ⟨w.heap.size + 1, m * 2, none⟩ = some (.int .i64 0) := (B1.out.cell _).trans HG.out.1
      have fz1 := B1.out.frozen (m * 2)
      have S1 := Lib.hid (B1.out.set_ (m * 2) (.int .i64 p))
      have ce2 : (w1.setCell ⟨w.heap.size + 1, m * 2, none⟩ (.int .i64 p)).cell? ⟨w.heap.size + 1, m * 2 + 1, none⟩ = some (.int .i64 0) := by
        rw [S1.out.cell, List.getElem?_set, if_neg (by omega)]; exact HG.out.2
      have fz2 := S1.out.frozen (m * 2 + 1)
      clear hb1
      go_wp2
      go_roundw
      case rel =>
        refine ⟨m + 1, by omega, by go_num, ?_, (Z1.out.far (by simp) _).far (by simp) _, (L1.out.setCell (by simp) _).setCell (by simp) _⟩
        rw [← HS.out]
        exact S1.out.set_ _ _
      case measure => simp [intOf]; omega
    · have hm8 : m = 8 := by omega
      subst hm8
      have t1 : ¬ (((8 : Nat) : Int) < 8) := by omega
      have hH := Lib.hid (show wr.heap[w.heap.size + 1]? = some (.cells (turnsTo 8).toArray 54 (0, 0)) from HB.out)
      have hH2 := Lib.hid (show wr.heap[w.heap.size]? = some (.cells (List.replicate 16 (Value.int .i64 0)).toArray 54 (0, 0)) from HZ.out)
      have H1 := Lib.hid (turnsTo_one 8)
      have hsz2 : (turnsTo 8).toArray.size = 16 := by simp [turnsTo_len]
      obtain ⟨xs, hxs⟩ : ∃ xs, (turnsTo 8).toArray = xs := ⟨_, rfl⟩
      rw [hxs] at hH H1 hsz2
      have HE := Lib.hid hxs
      clear hxs
      have HF2 := Lib.hid (show (Tryz.prog.info? 54).map (·.size) = some xs.size by rw [hsz2]; exact inf_turns)
      have Hsz := Lib.hid hsz2
      clear hsz2
      go_wp2_with (first | (refine wpList_load_row_w rfl 54 (.tmp 1) rfl (w.heap.size + 1) rfl _ xs _ _ hH.out Tryz.underlying54 rfl HF2.out ?_) | (refine wpList_store_row_w rfl 54 (.tmp 0) (.tmp 11) rfl w.heap.size rfl _ _ xs rfl hH2.out HF2.out (by rw [Hsz.out]; simp) H1.out ?_))
      refine bodyPost_ret (v := .agg xs) (results_cell_row Tryz.results44 _ _ w.heap.size 54 xs (0, 0) _ rfl (setRow_at wr _ _ _ xs hH2.out) Tryz.underlying54 rfl HF2.out) rfl ?_
      exact ⟨by rw [← HE.out]; rfl, setRow_below Hbel.out _ (by omega) _⟩

theorem turnsA_size : turnsA.size = 16 := by simp [turnsA, turnsTo_len]
theorem turnsA_one : turnsA.all (·.oneCell') = true := turnsTo_one 8
def lapA : Array Value := turnsA ++ turnsA
theorem lapA_size : lapA.size = 32 := by simp [lapA, turnsA_size]
theorem lapA_one : lapA.all (·.oneCell') = true := by
  unfold lapA
  rw [Array.all_append, turnsA_one]; rfl
theorem built_pairs : Tryz.prog.built 56 [(0, .agg turnsA)] = some turnsA := by kernel_rfl
theorem built_net : Tryz.prog.built 58 [(0, .agg turnsA)] = some turnsA := by kernel_rfl
theorem built_lap : Tryz.prog.built 60 [(0, .agg turnsA), (1, .agg turnsA)] = some lapA := by kernel_rfl
set_option maxRecDepth 100000 in
theorem liftNew_any (w : World) : Calls Tryz.prog 43 #[.agg turnsA] w fun e w' => e = .returned (.agg turnsA) ∧ Below w.heap.size w w' := by
  have HT := Lib.hid built_pairs
  have HF := Lib.hid (show (Tryz.prog.info? 54).map (·.size) = some turnsA.size by rw [turnsA_size]; exact inf_turns)
  have HP := Lib.hid (show (Tryz.prog.info? 56).map (·.size) = some turnsA.size by rw [turnsA_size]; exact inf_pairs)
  have H1 := Lib.hid turnsA_one
  have Hs := Lib.hid (show (List.replicate 16 (Value.int .i64 0)).toArray.size = turnsA.size by rw [turnsA_size]; rfl)
  generalize turnsA = tv at *
  have H2 := Lib.hid (heap2 w (.cells tv 54) (.cells (List.replicate 16 (Value.int .i64 0)).toArray 56))
  go_enter Tryz.func43, Tryz.ntmps43
  go_wp2_with (refine wpList_load_row_w rfl 54 (.tmp 1) rfl w.heap.size rfl _ tv _ _ H2.out.1 Tryz.underlying54 rfl HF.out ?_; refine wpList_built rfl 56 _ rfl tv (by simpa [Act.eval, Act.put] using HT.out) ?_; refine wpList_store_row_w rfl 56 (.tmp 2) (.tmp 4) rfl (w.heap.size + 1) rfl _ _ tv rfl H2.out.2.1 HP.out Hs.out H1.out ?_)
  refine bodyPost_ret (v := .agg tv) (results_cell_row Tryz.results43 _ _ (w.heap.size + 1) 56 tv (0, 0) _ rfl (setRow_at _ _ _ _ tv H2.out.2.1) Tryz.underlying56 rfl HP.out) rfl ?_
  exact ⟨rfl, setRow_below H2.out.2.2.2 _ (by omega) _⟩
set_option maxRecDepth 100000 in
theorem netNew_any (w : World) : Calls Tryz.prog 45 #[] w fun e w' => e = .returned (.agg turnsA) ∧ Below w.heap.size w w' := by
  have HT := Lib.hid built_net
  have HTu := Lib.hid Turns_any
  have HP := Lib.hid (show (Tryz.prog.info? 58).map (·.size) = some turnsA.size by rw [turnsA_size]; exact inf_net)
  have H1 := Lib.hid turnsA_one
  have Hs := Lib.hid (show (List.replicate 16 (Value.int .i64 0)).toArray.size = turnsA.size by rw [turnsA_size]; rfl)
  generalize turnsA = tv at *
  have HM := Lib.hid (heap_alloc_new w (.cells (List.replicate 16 (Value.int .i64 0)).toArray 58))
  go_enter Tryz.func45, Tryz.ntmps45
  go_wp2_with (go_at_call 44; fail)
  refine (HTu.out _).mono ?_
  rintro e w1 ⟨rfl, hb1⟩
  have M1 := Lib.hid (hkeep HM.out hb1)
  have B1 := Lib.hid (bnext (bnew w _) hb1)
  clear hb1
  go_wp2_with (first | (refine wpList_built rfl 58 _ rfl tv (by simpa [Act.eval] using HT.out) ?_) | (refine wpList_store_row_w rfl 58 (.tmp 0) (.tmp 2) rfl w.heap.size rfl _ _ tv rfl M1.out HP.out Hs.out H1.out ?_))
  refine bodyPost_ret (v := .agg tv) (results_cell_row Tryz.results45 _ _ w.heap.size 58 tv (0, 0) _ rfl (setRow_at _ _ _ _ tv M1.out) Tryz.underlying58 rfl HP.out) rfl ?_
  exact ⟨rfl, setRow_below B1.out _ (by omega) _⟩
set_option maxRecDepth 100000 in
theorem lapNew_any (w : World) : Calls Tryz.prog 19 #[] w fun e w' => e = .returned (.agg lapA) ∧ Below w.heap.size w w' := by
  have HT := Lib.hid built_lap
  have HTu := Lib.hid Turns_any
  have HLi := Lib.hid liftNew_any
  have HNe := Lib.hid netNew_any
  have HP := Lib.hid (show (Tryz.prog.info? 60).map (·.size) = some lapA.size by rw [lapA_size]; exact inf_lap)
  have H1 := Lib.hid lapA_one
  have Hs := Lib.hid (show (List.replicate 32 (Value.int .i64 0)).toArray.size = lapA.size by rw [lapA_size]; rfl)
  generalize lapA = lv at *
  generalize turnsA = tv at *
  have HM := Lib.hid (heap_alloc_new w (.cells (List.replicate 32 (Value.int .i64 0)).toArray 60))
  go_enter Tryz.func19, Tryz.ntmps19
  go_wp2_with (go_at_call 44; fail)
  refine (HTu.out _).mono ?_
  rintro e w1 ⟨rfl, hb1⟩
  have M1 := Lib.hid (hkeep HM.out hb1)
  have B1 := Lib.hid (bnext (bnew w _) hb1)
  clear hb1
  go_wp2_with (go_at_call 43; fail)
  refine (HLi.out _).mono ?_
  rintro e w2 ⟨rfl, hb2⟩
  have M2 := Lib.hid (hkeep M1.out hb2)
  have B2 := Lib.hid (bnext B1.out hb2)
  clear hb2
  go_wp2_with (go_at_call 45; fail)
  refine (HNe.out _).mono ?_
  rintro e w3 ⟨rfl, hb3⟩
  have M3 := Lib.hid (hkeep M2.out hb3)
  have B3 := Lib.hid (bnext B2.out hb3)
  clear hb3
  go_wp2_with (first | (refine wpList_built rfl 60 _ rfl lv (by simpa [Act.eval] using HT.out) ?_) | (refine wpList_store_row_w rfl 60 (.tmp 0) (.tmp 4) rfl w.heap.size rfl _ _ lv rfl M3.out HP.out Hs.out H1.out ?_))
  refine bodyPost_ret (v := .agg lv) (results_cell_row Tryz.results19 _ _ w.heap.size 60 lv (0, 0) _ rfl (setRow_at _ _ _ _ lv M3.out) Tryz.underlying60 rfl HP.out) rfl ?_
  exact ⟨rfl, setRow_below B3.out _ (by omega) _⟩
end Go.Proofs.YtbgkoopfdfnmcaaGreat

namespace Go.Proofs.YtbgkoopfdfnmcaaGreat
open Go.RowKit

/-- gains that may be -/
def GainB (g : List Int) : Prop := g.length = 4 ∧ gainOk g = true
theorem GainB.get {g : List Int} (h : GainB g) {q : Nat} {x : Int} (hx : g[q]? = some x) : 0 ≤ x ∧ x ≤ 3 := by
  have := List.all_eq_true.1 h.2 x (List.mem_of_getElem? hx)
  unfold inB at this
  simpa using this
set_option maxRecDepth 100000 in
theorem At_any (g : List Int) (i : Nat) (w : World) (hg : GainB g) (hi : i < 16) :
    Calls Tryz.prog 77 #[blockV g, .int .i64 i] w fun e w' => e = .returned (.int .i64 (bgt g (i / 4))) ∧ Below w.heap.size w w' := by
  have HR := Lib.hid (fun W => gainRight_any g W hg.1)
  rw [hg.2] at HR
  obtain ⟨q, hq⟩ : ∃ q, i / 4 = q := ⟨_, rfl⟩
  obtain ⟨x, hx⟩ := list_get (k := q) hg.1 (by omega)
  rw [hq, bgt_get hx]
  have hqi : (i : Int) / 4 = (q : Int) := by omega
  have hq4 : (q : Int) < 4 := by omega
  have hq0 : (0 : Int) ≤ (q : Int) := by omega
  have e1 : decide ((i : Int) < 0) = false := decide_eq_false (by omega)
  have e2 : decide ((16 : Int) ≤ (i : Int)) = false := decide_eq_false (by omega)
  have hcx := blk_get hx
  have hgz : (g.map (Value.int .i64)).toArray.size = 4 := by simp [hg.1]
  unfold blockV at *
  generalize (g.map (Value.int .i64)).toArray = gv at *
  have HFg := Lib.hid (show (Tryz.prog.info? 75).map (·.size) = some gv.size by rw [hgz]; exact inf_four)
  have HM := Lib.hid (heap_alloc_new w (.cells gv 75))
  have Hcx := Lib.hid hcx
  clear hgz hg hx hq hi hcx
  go_enter Tryz.func77, Tryz.ntmps77
  go_wp2_with (first | (go_at_call 100; fail) | (refine wpList_load_row_w rfl 75 (.tmp 2) rfl w.heap.size rfl _ gv _ _ HM.out Tryz.underlying75 rfl HFg.out ?_))
  refine (HR.out _).mono ?_
  rintro e w1 ⟨rfl, hb1⟩
  have ce : w1.cell? ⟨w.heap.size, q, none⟩ = some (.int .i64 x) := (cell_of_row w1 w.heap.size q _ _ _ (hkeep HM.out hb1)).trans Hcx.out
  have B1 := Lib.hid (bnext (bnew w _) hb1)
  clear hb1
  go_wp2
  go_ret
  exact ⟨rfl, B1.out⟩

theorem up_wrap {x : Int} {k : Nat} (h : -1099511627776 ≤ x ∧ x ≤ 1099511627776) (hk : k ≤ 3) : IntKind.i64.wrap (x * 2 ^ k) = x * 2 ^ k := by
  have hk4 : k = 0 ∨ k = 1 ∨ k = 2 ∨ k = 3 := by omega
  rcases hk4 with rfl | rfl | rfl | rfl
  · rw [show (2 : Int) ^ 0 = 1 by decide]; exact IntWalk.i64_in _ (by omega)
  · rw [show (2 : Int) ^ 1 = 2 by decide]; exact IntWalk.i64_in _ (by omega)
  · rw [show (2 : Int) ^ 2 = 4 by decide]; exact IntWalk.i64_in _ (by omega)
  · rw [show (2 : Int) ^ 3 = 8 by decide]; exact IntWalk.i64_in _ (by omega)
def TurnB (b : List Int) : Prop := ∀ (k : Nat) (x : Int), b[k]? = some x → -1099511627776 ≤ x ∧ x ≤ 1099511627776

set_option maxRecDepth 100000 in
set_option maxHeartbeats 4000000 in
theorem Up_any (b g : List Int) (w : World) (hb : b.length = 16) (hr : TurnB b) (hg : GainB g) :
    Calls Tryz.prog 49 #[blockV b, blockV g] w fun e w' => e = .returned (blockV (valuesTo b g 16)) ∧ Below w.heap.size w w' := by
  have HA := Lib.hid (fun i W (hi : i < 16) => At_any g i W hg hi)
  have HG := Lib.hid (fun q x (hx : g[q]? = some x) => hg.get hx)
  have Hgl := Lib.hid hg.1
  have Hb := Lib.hid hb
  have Hr := Lib.hid hr
  have hgz : (g.map (Value.int .i64)).toArray.size = 4 := by simp [hg.1]
  unfold blockV at *
  generalize (g.map (Value.int .i64)).toArray = gv at *
  have HFg := Lib.hid (show (Tryz.prog.info? 75).map (·.size) = some gv.size by rw [hgz]; exact inf_four)
  have H3 := Lib.hid (heap3 w (.cells (b.map (Value.int .i64)).toArray 74) (.cells gv 75) (.cells (List.replicate 16 (Value.int .i64 0)).toArray 74))
  generalize hbv : b.map (Value.int .i64) = bv at *
  have Hbv := Lib.hid hbv
  clear hgz hg hb hr hbv
  go_enter Tryz.func49, Tryz.ntmps49
  go_wp2_with fail
  go_loopw [6] (fun i wr => ∃ (m : Nat), m ≤ 16 ∧ i = .int .i64 m ∧ Blk wr w.heap.size 74 ((valuesTo b g m).map (Value.int .i64)) ∧ wr.heap[w.heap.size + 1]? = some (.cells gv 75 (0, 0)) ∧ Blk wr (w.heap.size + 1 + 1) 74 (List.replicate 16 (.int .i64 0)) ∧ Below w.heap.size w wr) (fun i _ => 16 - (intOf i).toNat)
  case atStart => exact ⟨0, by omega, rfl, by rw [valuesTo_zero g Hb.out, Hbv.out]; exact H3.out.1, H3.out.2.1, H3.out.2.2.1, H3.out.2.2.2.2⟩
  case round =>
    obtain ⟨m, hm, rfl, hB, hG, hZ, hbel⟩ := hrel
    have HB := Lib.hid hB
    have HGr := Lib.hid hG
    have HZ := Lib.hid hZ
    have Hbel := Lib.hid hbel
    clear H3
    by_cases hlk : m < 16
    · have t1 : (m : Int) < 16 := by omega
      obtain ⟨x, hx⟩ := list_get (k := m) Hb.out hlk
      obtain ⟨q, hq⟩ : ∃ q, m / 4 = q := ⟨_, rfl⟩
      obtain ⟨y, hy⟩ := list_get (k := q) Hgl.out (by omega)
      obtain ⟨y0, y1⟩ := HG.out q y hy
      obtain ⟨p, rfl⟩ := Int.eq_ofNat_of_zero_le y0
      have HAt := Lib.hid (fun W => HA.out m W hlk)
      rw [hq, bgt_get hy] at HAt
      have hwr := up_wrap (Hr.out m x hx) (k := p) (by omega)
      have HSt := Lib.hid (show (valuesTo b g m).set m (x * 2 ^ p) = valuesTo b g (m + 1) by
        rw [← valuesTo_succ b g hlk, bgt_get hx, hq, bgt_get hy, Int.toNat_natCast])
      have hc2 : ((valuesTo b g m).map (Value.int .i64))[m]? = some (.int .i64 x) := by rw [List.getElem?_map, valuesTo_get b g hlk (Nat.le_refl m) hx]; rfl
      have x5 := gw_blk hB
      have P1 := gw_heap hG
      have t2 : (0 : Int) ≤ (p : Int) := by omega
      have t3 : (p : Int) ≤ 64 := by omega
      obtain ⟨s2, hs2⟩ : ∃ s2 : Int, x * 2 ^ p = s2 := ⟨_, rfl⟩
      rw [hs2] at HSt hwr
      clear hx hy hq hB hG hZ hbel y0 y1
      go_wp2_with fail
      refine wp_region_calm_tail 8 (by kernel_rfl) (by kernel_rfl) ?_
      simp only [List.take_succ_cons, List.take_zero, List.drop_succ_cons, List.drop_zero]
      repeat (first | (go_big_quiet_want; refine quiet_load_row 75 (.tmp 3) rfl (w.heap.size + 1) rfl _ gv _ _ P1 Tryz.underlying75 rfl HFg.out ?_; go_simp; go_big_quiet_on) | go_big_quiet_step ((go_at_call 77; exact calm_call (HAt.out _))))
      refine wpQuiet_nil ?_
      intro w5 hw'
      have hb5 := gw_below hw'
      have hB5 := HB.out.below hb5 HB.out.lt
      have HB5 := Lib.hid hB5
      have HZ5 := Lib.hid (HZ.out.below hb5 HZ.out.lt)
      have HG5 := Lib.hid (hkeep HGr.out hb5)
      have Hb5 := Lib.hid (bnext Hbel.out hb5)
      have ce : w5.cell? ⟨w.heap.size, m, none⟩ = some (.int .i64 x) := by rw [hB5.cell]; exact hc2
      have fz := hB5.frozen m
      clear hw' hb5 x5 P1 hB5
      go_wp2
      go_roundw
      case rel =>
        refine ⟨m + 1, by omega, by go_num, ?_, (Below.heap_setCell w5 _ _ _ (by simp)).trans HG5.out, HZ5.out.far (by simp; omega) _, Hb5.out.setCell (by simp) _⟩
        rw [← HSt.out, List.map_set]
        exact HB5.out.set_ m _
      case measure => simp [intOf]; omega
    · have hm16 : m = 16 := by omega
      subst hm16
      have t1 : ¬ (((16 : Nat) : Int) < 16) := by omega
      have hH := Lib.hid (show wr.heap[w.heap.size]? = some (.cells ((valuesTo b g 16).map (Value.int .i64)).toArray 74 (0, 0)) from HB.out)
      have hH2 := Lib.hid (show wr.heap[w.heap.size + 1 + 1]? = some (.cells (List.replicate 16 (Value.int .i64 0)).toArray 74 (0, 0)) from HZ.out)
      have H1 := Lib.hid (ints_one (valuesTo b g 16))
      have hsz2 : ((valuesTo b g 16).map (Value.int .i64)).toArray.size = 16 := by simp [valuesTo_len]
      obtain ⟨xs, hxs⟩ : ∃ xs, ((valuesTo b g 16).map (Value.int .i64)).toArray = xs := ⟨_, rfl⟩
      rw [hxs] at hH H1 hsz2
      have HE := Lib.hid hxs
      clear hxs
      have HF2 := Lib.hid (show (Tryz.prog.info? 74).map (·.size) = some xs.size by rw [hsz2]; exact inf_block)
      have Hsz := Lib.hid hsz2
      clear hsz2 hB hG hZ
      go_wp2_with (first | (refine wpList_load_row_w rfl 74 (.tmp 2) rfl w.heap.size rfl _ xs _ _ hH.out Tryz.underlying74 rfl HF2.out ?_) | (refine wpList_store_row_w rfl 74 (.tmp 4) (.tmp 18) rfl (w.heap.size + 1 + 1) rfl _ _ xs rfl hH2.out HF2.out (by rw [Hsz.out]; simp) H1.out ?_))
      refine bodyPost_ret (v := .agg xs) (results_cell_row Tryz.results49 _ _ (w.heap.size + 1 + 1) 74 xs (0, 0) _ rfl (setRow_at wr _ _ _ xs hH2.out) Tryz.underlying74 rfl HF2.out) rfl ?_
      exact ⟨by rw [← HE.out], setRow_below Hbel.out _ (by omega) _⟩
end Go.Proofs.YtbgkoopfdfnmcaaGreat
