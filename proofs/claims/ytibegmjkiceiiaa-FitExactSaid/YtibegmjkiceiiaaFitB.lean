/- Contracts of layer 12's Mask, next, gainsRight, layer 10's Bits; conditions: as each theorem states. -/
import Derived.Test.YtibegmjkiceiiaaFitA
namespace Go.Proofs.Ytibegmjkiceiiaa
open Go.RowKit

def frameA (f : FrameV) (tv : Value) : Array Value := (f.cells tv).toArray
theorem frameA_size {f : FrameV} (h : f.Len) (tv : Value) : (frameA f tv).size = 29 := by unfold frameA; simpa using FrameV.cells_len h tv
theorem frameA_tones {f : FrameV} (h : f.Len) (tv : Value) : (frameA f tv)[4]? = some tv := by
  unfold frameA FrameV.cells
  simp [h.g]
theorem frameA_gain {f : FrameV} (h : f.Len) (tv : Value) {j : Nat} {v : Value} (hv : (f.gains.map (Value.int .i64))[j]? = some v) : (frameA f tv)[0 + j]? = some v := by
  have hj : j < 4 := by have := (List.getElem?_eq_some_iff.1 hv).1; simpa [h.g] using this
  unfold frameA FrameV.cells
  rw [List.getElem?_toArray, Nat.zero_add, List.getElem?_append_left (by simp [h.g, hj])]
  exact hv
theorem frameA_scale {f : FrameV} (h : f.Len) (tv : Value) {j : Nat} {v : Value} (hv : (f.scale.map (Value.int .i64))[j]? = some v) : (frameA f tv)[5 + j]? = some v := by
  have hj : j < 4 := by have := (List.getElem?_eq_some_iff.1 hv).1; simpa [h.s] using this
  unfold frameA FrameV.cells
  rw [List.getElem?_toArray, List.getElem?_append_right (by simp [h.g] <;> omega), List.length_map, h.g, show 5 + j - 4 = j + 1 by omega, List.getElem?_cons_succ, List.getElem?_append_left (by simp [h.s, hj])]
  exact hv
theorem frameA_width {f : FrameV} (h : f.Len) (tv : Value) {j : Nat} {v : Value} (hv : (f.width.map (Value.int .i64))[j]? = some v) : (frameA f tv)[9 + j]? = some v := by
  have hj : j < 4 := by have := (List.getElem?_eq_some_iff.1 hv).1; simpa [h.w] using this
  unfold frameA FrameV.cells
  rw [List.getElem?_toArray, List.getElem?_append_right (by simp [h.g] <;> omega), List.length_map, h.g, show 9 + j - 4 = (j + 4) + 1 by omega, List.getElem?_cons_succ, List.getElem?_append_right (by simp [h.s]), List.length_map, h.s,
    show j + 4 - 4 = j by omega, List.getElem?_append_left (by simp [h.w, hj])]
  exact hv
theorem frameA_q {f : FrameV} (h : f.Len) (tv : Value) {j : Nat} {v : Value} (hv : (f.q.map (Value.int .i64))[j]? = some v) : (frameA f tv)[13 + j]? = some v := by
  have hj : j < 16 := by have := (List.getElem?_eq_some_iff.1 hv).1; simpa [h.q] using this
  unfold frameA FrameV.cells
  rw [List.getElem?_toArray, List.getElem?_append_right (by simp [h.g] <;> omega), List.length_map, h.g, show 13 + j - 4 = (j + 8) + 1 by omega, List.getElem?_cons_succ, List.getElem?_append_right (by simp [h.s] <;> omega), List.length_map, h.s,
    show j + 8 - 4 = j + 4 by omega, List.getElem?_append_right (by simp [h.w]), List.length_map, h.w, show j + 4 - 4 = j by omega]
  exact hv
theorem frameA_one (f : FrameV) {tv : Value} (ht : tv.oneCell' = true) : (frameA f tv).all (·.oneCell') = true := by
  unfold frameA
  rw [Array.all_eq_true_iff_forall_mem]
  intro v hv
  simp [FrameV.cells] at hv
  rcases hv with ⟨x, _, rfl⟩ | rfl | ⟨x, _, rfl⟩ | ⟨x, _, rfl⟩ | ⟨x, _, rfl⟩ <;> first | rfl | exact ht

set_option maxRecDepth 100000 in
set_option maxHeartbeats 1000000 in
theorem Bits_any (f : FrameV) (A : Option Addr) (c : Nat) (w : World) (h : f.Len) (ht : f.tones.length ≤ 1000) (hw : ∀ (k : Nat) (x : Int), f.width[k]? = some x → 0 ≤ x ∧ x ≤ 1000) :
    Calls Try.prog 100 #[.agg (frameA f (.slice A f.tones.length c))] w fun e w' => e = .returned (.int .i64 (bitsZ f)) ∧ Below w.heap.size w w' := by
  have HC := Lib.hid (fun W => Cost_any f.width W h.w hw)
  have hsum : 0 ≤ bgt f.width 0 + bgt f.width 1 + bgt f.width 2 + bgt f.width 3 ∧ bgt f.width 0 + bgt f.width 1 + bgt f.width 2 + bgt f.width 3 ≤ 4000 := by
    obtain ⟨a, ha⟩ := list_get (k := 0) h.w (by omega)
    obtain ⟨b, hb⟩ := list_get (k := 1) h.w (by omega)
    obtain ⟨d, hd⟩ := list_get (k := 2) h.w (by omega)
    obtain ⟨e, he⟩ := list_get (k := 3) h.w (by omega)
    rw [bgt_get ha, bgt_get hb, bgt_get hd, bgt_get he]
    have := hw 0 a ha
    have := hw 1 b hb
    have := hw 2 d hd
    have := hw 3 e he
    omega
  have HB := Lib.hid (show bitsZ f = 52 + 28 * (f.tones.length : Int) + 4 * (bgt f.width 0 + bgt f.width 1 + bgt f.width 2 + bgt f.width 3) from rfl)
  have hc4 := frameA_tones h (.slice A f.tones.length c)
  have hpw := Lib.hid (fun j v (hv : (f.width.map (Value.int .i64))[j]? = some v) => frameA_width h (.slice A f.tones.length c) hv)
  have hwl : (f.width.map (Value.int .i64)).length = 4 := by simp [h.w]
  have HF4 := Lib.hid (show (Try.prog.info? 67).map (·.size) = some (f.width.map (Value.int .i64)).length by rw [hwl]; exact inf_four)
  unfold blockV at HC
  generalize frameA f (.slice A f.tones.length c) = fc at *
  generalize bgt f.width 0 + bgt f.width 1 + bgt f.width 2 + bgt f.width 3 = sm at *
  generalize f.width.map (Value.int .i64) = wv at *
  generalize f.tones.length = tl at *
  have HM := Lib.hid (heap_alloc_new w (.cells fc 71))
  obtain ⟨hs0, hs1⟩ := hsum
  have hw1 : IntKind.i64.wrap (28 * (tl : Int)) = 28 * (tl : Int) := IntWalk.i64_in _ (by omega)
  have hw2 : IntKind.i64.wrap (52 + 28 * (tl : Int)) = 52 + 28 * (tl : Int) := IntWalk.i64_in _ (by omega)
  have hw3 : IntKind.i64.wrap (52 + 28 * (tl : Int) + 4 * sm) = 52 + 28 * (tl : Int) + 4 * sm := IntWalk.i64_in _ (by omega)
  clear hw hwl h ht
  go_enter Try.func100, Try.ntmps100
  go_wp2_with fail
  have hx5 := gw_cells HM.out
  have G0 := Lib.hid (fun w' (hC : ∃ x : GW (w.alloc (.cells fc 71)), w' = x.1) j v (hv : wv[j]? = some v) => (show w'.cell? ⟨w.heap.size, 9 + j, none⟩ = some v by
    obtain ⟨x, rfl⟩ := hC
    rw [gw_cells HM.out x (9 + j)]; exact hpw.out j v hv))
  refine wp_region_calm (by kernel_rfl) (by kernel_rfl) ?_
  repeat (first | (go_big_quiet_want; refine quiet_load_part 67 (.tmp 8) rfl w.heap.size 9 rfl wv _ G0.out Try.underlying67 rfl HF4.out ?_; go_simp; go_big_quiet_on) | go_big_quiet_step ((go_at_call 163; exact calm_call (HC.out _))))
  refine wpQuiet_nil ?_
  intro w5 hw'
  have hb5 := gw_below hw'
  clear hx5 G0 hw'
  go_wp2
  go_ret
  exact ⟨ret_int (by rw [HB.out]), bnext (bnew _ _) hb5⟩

theorem run_min_int4 {P : Program} (ts : Array TypeId) (t : TypeId) (a b c d : Int) (w : World) : (Builtin.min_ ts t #[.int .i64 a, .int .i64 b, .int .i64 c, .int .i64 d]).run P w = .ok (.int .i64 (min (min (min a b) c) d)) w := by
  have e : (if d < (if c < (if b < a then b else a) then c else (if b < a then b else a)) then d else (if c < (if b < a then b else a) then c else (if b < a then b else a))) = min (min (min a b) c) d := by (repeat' split) <;> omega
  simp [Builtin.min_, Builtin.min2, e]
theorem run_max_int4 {P : Program} (ts : Array TypeId) (t : TypeId) (a b c d : Int) (w : World) : (Builtin.max_ ts t #[.int .i64 a, .int .i64 b, .int .i64 c, .int .i64 d]).run P w = .ok (.int .i64 (max (max (max a b) c) d)) w := by
  have e : (if (if (if a < b then b else a) < c then c else (if a < b then b else a)) < d then d else (if (if a < b then b else a) < c then c else (if a < b then b else a))) = max (max (max a b) c) d := by (repeat' split) <;> omega
  simp [Builtin.max_, Builtin.max2, e]

set_option maxRecDepth 100000 in
set_option maxHeartbeats 1000000 in
theorem gainsRight_any (g : List Int) (w : World) (hg : g.length = 4) :
    Calls Try.prog 104 #[blockV g] w fun e w' => e = .returned (.bool (gainOk g)) ∧ Below w.heap.size w w' := by
  obtain ⟨a, b, c, d, rfl⟩ := four_of hg
  unfold blockV
  have hG : gainOk [a, b, c, d] = (decide (0 ≤ min (min (min a b) c) d) && decide (max (max (max a b) c) d ≤ 3)) := by
    unfold gainOk inB
    rw [Bool.eq_iff_iff]
    simp
    omega
  have hmin := fun W => run_min_int4 (P := Try.prog) #[3, 3, 3, 3] 3 a b c d W
  have hmax := fun W => run_max_int4 (P := Try.prog) #[3, 3, 3, 3] 3 a b c d W
  generalize min (min (min a b) c) d = lo at *
  generalize max (max (max a b) c) d = hi at *
  have HG := Lib.hid hG
  clear hG hg
  by_cases h1 : 0 ≤ lo
  · have t1 : decide (0 ≤ lo) = true := decide_eq_true h1
    go_enter Try.func104, Try.ntmps104
    go_wp2
    go_ret
    exact ⟨ret_bool (by rw [HG.out, t1]; simp), bnew _ _⟩
  · have t1 : decide (0 ≤ lo) = false := decide_eq_false h1
    go_enter Try.func104, Try.ntmps104
    go_wp2
    go_ret
    exact ⟨ret_bool (by rw [HG.out, t1]; simp), bnew _ _⟩
end Go.Proofs.Ytibegmjkiceiiaa
