/- FitA, FitB, FitC. Conditions: as each theorem states. -/
import Derived.Test.YtbgkoopfdfnmcaaGreatIc04
import Derived.Test.YtbgkoopfdfnmcaaGreatIc15
import Derived.Test.YtbgkoopfdfnmcaaGreatIc08
import Derived.Test.YtbgkoopfdfnmcaaGreatIc14

namespace Go.Proofs.YtbgkoopfdfnmcaaGreat
open Go.RowKit

/-- what the tones must be that they can be taken away -/
structure TonesOk (b : List Int) (ts : List ToneV) : Prop where
  len : ts.length ≤ 1000
  big : ∀ m, m ≤ ts.length → BigB (outT b (ts.take m))
  each : ∀ t ∈ ts, t.big
theorem TonesOk.out {b : List Int} {ts : List ToneV} (h : TonesOk b ts) : BigB (outT b ts) := by
  have := h.big ts.length (Nat.le_refl _)
  rwa [List.take_length] at this
theorem gw_row {w wr : World} {A : Option Addr} {vs : List Value} (h : Row w w.heap.size A vs) (hb : Below w.heap.size w wr) : Row wr wr.heap.size A vs := h.later hb

set_option maxRecDepth 100000 in
set_option maxHeartbeats 4000000 in
theorem told_any (b g s : List Int) (ts : List ToneV) (A : Option Addr) (cap : Nat) (w : World) (hb : b.length = 16) (hg : g.length = 4) (hs : ScB s) (ht : TonesOk b ts) (hr : Row w w.heap.size A (toneCells ts)) :
    Calls Tryz.prog 85 #[blockV b, blockV g, blockV s, .slice A ts.length cap] w fun e w' => e = .returned (.agg ((toldZ b g s ts).cells (.slice A ts.length cap)).toArray) ∧ Below w.heap.size w w' := by
  have HO := Lib.hid (fun W (hW : Below w.heap.size w W) => toneOut_any b ts A cap W hb (by have := ht.len; omega) (hr.later hW) ht.big ht.each)
  have hol : (outT b ts).length = 16 := by rw [outT_len, hb]
  have HSt := Lib.hid (fun W => Steps_any (outT b ts) s W hol hs.1 ht.out hs.ok)
  have hsb : BigB (stepsTo (outT b ts) s 16) := by
    intro k x hx
    have hk : k < 16 := by
      have := (List.getElem?_eq_some_iff.1 hx).1
      rwa [stepsTo_len] at this
    have h1 := stepsTo_bgt (outT b ts) s (m := 16) hk
    rw [bgt_get hx, if_pos hk] at h1
    obtain ⟨y, hy⟩ := list_get hol hk
    have hyb := ht.out k y hy
    rw [bgt_get hy] at h1
    have := near_bd hyb.1 hyb.2 (bgt s (k / 4)).toNat
    omega
  have HW := Lib.hid (fun W => Widths_any (stepsTo (outT b ts) s 16) W (stepsTo_len _ _ _) hsb)
  have hT : toldZ b g s ts = ⟨g, ts, s, widthsZ (stepsTo (outT b ts) s 16), stepsTo (outT b ts) s 16⟩ := by unfold toldZ stepsZ; rw [if_pos hs.ok]
  have HT := Lib.hid (frame_built (toldZ b g s ts) ⟨by rw [hT]; exact hg, by rw [hT]; exact hs.1, by rw [hT]; exact widthsTo_len _ _, by rw [hT]; exact stepsTo_len _ _ _⟩ A ts.length cap)
  rw [hT] at HT ⊢
  have HL := Lib.hid (FrameV.cells_len (f := ⟨g, ts, s, widthsZ (stepsTo (outT b ts) s 16), stepsTo (outT b ts) s 16⟩) ⟨hg, hs.1, widthsTo_len _ _, stepsTo_len _ _ _⟩ (.slice A ts.length cap))
  have h3l : ((stepsTo (outT b ts) s 16).map (Value.int .i64)).toArray.size = 16 := by simp [stepsTo_len]
  have h31 := ints_one (stepsTo (outT b ts) s 16)
  simp only at HT
  unfold blockV at *
  generalize hfc : (FrameV.cells ⟨g, ts, s, widthsZ (stepsTo (outT b ts) s 16), stepsTo (outT b ts) s 16⟩ (.slice A ts.length cap)).toArray = fc at *
  have hfs : fc.size = 29 := by rw [← hfc]; simpa using HL.out
  have hf1 : fc.all (·.oneCell') = true := by
    rw [← hfc, Array.all_eq_true_iff_forall_mem]
    intro v hv
    simp [FrameV.cells] at hv
    rcases hv with ⟨x, _, rfl⟩ | rfl | ⟨x, _, rfl⟩ | ⟨x, _, rfl⟩ | ⟨x, _, rfl⟩ <;> rfl
  have Hfs := Lib.hid hfs
  have Hf1 := Lib.hid hf1
  have HFf := Lib.hid (show (Tryz.prog.info? 78).map (·.size) = some fc.size by rw [hfs]; exact inf_frame)
  clear hfs hf1 hfc HL hT
  have hz1 : (b.map (Value.int .i64)).toArray.size = 16 := by simp [hb]
  have hz2 : (g.map (Value.int .i64)).toArray.size = 4 := by simp [hg]
  have hz3 : (s.map (Value.int .i64)).toArray.size = 4 := by simp [hs.1]
  generalize ((stepsTo (outT b ts) s 16).map (Value.int .i64)).toArray = sv at *
  generalize ((outT b ts).map (Value.int .i64)).toArray = ov at *
  generalize (b.map (Value.int .i64)).toArray = bv at *
  generalize (g.map (Value.int .i64)).toArray = gv at *
  generalize (s.map (Value.int .i64)).toArray = cv at *
  have HFb := Lib.hid (show (Tryz.prog.info? 74).map (·.size) = some bv.size by rw [hz1]; exact inf_block)
  have HFs := Lib.hid (show (Tryz.prog.info? 74).map (·.size) = some sv.size by rw [h3l]; exact inf_block)
  have HFg := Lib.hid (show (Tryz.prog.info? 75).map (·.size) = some gv.size by rw [hz2]; exact inf_four)
  have HFc := Lib.hid (show (Tryz.prog.info? 156).map (·.size) = some cv.size by rw [hz3]; exact inf_scales)
  have Hs1 := Lib.hid h31
  have Hsl := Lib.hid h3l
  have H4 := Lib.hid (heap4 w (.cells bv 74) (.cells gv 75) (.cells cv 156) (.cells #[.int .i64 0, .int .i64 0, .int .i64 0, .int .i64 0, .slice none 0 0, .int .i64 0, .int .i64 0, .int .i64 0, .int .i64 0, .int .i64 0, .int .i64 0, .int .i64 0, .int .i64 0, .int .i64 0, .int .i64 0, .int .i64 0, .int .i64 0, .int .i64 0, .int .i64 0, .int .i64 0, .int .i64 0, .int .i64 0, .int .i64 0, .int .i64 0, .int .i64 0, .int .i64 0, .int .i64 0, .int .i64 0, .int .i64 0] 78))
  clear hz1 hz2 hz3 h31 h3l hb hg hs ht hr hol hsb
  go_enter Tryz.func85, Tryz.ntmps85
  go_wp2_with fail
  obtain ⟨H0, H1, H2, H3, Hz, HB⟩ := H4.out
  have K0 := Lib.hid H0
  have K1 := Lib.hid H1
  have K2 := Lib.hid H2
  have K3 := Lib.hid H3
  have KB := Lib.hid HB
  have Kz := Lib.hid Hz
  clear H0 H1 H2 H3 Hz HB H4
  refine wp_region_drawn' 6 (oneVar (w.heap.size + 4) 5 (List.replicate 16 (Value.int .i64 0)).toArray 74) (by kernel_rfl) (by kernel_rfl) (oneVar_stable _ _ _ _) ?_
  refine drawn_quiet 0 5 1 (by decide) (by intro j hj; unfold oneVar; rw [if_neg (by omega)]) (fun W hW => ?_)
  simp only [List.take_succ_cons, List.take_zero, List.drop_succ_cons, List.drop_zero]
  have HB1 := btail KB.out (by omega) hW
  have HOW := Lib.hid (fun (x : GW W) => HO.out x.1 (bnext HB1 x.2))
  have G0 := gw_heap (hkeep K0.out hW)
  have G2 := gw_heap (hkeep K2.out hW)
  repeat (first | (go_big_quiet_want; refine quiet_load_row 74 (.tmp 4) rfl w.heap.size rfl _ bv _ _ G0 Tryz.underlying74 rfl HFb.out ?_; go_simp; go_big_quiet_on) | (go_big_quiet_want; refine quiet_load_row 156 (.tmp 6) rfl (w.heap.size + 1 + 1) rfl _ cv _ _ G2 Tryz.underlying156 rfl HFc.out ?_; go_simp; go_big_quiet_on) | go_big_quiet_step ((first | (go_at_call 84; exact calm_call (HOW.out _)) | (go_at_call 110; exact calm_call (HSt.out _)))))
  refine wpQuiet_nil ?_
  clear HB1 HOW G0 G2 hW
  refine drawn_alloc 5 0 _ (w.heap.size + 4) _ 74 rfl rfl (by rw [Kz.out]; omega) rfl (fun W => rfl) (fun v => ?_)
  refine drawn_done (fun W5 hW5 hG => ?_)
  obtain ⟨_, g5, hv, hg5, hz5⟩ := hG
  subst hv
  have HB5 := Lib.hid (btail KB.out (by omega) hW5)
  have L0 := Lib.hid (hkeep K0.out hW5)
  have L1 := Lib.hid (hkeep K1.out hW5)
  have L2 := Lib.hid (hkeep K2.out hW5)
  have L3 := Lib.hid (hkeep K3.out hW5)
  have L5 := Lib.hid hz5
  have l5 := hlt hz5
  have hz := Nat.le_trans (Nat.le_of_eq Kz.out.symm) hW5.size
  clear hW5 hz5 W K0 K1 K2 K3 KB Kz
  simp only [Act.put, List.setIfInBounds_toArray, List.set_cons_zero, List.set_cons_succ]
  go_wp2_with (refine wpList_store_row_w rfl 74 (.tmp 9) (.tmp 14) rfl g5 rfl _ (List.replicate 16 (Value.int .i64 0)).toArray sv rfl L5.out HFs.out (by rw [Hsl.out]; rfl) Hs1.out ?_)
  simp only [Act.put]
  have L5' := Lib.hid (setRow_at W5 g5 _ _ sv L5.out)
  have hfar : ∀ g, g < w.heap.size + 4 → ∀ o, W5.heap[g]? = some o → (W5.setRow g5 sv).heap[g]? = some o := fun g hg o ho => ((setRow_below (B := w.heap.size + 4) (Below.refl _ W5) g5 (by omega) sv).block g hg).trans ho
  have L0' := Lib.hid (hfar _ (by omega) _ L0.out)
  have L1' := Lib.hid (hfar _ (by omega) _ L1.out)
  have L2' := Lib.hid (hfar _ (by omega) _ L2.out)
  have L3' := Lib.hid (hfar _ (by omega) _ L3.out)
  have LB' := Lib.hid (setRow_below HB5.out g5 (by omega) sv)
  have hzz : (W5.setRow g5 sv).heap.size = W5.heap.size := size_setRow _ _ _
  clear L0 L1 L2 L3 L5 HB5 hfar
  generalize W5.setRow g5 sv = W6 at *
  have P1 := gw_heap L1'.out
  have P2 := gw_heap L2'.out
  have P5 := gw_heap L5'.out
  refine wp_region_calm_tail 6 (by kernel_rfl) (by kernel_rfl) ?_
  simp only [List.take_succ_cons, List.take_zero, List.drop_succ_cons, List.drop_zero]
  repeat (first | (go_big_quiet_want; refine quiet_load_row 75 (.tmp 5) rfl (w.heap.size + 1) rfl _ gv _ _ P1 Tryz.underlying75 rfl HFg.out ?_; go_simp; go_big_quiet_on) | (go_big_quiet_want; refine quiet_load_row 156 (.tmp 6) rfl (w.heap.size + 1 + 1) rfl _ cv _ _ P2 Tryz.underlying156 rfl HFc.out ?_; go_simp; go_big_quiet_on) | (go_big_quiet_want; refine quiet_load_row 74 (.tmp 9) rfl g5 rfl _ sv _ _ P5 Tryz.underlying74 rfl HFs.out ?_; go_simp; go_big_quiet_on) | go_big_quiet_step ((go_at_call 111; exact calm_call (HW.out _))))
  refine wpQuiet_nil ?_
  intro w7 hw7
  have hb7 := gw_below hw7
  have M3 := Lib.hid ((hb7.block (w.heap.size + 1 + 1 + 1) (by omega)).trans L3'.out)
  have MB := Lib.hid (bnext LB'.out hb7)
  clear hw7 hb7 P1 P2 P5
  go_wp2_with (first | (refine wpList_built rfl 78 _ rfl fc (by simpa [Act.eval] using HT.out) ?_) | (refine wpList_store_row_w rfl 78 (.tmp 8) (.tmp 21) rfl (w.heap.size + 1 + 1 + 1) rfl _ _ fc rfl M3.out HFf.out (by rw [Hfs.out]; rfl) Hf1.out ?_))
  refine bodyPost_ret (v := .agg fc) (results_cell_row Tryz.results85 _ _ (w.heap.size + 1 + 1 + 1) 78 fc (0, 0) _ rfl (setRow_at w7 _ _ _ fc M3.out) Tryz.underlying78 rfl HFf.out) rfl ?_
  exact ⟨rfl, setRow_below MB.out _ (by omega) _⟩
end Go.Proofs.YtbgkoopfdfnmcaaGreat

namespace Go.Proofs.YtbgkoopfdfnmcaaGreat
open Go.RowKit

def frameA (f : FrameV) (tv : Value) : Array Value := (f.cells tv).toArray
theorem frameA_size {f : FrameV} (h : f.Len) (tv : Value) : (frameA f tv).size = 29 := by unfold frameA; simpa using FrameV.cells_len h tv
theorem frameA_tones {f : FrameV} (h : f.Len) (tv : Value) : (frameA f tv)[4]? = some tv := by
  unfold frameA FrameV.cells
  simp [h.g]
theorem frameA_gain {f : FrameV} (h : f.Len) (tv : Value) {j : Nat} {v : Value} (hv : (f.gains.map (Value.int .i64))[j]? = some v) : (frameA f tv)[0 + j]? = some v := by
  have hj : j < 4 := by have := (List.getElem?_eq_some_iff.1 hv).1; simpa [h.g] using this
  unfold frameA FrameV.cells
  rw [List.getElem?_toArray, Nat.zero_add, List.getElem?_append_left (by simp [h.g, hj])]
  exact hv
theorem frameA_scale {f : FrameV} (h : f.Len) (tv : Value) {j : Nat} {v : Value} (hv : (f.scale.map (Value.int .i64))[j]? = some v) : (frameA f tv)[5 + j]? = some v := by
  have hj : j < 4 := by have := (List.getElem?_eq_some_iff.1 hv).1; simpa [h.s] using this
  unfold frameA FrameV.cells
  rw [List.getElem?_toArray, List.getElem?_append_right (by simp [h.g] <;> omega), List.length_map, h.g, show 5 + j - 4 = j + 1 by omega, List.getElem?_cons_succ, List.getElem?_append_left (by simp [h.s, hj])]
  exact hv
theorem frameA_width {f : FrameV} (h : f.Len) (tv : Value) {j : Nat} {v : Value} (hv : (f.width.map (Value.int .i64))[j]? = some v) : (frameA f tv)[9 + j]? = some v := by
  have hj : j < 4 := by have := (List.getElem?_eq_some_iff.1 hv).1; simpa [h.w] using this
  unfold frameA FrameV.cells
  rw [List.getElem?_toArray, List.getElem?_append_right (by simp [h.g] <;> omega), List.length_map, h.g, show 9 + j - 4 = (j + 4) + 1 by omega, List.getElem?_cons_succ, List.getElem?_append_right (by simp [h.s]), List.length_map, h.s,
    show j + 4 - 4 = j by omega, List.getElem?_append_left (by simp [h.w, hj])]
  exact hv
theorem frameA_q {f : FrameV} (h : f.Len) (tv : Value) {j : Nat} {v : Value} (hv : (f.q.map (Value.int .i64))[j]? = some v) : (frameA f tv)[13 + j]? = some v := by
  have hj : j < 16 := by have := (List.getElem?_eq_some_iff.1 hv).1; simpa [h.q] using this
  unfold frameA FrameV.cells
  rw [List.getElem?_toArray, List.getElem?_append_right (by simp [h.g] <;> omega), List.length_map, h.g, show 13 + j - 4 = (j + 8) + 1 by omega, List.getElem?_cons_succ, List.getElem?_append_right (by simp [h.s] <;> omega), List.length_map, h.s,
    show j + 8 - 4 = j + 4 by omega, List.getElem?_append_right (by simp [h.w]), List.length_map, h.w, show j + 4 - 4 = j by omega]
  exact hv
theorem frameA_one (f : FrameV) {tv : Value} (ht : tv.oneCell' = true) : (frameA f tv).all (·.oneCell') = true := by
  unfold frameA
  rw [Array.all_eq_true_iff_forall_mem]
  intro v hv
  simp [FrameV.cells] at hv
  rcases hv with ⟨x, _, rfl⟩ | rfl | ⟨x, _, rfl⟩ | ⟨x, _, rfl⟩ | ⟨x, _, rfl⟩ <;> first | rfl | exact ht

set_option maxRecDepth 100000 in
set_option maxHeartbeats 1000000 in
theorem Bits_any (f : FrameV) (A : Option Addr) (c : Nat) (w : World) (h : f.Len) (ht : f.tones.length ≤ 1000) (hw : ∀ (k : Nat) (x : Int), f.width[k]? = some x → 0 ≤ x ∧ x ≤ 1000) :
    Calls Tryz.prog 86 #[.agg (frameA f (.slice A f.tones.length c))] w fun e w' => e = .returned (.int .i64 (bitsZ f)) ∧ Below w.heap.size w w' := by
  have HC := Lib.hid (fun W => Cost_any f.width W h.w hw)
  have hsum : 0 ≤ bgt f.width 0 + bgt f.width 1 + bgt f.width 2 + bgt f.width 3 ∧ bgt f.width 0 + bgt f.width 1 + bgt f.width 2 + bgt f.width 3 ≤ 4000 := by
    obtain ⟨a, ha⟩ := list_get (k := 0) h.w (by omega)
    obtain ⟨b, hb⟩ := list_get (k := 1) h.w (by omega)
    obtain ⟨d, hd⟩ := list_get (k := 2) h.w (by omega)
    obtain ⟨e, he⟩ := list_get (k := 3) h.w (by omega)
    rw [bgt_get ha, bgt_get hb, bgt_get hd, bgt_get he]
    have := hw 0 a ha
    have := hw 1 b hb
    have := hw 2 d hd
    have := hw 3 e he
    omega
  have HB := Lib.hid (show bitsZ f = 52 + 28 * (f.tones.length : Int) + 4 * (bgt f.width 0 + bgt f.width 1 + bgt f.width 2 + bgt f.width 3) from rfl)
  have hc4 := frameA_tones h (.slice A f.tones.length c)
  have hpw := Lib.hid (fun j v (hv : (f.width.map (Value.int .i64))[j]? = some v) => frameA_width h (.slice A f.tones.length c) hv)
  have hwl : (f.width.map (Value.int .i64)).length = 4 := by simp [h.w]
  have HF4 := Lib.hid (show (Tryz.prog.info? 75).map (·.size) = some (f.width.map (Value.int .i64)).length by rw [hwl]; exact inf_four)
  unfold blockV at HC
  generalize frameA f (.slice A f.tones.length c) = fc at *
  generalize bgt f.width 0 + bgt f.width 1 + bgt f.width 2 + bgt f.width 3 = sm at *
  generalize f.width.map (Value.int .i64) = wv at *
  generalize f.tones.length = tl at *
  have HM := Lib.hid (heap_alloc_new w (.cells fc 78))
  obtain ⟨hs0, hs1⟩ := hsum
  have hw1 : IntKind.i64.wrap (28 * (tl : Int)) = 28 * (tl : Int) := IntWalk.i64_in _ (by omega)
  have hw2 : IntKind.i64.wrap (52 + 28 * (tl : Int)) = 52 + 28 * (tl : Int) := IntWalk.i64_in _ (by omega)
  have hw3 : IntKind.i64.wrap (52 + 28 * (tl : Int) + 4 * sm) = 52 + 28 * (tl : Int) + 4 * sm := IntWalk.i64_in _ (by omega)
  clear hw hwl h ht
  go_enter Tryz.func86, Tryz.ntmps86
  go_wp2_with fail
  have hx5 := gw_cells HM.out
  have G0 := Lib.hid (fun w' (hC : ∃ x : GW (w.alloc (.cells fc 78)), w' = x.1) j v (hv : wv[j]? = some v) => (show w'.cell? ⟨w.heap.size, 9 + j, none⟩ = some v by
    obtain ⟨x, rfl⟩ := hC
    rw [gw_cells HM.out x (9 + j)]; exact hpw.out j v hv))
  refine wp_region_calm (by kernel_rfl) (by kernel_rfl) ?_
  repeat (first | (go_big_quiet_want; refine quiet_load_part 75 (.tmp 8) rfl w.heap.size 9 rfl wv _ G0.out Tryz.underlying75 rfl HF4.out ?_; go_simp; go_big_quiet_on) | go_big_quiet_step ((go_at_call 112; exact calm_call (HC.out _))))
  refine wpQuiet_nil ?_
  intro w5 hw'
  have hb5 := gw_below hw'
  clear hx5 G0 hw'
  go_wp2
  go_ret
  exact ⟨ret_int (by rw [HB.out]), bnext (bnew _ _) hb5⟩

theorem run_min_int4 {P : Program} (ts : Array TypeId) (t : TypeId) (a b c d : Int) (w : World) : (Builtin.min_ ts t #[.int .i64 a, .int .i64 b, .int .i64 c, .int .i64 d]).run P w = .ok (.int .i64 (min (min (min a b) c) d)) w := by
  have e : (if d < (if c < (if b < a then b else a) then c else (if b < a then b else a)) then d else (if c < (if b < a then b else a) then c else (if b < a then b else a))) = min (min (min a b) c) d := by (repeat' split) <;> omega
  simp [Builtin.min_, Builtin.min2, e]
theorem run_max_int4 {P : Program} (ts : Array TypeId) (t : TypeId) (a b c d : Int) (w : World) : (Builtin.max_ ts t #[.int .i64 a, .int .i64 b, .int .i64 c, .int .i64 d]).run P w = .ok (.int .i64 (max (max (max a b) c) d)) w := by
  have e : (if (if (if a < b then b else a) < c then c else (if a < b then b else a)) < d then d else (if (if a < b then b else a) < c then c else (if a < b then b else a))) = max (max (max a b) c) d := by (repeat' split) <;> omega
  simp [Builtin.max_, Builtin.max2, e]

set_option maxRecDepth 100000 in
set_option maxHeartbeats 1000000 in
theorem gainsRight_any (g : List Int) (w : World) (hg : g.length = 4) :
    Calls Tryz.prog 54 #[blockV g] w fun e w' => e = .returned (.bool (gainOk g)) ∧ Below w.heap.size w w' := by
  obtain ⟨a, b, c, d, rfl⟩ := four_of hg
  unfold blockV
  have hG : gainOk [a, b, c, d] = (decide (0 ≤ min (min (min a b) c) d) && decide (max (max (max a b) c) d ≤ 3)) := by
    unfold gainOk inB
    rw [Bool.eq_iff_iff]
    simp
    omega
  have hmin := fun W => run_min_int4 (P := Tryz.prog) #[3, 3, 3, 3] 3 a b c d W
  have hmax := fun W => run_max_int4 (P := Tryz.prog) #[3, 3, 3, 3] 3 a b c d W
  generalize min (min (min a b) c) d = lo at *
  generalize max (max (max a b) c) d = hi at *
  have HG := Lib.hid hG
  clear hG hg
  by_cases h1 : 0 ≤ lo
  · have t1 : decide (0 ≤ lo) = true := decide_eq_true h1
    go_enter Tryz.func54, Tryz.ntmps54
    go_wp2
    go_ret
    exact ⟨ret_bool (by rw [HG.out, t1]; simp), bnew _ _⟩
  · have t1 : decide (0 ≤ lo) = false := decide_eq_false h1
    go_enter Tryz.func54, Tryz.ntmps54
    go_wp2
    go_ret
    exact ⟨ret_bool (by rw [HG.out, t1]; simp), bnew _ _⟩
end Go.Proofs.YtbgkoopfdfnmcaaGreat

namespace Go.Proofs.YtbgkoopfdfnmcaaGreat
open Go.RowKit

def masksUpTo (b : List Int) (m : Nat) : List Int := (List.range 4).map fun i => if i < m then (widthZ (peakZ ((b.drop (i * 4)).take 4)) : Int) else 0
theorem masksUpTo_zero (b : List Int) : masksUpTo b 0 = [0, 0, 0, 0] := rfl
theorem masksUpTo_four (b : List Int) : masksUpTo b 4 = maskZ b := by
  unfold masksUpTo maskZ
  refine List.map_congr_left fun i hi => ?_
  rw [if_pos (List.mem_range.1 hi)]
theorem masksUpTo_succ (b : List Int) {m : Nat} (hm : m < 4) : (masksUpTo b m).set m (widthZ (peakZ ((b.drop (m * 4)).take 4)) : Int) = masksUpTo b (m + 1) := by
  refine range_map_set _ (fun i => if i < m + 1 then (widthZ (peakZ ((b.drop (i * 4)).take 4)) : Int) else 0) hm ?_ (fun i hi => ?_)
  · rw [if_pos (by omega)]
  · by_cases h : i < m
    · rw [if_pos h, if_pos (by omega)]
    · rw [if_neg h, if_neg (by omega)]
theorem masksUpTo_len (b : List Int) (m : Nat) : (masksUpTo b m).length = 4 := by simp [masksUpTo]
theorem masksUpTo_get (b : List Int) {m k : Nat} (hk : k < 4) (hm : m ≤ k) : (masksUpTo b m)[k]? = some 0 := by
  unfold masksUpTo
  rw [range_map_get _ hk, if_neg (by omega)]
theorem big_peak {b : List Int} (h : BigB b) {l : List Int} (hl : ∀ x ∈ l, x ∈ b) : 0 ≤ peakZ l ∧ peakZ l ≤ 4611686018427387904 :=
  ⟨peakZ_nn l, peakZ_le (by omega) l fun x hx => by
    obtain ⟨k, hk, rfl⟩ := List.mem_iff_getElem.1 (hl x hx)
    have := h k _ (List.getElem?_eq_getElem hk)
    exact absZ_le (by omega) (by omega) (by omega)⟩
theorem quarter_mem {b : List Int} {i n : Nat} : ∀ x ∈ (b.drop i).take n, x ∈ b := fun _ hx => List.mem_of_mem_drop (List.mem_of_mem_take hx)

set_option maxRecDepth 100000 in
set_option maxHeartbeats 4000000 in
theorem Mask_any (b : List Int) (w : World) (hb : b.length = 16) (hr : BigB b) :
    Calls Tryz.prog 83 #[blockV b] w fun e w' => e = .returned (blockV (maskZ b)) ∧ Below w.heap.size w w' := by
  unfold blockV
  have Hb := Lib.hid hb
  have Hr := Lib.hid hr
  have HB := Lib.hid (Blk.new w 74 (b.map (Value.int .i64)))
  have H3 := Lib.hid (heap3 w (.cells (b.map (Value.int .i64)).toArray 74) (.cells (List.replicate 4 (.int .i64 0)).toArray 75) (.cells (List.replicate 4 (.int .i64 0)).toArray 75))
  generalize hbv : b.map (Value.int .i64) = bv at *
  have Hbv := Lib.hid hbv
  clear hb hr hbv HB
  go_enter Tryz.func83, Tryz.ntmps83
  go_wp2_with fail
  go_loopw [5] (fun i wr => ∃ (m : Nat), m ≤ 4 ∧ i = .int .i64 m ∧ Blk wr w.heap.size 74 bv ∧ Blk wr (w.heap.size + 1) 75 (List.replicate 4 (.int .i64 0)) ∧ Blk wr (w.heap.size + 1 + 1) 75 ((masksUpTo b m).map (Value.int .i64)) ∧ Below w.heap.size w wr) (fun i _ => 4 - (intOf i).toNat)
  case atStart => exact ⟨0, by omega, rfl, H3.out.1, H3.out.2.1, H3.out.2.2.1, H3.out.2.2.2.2⟩
  case round =>
    obtain ⟨m, hm, rfl, hB, hZ, hM, hbel⟩ := hrel
    have HB := Lib.hid hB
    have HZ := Lib.hid hZ
    have HM := Lib.hid hM
    have Hbel := Lib.hid hbel
    clear H3
    by_cases hlt : m < 4
    · have t1 : (m : Int) < 4 := by omega
      have hql : ((b.drop (m * 4)).take 4).length = 4 := by rw [List.length_take, List.length_drop, Hb.out]; omega
      have hpb := big_peak Hr.out (l := (b.drop (m * 4)).take 4) quarter_mem
      have HP := Lib.hid (show ∀ cap, Calls Tryz.prog 53 #[.slice (some ⟨w.heap.size, m * 4, none⟩) 4 cap] wr fun e w' => e = .returned (.int .i64 (peakZ ((b.drop (m * 4)).take 4))) ∧ wr = w' from fun cap => by
        have := Peak_any (some ⟨w.heap.size, m * 4, none⟩) cap ((b.drop (m * 4)).take 4) wr (by omega) (fun i v hv => ⟨_, m * 4, rfl, HB.out.lt, by
          rw [HB.out.cell, ← Hbv.out]
          rw [List.map_take, List.map_drop, List.getElem?_take] at hv
          split at hv
          · rw [List.getElem?_drop] at hv; exact hv
          · cases hv⟩) (fun x hx => by
          obtain ⟨k, hk, rfl⟩ := List.mem_iff_getElem.1 (quarter_mem x hx)
          have := Hr.out k _ (List.getElem?_eq_getElem hk)
          omega)
        rw [hql] at this
        exact this)
      have HSt := Lib.hid (masksUpTo_succ b hlt)
      generalize peakZ ((b.drop (m * 4)).take 4) = P at *
      have HWd := Lib.hid (fun W => Width_any P W (by omega) (by omega))
      have ce : wr.cell? ⟨w.heap.size + 1 + 1, m, none⟩ = some (.int .i64 0) := by rw [hM.cell, List.getElem?_map, masksUpTo_get b hlt (Nat.le_refl m)]; rfl
      have fz := hM.frozen m
      have hsl := slice_block w.heap.size 0 ((m : Int) * 4) (((m : Int) + 1) * 4) (m * 4) (m * 4 + 4) (by omega) (by omega) (by omega) (by omega) (by omega)
      rw [Nat.zero_add, show m * 4 + 4 - m * 4 = 4 by omega] at hsl
      clear hB hZ hM hbel hql
      go_wp2_with (first | (go_at_call 53; refine (HP.out _).mono ?_; rintro e w1 ⟨rfl, rfl⟩) | (go_at_call 52; refine (HWd.out _).mono ?_; rintro e w1 ⟨rfl, rfl⟩))
      go_roundw
      case rel =>
        refine ⟨m + 1, by omega, by go_num, HB.out.far (by simp; omega) _, HZ.out.far (by simp) _, ?_, Hbel.out.setCell (by simp; omega) _⟩
        rw [← HSt.out, List.map_set]
        exact HM.out.set_ m _
      case measure => simp [intOf]; omega
    · have hm4 : m = 4 := by omega
      subst hm4
      have t1 : ¬ (((4 : Nat) : Int) < 4) := by omega
      have hH := Lib.hid (show wr.heap[w.heap.size + 1 + 1]? = some (.cells ((masksUpTo b 4).map (Value.int .i64)).toArray 75 (0, 0)) from HM.out)
      have hH2 := Lib.hid (show wr.heap[w.heap.size + 1]? = some (.cells (List.replicate 4 (Value.int .i64 0)).toArray 75 (0, 0)) from HZ.out)
      have H1 := Lib.hid (ints_one (masksUpTo b 4))
      have hsz2 : ((masksUpTo b 4).map (Value.int .i64)).toArray.size = 4 := by simp [masksUpTo_len]
      obtain ⟨xs, hxs⟩ : ∃ xs, ((masksUpTo b 4).map (Value.int .i64)).toArray = xs := ⟨_, rfl⟩
      rw [hxs] at hH H1 hsz2
      have HE := Lib.hid hxs
      clear hxs
      have HF2 := Lib.hid (show (Tryz.prog.info? 75).map (·.size) = some xs.size by rw [hsz2]; exact inf_four)
      have Hsz := Lib.hid hsz2
      clear hsz2 hB hZ hM
      go_wp2_with (first | (refine wpList_load_row_w rfl 75 (.tmp 3) rfl (w.heap.size + 1 + 1) rfl _ xs _ _ hH.out Tryz.underlying75 rfl HF2.out ?_) | (refine wpList_store_row_w rfl 75 (.tmp 2) (.tmp 19) rfl (w.heap.size + 1) rfl _ _ xs rfl hH2.out HF2.out (by rw [Hsz.out]; simp) H1.out ?_))
      refine bodyPost_ret (v := .agg xs) (results_cell_row Tryz.results83 _ _ (w.heap.size + 1) 75 xs (0, 0) _ rfl (setRow_at wr _ _ _ xs hH2.out) Tryz.underlying75 rfl HF2.out) rfl ?_
      exact ⟨by rw [← HE.out, masksUpTo_four], setRow_below Hbel.out _ (by omega) _⟩
end Go.Proofs.YtbgkoopfdfnmcaaGreat
