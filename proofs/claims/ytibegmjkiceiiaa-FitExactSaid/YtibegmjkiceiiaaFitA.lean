/- Contracts of layer 12's told; conditions: as each theorem states. -/
import Derived.Test.YtibegmjkiceiiaaParts
import Derived.Test.YtibegmjkiceiiaaFitQ
import Derived.Test.YtibegmjkiceiiaaHeaps
import Derived.Test.YtibegmjkiceiiaaDrawn
namespace Go.Proofs.Ytibegmjkiceiiaa
open Go.RowKit

/-- what the tones must be that they can be taken away -/
structure TonesOk (b : List Int) (ts : List ToneV) : Prop where
  len : ts.length ≤ 1000
  big : ∀ m, m ≤ ts.length → BigB (outT b (ts.take m))
  each : ∀ t ∈ ts, t.big
theorem TonesOk.out {b : List Int} {ts : List ToneV} (h : TonesOk b ts) : BigB (outT b ts) := by
  have := h.big ts.length (Nat.le_refl _)
  rwa [List.take_length] at this
theorem gw_row {w wr : World} {A : Option Addr} {vs : List Value} (h : Row w w.heap.size A vs) (hb : Below w.heap.size w wr) : Row wr wr.heap.size A vs := h.later hb

set_option maxRecDepth 100000 in
set_option maxHeartbeats 4000000 in
theorem told_any (b g s : List Int) (ts : List ToneV) (A : Option Addr) (cap : Nat) (w : World) (hb : b.length = 16) (hg : g.length = 4) (hs : ScB s) (ht : TonesOk b ts) (hr : Row w w.heap.size A (toneCells ts)) :
    Calls Try.prog 99 #[blockV b, blockV g, blockV s, .slice A ts.length cap] w fun e w' => e = .returned (.agg ((toldZ b g s ts).cells (.slice A ts.length cap)).toArray) ∧ Below w.heap.size w w' := by
  have HO := Lib.hid (fun W (hW : Below w.heap.size w W) => toneOut_any b ts A cap W hb (by have := ht.len; omega) (hr.later hW) ht.big ht.each)
  have hol : (outT b ts).length = 16 := by rw [outT_len, hb]
  have HSt := Lib.hid (fun W => Steps_any (outT b ts) s W hol hs.1 ht.out hs.ok)
  have hsb : BigB (stepsTo (outT b ts) s 16) := by
    intro k x hx
    have hk : k < 16 := by
      have := (List.getElem?_eq_some_iff.1 hx).1
      rwa [stepsTo_len] at this
    have h1 := stepsTo_bgt (outT b ts) s (m := 16) hk
    rw [bgt_get hx, if_pos hk] at h1
    obtain ⟨y, hy⟩ := list_get hol hk
    have hyb := ht.out k y hy
    rw [bgt_get hy] at h1
    have := near_bd hyb.1 hyb.2 (bgt s (k / 4)).toNat
    omega
  have HW := Lib.hid (fun W => Widths_any (stepsTo (outT b ts) s 16) W (stepsTo_len _ _ _) hsb)
  have hT : toldZ b g s ts = ⟨g, ts, s, widthsZ (stepsTo (outT b ts) s 16), stepsTo (outT b ts) s 16⟩ := by unfold toldZ stepsZ; rw [if_pos hs.ok]
  have HT := Lib.hid (frame_built (toldZ b g s ts) ⟨by rw [hT]; exact hg, by rw [hT]; exact hs.1, by rw [hT]; exact widthsTo_len _ _, by rw [hT]; exact stepsTo_len _ _ _⟩ A ts.length cap)
  rw [hT] at HT ⊢
  have HL := Lib.hid (FrameV.cells_len (f := ⟨g, ts, s, widthsZ (stepsTo (outT b ts) s 16), stepsTo (outT b ts) s 16⟩) ⟨hg, hs.1, widthsTo_len _ _, stepsTo_len _ _ _⟩ (.slice A ts.length cap))
  have h3l : ((stepsTo (outT b ts) s 16).map (Value.int .i64)).toArray.size = 16 := by simp [stepsTo_len]
  have h31 := ints_one (stepsTo (outT b ts) s 16)
  simp only at HT
  unfold blockV at *
  generalize hfc : (FrameV.cells ⟨g, ts, s, widthsZ (stepsTo (outT b ts) s 16), stepsTo (outT b ts) s 16⟩ (.slice A ts.length cap)).toArray = fc at *
  have hfs : fc.size = 29 := by rw [← hfc]; simpa using HL.out
  have hf1 : fc.all (·.oneCell') = true := by
    rw [← hfc, Array.all_eq_true_iff_forall_mem]
    intro v hv
    simp [FrameV.cells] at hv
    rcases hv with ⟨x, _, rfl⟩ | rfl | ⟨x, _, rfl⟩ | ⟨x, _, rfl⟩ | ⟨x, _, rfl⟩ <;> rfl
  have Hfs := Lib.hid hfs
  have Hf1 := Lib.hid hf1
  have HFf := Lib.hid (show (Try.prog.info? 71).map (·.size) = some fc.size by rw [hfs]; exact inf_frame)
  clear hfs hf1 hfc HL hT
  have hz1 : (b.map (Value.int .i64)).toArray.size = 16 := by simp [hb]
  have hz2 : (g.map (Value.int .i64)).toArray.size = 4 := by simp [hg]
  have hz3 : (s.map (Value.int .i64)).toArray.size = 4 := by simp [hs.1]
  generalize ((stepsTo (outT b ts) s 16).map (Value.int .i64)).toArray = sv at *
  generalize ((outT b ts).map (Value.int .i64)).toArray = ov at *
  generalize (b.map (Value.int .i64)).toArray = bv at *
  generalize (g.map (Value.int .i64)).toArray = gv at *
  generalize (s.map (Value.int .i64)).toArray = cv at *
  have HFb := Lib.hid (show (Try.prog.info? 66).map (·.size) = some bv.size by rw [hz1]; exact inf_block)
  have HFs := Lib.hid (show (Try.prog.info? 66).map (·.size) = some sv.size by rw [h3l]; exact inf_block)
  have HFg := Lib.hid (show (Try.prog.info? 67).map (·.size) = some gv.size by rw [hz2]; exact inf_four)
  have HFc := Lib.hid (show (Try.prog.info? 166).map (·.size) = some cv.size by rw [hz3]; exact inf_scales)
  have Hs1 := Lib.hid h31
  have Hsl := Lib.hid h3l
  have H4 := Lib.hid (heap4 w (.cells bv 66) (.cells gv 67) (.cells cv 166) (.cells #[.int .i64 0, .int .i64 0, .int .i64 0, .int .i64 0, .slice none 0 0, .int .i64 0, .int .i64 0, .int .i64 0, .int .i64 0, .int .i64 0, .int .i64 0, .int .i64 0, .int .i64 0, .int .i64 0, .int .i64 0, .int .i64 0, .int .i64 0, .int .i64 0, .int .i64 0, .int .i64 0, .int .i64 0, .int .i64 0, .int .i64 0, .int .i64 0, .int .i64 0, .int .i64 0, .int .i64 0, .int .i64 0, .int .i64 0] 71))
  clear hz1 hz2 hz3 h31 h3l hb hg hs ht hr hol hsb
  go_enter Try.func99, Try.ntmps99
  go_wp2_with fail
  obtain ⟨H0, H1, H2, H3, Hz, HB⟩ := H4.out
  have K0 := Lib.hid H0
  have K1 := Lib.hid H1
  have K2 := Lib.hid H2
  have K3 := Lib.hid H3
  have KB := Lib.hid HB
  have Kz := Lib.hid Hz
  clear H0 H1 H2 H3 Hz HB H4
  refine wp_region_drawn' 6 (oneVar (w.heap.size + 4) 5 (List.replicate 16 (Value.int .i64 0)).toArray 66) (by kernel_rfl) (by kernel_rfl) (oneVar_stable _ _ _ _) ?_
  refine drawn_quiet 0 5 1 (by decide) (by intro j hj; unfold oneVar; rw [if_neg (by omega)]) (fun W hW => ?_)
  simp only [List.take_succ_cons, List.take_zero, List.drop_succ_cons, List.drop_zero]
  have HB1 := btail KB.out (by omega) hW
  have HOW := Lib.hid (fun (x : GW W) => HO.out x.1 (bnext HB1 x.2))
  have G0 := gw_heap (hkeep K0.out hW)
  have G2 := gw_heap (hkeep K2.out hW)
  repeat (first | (go_big_quiet_want; refine quiet_load_row 66 (.tmp 4) rfl w.heap.size rfl _ bv _ _ G0 Try.underlying66 rfl HFb.out ?_; go_simp; go_big_quiet_on) | (go_big_quiet_want; refine quiet_load_row 166 (.tmp 6) rfl (w.heap.size + 1 + 1) rfl _ cv _ _ G2 Try.underlying166 rfl HFc.out ?_; go_simp; go_big_quiet_on) | go_big_quiet_step ((first | (go_at_call 98; exact calm_call (HOW.out _)) | (go_at_call 117; exact calm_call (HSt.out _)))))
  refine wpQuiet_nil ?_
  clear HB1 HOW G0 G2 hW
  refine drawn_alloc 5 0 _ (w.heap.size + 4) _ 66 rfl rfl (by rw [Kz.out]; omega) rfl (fun W => rfl) (fun v => ?_)
  refine drawn_done (fun W5 hW5 hG => ?_)
  obtain ⟨_, g5, hv, hg5, hz5⟩ := hG
  subst hv
  have HB5 := Lib.hid (btail KB.out (by omega) hW5)
  have L0 := Lib.hid (hkeep K0.out hW5)
  have L1 := Lib.hid (hkeep K1.out hW5)
  have L2 := Lib.hid (hkeep K2.out hW5)
  have L3 := Lib.hid (hkeep K3.out hW5)
  have L5 := Lib.hid hz5
  have l5 := hlt hz5
  have hz := Nat.le_trans (Nat.le_of_eq Kz.out.symm) hW5.size
  clear hW5 hz5 W K0 K1 K2 K3 KB Kz
  simp only [Act.put, List.setIfInBounds_toArray, List.set_cons_zero, List.set_cons_succ]
  go_wp2_with (refine wpList_store_row_w rfl 66 (.tmp 9) (.tmp 14) rfl g5 rfl _ (List.replicate 16 (Value.int .i64 0)).toArray sv rfl L5.out HFs.out (by rw [Hsl.out]; rfl) Hs1.out ?_)
  simp only [Act.put]
  have L5' := Lib.hid (setRow_at W5 g5 _ _ sv L5.out)
  have hfar : ∀ g, g < w.heap.size + 4 → ∀ o, W5.heap[g]? = some o → (W5.setRow g5 sv).heap[g]? = some o := fun g hg o ho => ((setRow_below (B := w.heap.size + 4) (Below.refl _ W5) g5 (by omega) sv).block g hg).trans ho
  have L0' := Lib.hid (hfar _ (by omega) _ L0.out)
  have L1' := Lib.hid (hfar _ (by omega) _ L1.out)
  have L2' := Lib.hid (hfar _ (by omega) _ L2.out)
  have L3' := Lib.hid (hfar _ (by omega) _ L3.out)
  have LB' := Lib.hid (setRow_below HB5.out g5 (by omega) sv)
  have hzz : (W5.setRow g5 sv).heap.size = W5.heap.size := size_setRow _ _ _
  clear L0 L1 L2 L3 L5 HB5 hfar
  generalize W5.setRow g5 sv = W6 at *
  have P1 := gw_heap L1'.out
  have P2 := gw_heap L2'.out
  have P5 := gw_heap L5'.out
  refine wp_region_calm_tail 6 (by kernel_rfl) (by kernel_rfl) ?_
  simp only [List.take_succ_cons, List.take_zero, List.drop_succ_cons, List.drop_zero]
  repeat (first | (go_big_quiet_want; refine quiet_load_row 67 (.tmp 5) rfl (w.heap.size + 1) rfl _ gv _ _ P1 Try.underlying67 rfl HFg.out ?_; go_simp; go_big_quiet_on) | (go_big_quiet_want; refine quiet_load_row 166 (.tmp 6) rfl (w.heap.size + 1 + 1) rfl _ cv _ _ P2 Try.underlying166 rfl HFc.out ?_; go_simp; go_big_quiet_on) | (go_big_quiet_want; refine quiet_load_row 66 (.tmp 9) rfl g5 rfl _ sv _ _ P5 Try.underlying66 rfl HFs.out ?_; go_simp; go_big_quiet_on) | go_big_quiet_step ((go_at_call 118; exact calm_call (HW.out _))))
  refine wpQuiet_nil ?_
  intro w7 hw7
  have hb7 := gw_below hw7
  have M3 := Lib.hid ((hb7.block (w.heap.size + 1 + 1 + 1) (by omega)).trans L3'.out)
  have MB := Lib.hid (bnext LB'.out hb7)
  clear hw7 hb7 P1 P2 P5
  go_wp2_with (first | (refine wpList_built rfl 71 _ rfl fc (by simpa [Act.eval] using HT.out) ?_) | (refine wpList_store_row_w rfl 71 (.tmp 8) (.tmp 21) rfl (w.heap.size + 1 + 1 + 1) rfl _ _ fc rfl M3.out HFf.out (by rw [Hfs.out]; rfl) Hf1.out ?_))
  refine bodyPost_ret (v := .agg fc) (results_cell_row Try.results99 _ _ (w.heap.size + 1 + 1 + 1) 71 fc (0, 0) _ rfl (setRow_at w7 _ _ _ fc M3.out) Try.underlying71 rfl HFf.out) rfl ?_
  exact ⟨rfl, setRow_below MB.out _ (by omega) _⟩
end Go.Proofs.Ytibegmjkiceiiaa
