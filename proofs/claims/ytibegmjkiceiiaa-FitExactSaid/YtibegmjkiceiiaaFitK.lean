/- Contracts of layer 10's Same at one frame, of layer 12's law: told, mask; conditions: as each theorem states. -/
import Derived.Test.YtibegmjkiceiiaaFitJ
namespace Go.Proofs.Ytibegmjkiceiiaa
open Go.RowKit

theorem set_same {α : Type} {l : List α} {i : Nat} {x : α} (h : l[i]? = some x) : l.set i x = l := by
  apply List.ext_getElem?
  intro j
  rw [List.getElem?_set]
  by_cases hj : i = j
  · subst hj
    rw [if_pos rfl, if_pos (List.getElem?_eq_some_iff.1 h).1, h]
  · rw [if_neg hj]
set_option maxRecDepth 100000 in
set_option maxHeartbeats 4000000 in
theorem lawtold_any (b g s : List Int) (ts : List ToneV) (A : Option Addr) (cap : Nat) (w : World) (hb : b.length = 16) (hg : g.length = 4) (hs : ScB s) (ht : TonesOk b ts) (hr : Row w w.heap.size A (toneCells ts)) :
    Calls Try.prog 58 #[blockV b, blockV g, blockV s, .slice A ts.length cap] w fun e w' => e = .returned (.agg ((toldZ b g s ts).cells (.slice A ts.length cap)).toArray) ∧ Below w.heap.size w w' := by
  have HO := Lib.hid (fun W (hW : Below w.heap.size w W) => toneOut_any b ts A cap W hb (by have := ht.len; omega) (hr.later hW) ht.big ht.each)
  have hol : (outT b ts).length = 16 := by rw [outT_len, hb]
  have HSt := Lib.hid (fun W => Steps_any (outT b ts) s W hol hs.1 ht.out hs.ok)
  have hsb : BigB (stepsTo (outT b ts) s 16) := by
    intro k x hx
    have hk : k < 16 := by
      have := (List.getElem?_eq_some_iff.1 hx).1
      rwa [stepsTo_len] at this
    have h1 := stepsTo_bgt (outT b ts) s (m := 16) hk
    rw [bgt_get hx, if_pos hk] at h1
    obtain ⟨y, hy⟩ := list_get hol hk
    have hyb := ht.out k y hy
    rw [bgt_get hy] at h1
    have := near_bd hyb.1 hyb.2 (bgt s (k / 4)).toNat
    omega
  have HW := Lib.hid (fun W => Widths_any (stepsTo (outT b ts) s 16) W (stepsTo_len _ _ _) hsb)
  have hT : toldZ b g s ts = ⟨g, ts, s, widthsZ (stepsTo (outT b ts) s 16), stepsTo (outT b ts) s 16⟩ := by unfold toldZ stepsZ; rw [if_pos hs.ok]
  have HT := Lib.hid (frame_built (toldZ b g s ts) ⟨by rw [hT]; exact hg, by rw [hT]; exact hs.1, by rw [hT]; exact widthsTo_len _ _, by rw [hT]; exact stepsTo_len _ _ _⟩ A ts.length cap)
  rw [hT] at HT ⊢
  have HL := Lib.hid (FrameV.cells_len (f := ⟨g, ts, s, widthsZ (stepsTo (outT b ts) s 16), stepsTo (outT b ts) s 16⟩) ⟨hg, hs.1, widthsTo_len _ _, stepsTo_len _ _ _⟩ (.slice A ts.length cap))
  have h3l : ((stepsTo (outT b ts) s 16).map (Value.int .i64)).toArray.size = 16 := by simp [stepsTo_len]
  have h31 := ints_one (stepsTo (outT b ts) s 16)
  simp only at HT
  unfold blockV at *
  generalize hfc : (FrameV.cells ⟨g, ts, s, widthsZ (stepsTo (outT b ts) s 16), stepsTo (outT b ts) s 16⟩ (.slice A ts.length cap)).toArray = fc at *
  have hfs : fc.size = 29 := by rw [← hfc]; simpa using HL.out
  have hf1 : fc.all (·.oneCell') = true := by
    rw [← hfc, Array.all_eq_true_iff_forall_mem]
    intro v hv
    simp [FrameV.cells] at hv
    rcases hv with ⟨x, _, rfl⟩ | rfl | ⟨x, _, rfl⟩ | ⟨x, _, rfl⟩ | ⟨x, _, rfl⟩ <;> rfl
  have Hfs := Lib.hid hfs
  have Hf1 := Lib.hid hf1
  have HFf := Lib.hid (show (Try.prog.info? 71).map (·.size) = some fc.size by rw [hfs]; exact inf_frame)
  clear hfs hf1 hfc HL hT
  have hz1 : (b.map (Value.int .i64)).toArray.size = 16 := by simp [hb]
  have hz2 : (g.map (Value.int .i64)).toArray.size = 4 := by simp [hg]
  have hz3 : (s.map (Value.int .i64)).toArray.size = 4 := by simp [hs.1]
  generalize ((stepsTo (outT b ts) s 16).map (Value.int .i64)).toArray = sv at *
  generalize ((outT b ts).map (Value.int .i64)).toArray = ov at *
  generalize (b.map (Value.int .i64)).toArray = bv at *
  generalize (g.map (Value.int .i64)).toArray = gv at *
  generalize (s.map (Value.int .i64)).toArray = cv at *
  have HFb := Lib.hid (show (Try.prog.info? 66).map (·.size) = some bv.size by rw [hz1]; exact inf_block)
  have HFs := Lib.hid (show (Try.prog.info? 66).map (·.size) = some sv.size by rw [h3l]; exact inf_block)
  have HFg := Lib.hid (show (Try.prog.info? 67).map (·.size) = some gv.size by rw [hz2]; exact inf_four)
  have HFc := Lib.hid (show (Try.prog.info? 67).map (·.size) = some cv.size by rw [hz3]; exact inf_four)
  have Hs1 := Lib.hid h31
  have Hsl := Lib.hid h3l
  have H4 := Lib.hid (heap4 w (.cells bv 66) (.cells gv 67) (.cells cv 67) (.cells #[.int .i64 0, .int .i64 0, .int .i64 0, .int .i64 0, .slice none 0 0, .int .i64 0, .int .i64 0, .int .i64 0, .int .i64 0, .int .i64 0, .int .i64 0, .int .i64 0, .int .i64 0, .int .i64 0, .int .i64 0, .int .i64 0, .int .i64 0, .int .i64 0, .int .i64 0, .int .i64 0, .int .i64 0, .int .i64 0, .int .i64 0, .int .i64 0, .int .i64 0, .int .i64 0, .int .i64 0, .int .i64 0, .int .i64 0] 71))
  clear hz1 hz2 hz3 h31 h3l hb hg hs ht hr hol hsb
  go_enter Try.func58, Try.ntmps58
  go_wp2_with fail
  obtain ⟨H0, H1, H2, H3, Hz, HB⟩ := H4.out
  have K0 := Lib.hid H0
  have K1 := Lib.hid H1
  have K2 := Lib.hid H2
  have K3 := Lib.hid H3
  have KB := Lib.hid HB
  have Kz := Lib.hid Hz
  clear H0 H1 H2 H3 Hz HB H4
  refine wp_region_drawn' 6 (oneVar (w.heap.size + 4) 5 (List.replicate 16 (Value.int .i64 0)).toArray 66) (by kernel_rfl) (by kernel_rfl) (oneVar_stable _ _ _ _) ?_
  refine drawn_quiet 0 5 1 (by decide) (by intro j hj; unfold oneVar; rw [if_neg (by omega)]) (fun W hW => ?_)
  simp only [List.take_succ_cons, List.take_zero, List.drop_succ_cons, List.drop_zero]
  have HB1 := btail KB.out (by omega) hW
  have HOW := Lib.hid (fun (x : GW W) => HO.out x.1 (bnext HB1 x.2))
  have G0 := gw_heap (hkeep K0.out hW)
  have G2 := gw_heap (hkeep K2.out hW)
  repeat (first | (go_big_quiet_want; refine quiet_load_row 66 (.tmp 4) rfl w.heap.size rfl _ bv _ _ G0 Try.underlying66 rfl HFb.out ?_; go_simp; go_big_quiet_on) | (go_big_quiet_want; refine quiet_load_row 67 (.tmp 6) rfl (w.heap.size + 1 + 1) rfl _ cv _ _ G2 Try.underlying67 rfl HFc.out ?_; go_simp; go_big_quiet_on) | go_big_quiet_step ((first | (go_at_call 98; exact calm_call (HOW.out _)) | (go_at_call 117; exact calm_call (HSt.out _)))))
  refine wpQuiet_nil ?_
  clear HB1 HOW G0 G2 hW
  refine drawn_alloc 5 0 _ (w.heap.size + 4) _ 66 rfl rfl (by rw [Kz.out]; omega) rfl (fun W => rfl) (fun v => ?_)
  refine drawn_done (fun W5 hW5 hG => ?_)
  obtain ⟨_, g5, hv, hg5, hz5⟩ := hG
  subst hv
  have HB5 := Lib.hid (btail KB.out (by omega) hW5)
  have L0 := Lib.hid (hkeep K0.out hW5)
  have L1 := Lib.hid (hkeep K1.out hW5)
  have L2 := Lib.hid (hkeep K2.out hW5)
  have L3 := Lib.hid (hkeep K3.out hW5)
  have L5 := Lib.hid hz5
  have l5 := hlt hz5
  have hz := Nat.le_trans (Nat.le_of_eq Kz.out.symm) hW5.size
  clear hW5 hz5 W K0 K1 K2 K3 KB Kz
  simp only [Act.put, List.setIfInBounds_toArray, List.set_cons_zero, List.set_cons_succ]
  go_wp2_with (refine wpList_store_row_w rfl 66 (.tmp 9) (.tmp 14) rfl g5 rfl _ (List.replicate 16 (Value.int .i64 0)).toArray sv rfl L5.out HFs.out (by rw [Hsl.out]; rfl) Hs1.out ?_)
  simp only [Act.put]
  have L5' := Lib.hid (setRow_at W5 g5 _ _ sv L5.out)
  have hfar : ∀ g, g < w.heap.size + 4 → ∀ o, W5.heap[g]? = some o → (W5.setRow g5 sv).heap[g]? = some o := fun g hg o ho => ((setRow_below (B := w.heap.size + 4) (Below.refl _ W5) g5 (by omega) sv).block g hg).trans ho
  have L0' := Lib.hid (hfar _ (by omega) _ L0.out)
  have L1' := Lib.hid (hfar _ (by omega) _ L1.out)
  have L2' := Lib.hid (hfar _ (by omega) _ L2.out)
  have L3' := Lib.hid (hfar _ (by omega) _ L3.out)
  have LB' := Lib.hid (setRow_below HB5.out g5 (by omega) sv)
  have hzz : (W5.setRow g5 sv).heap.size = W5.heap.size := size_setRow _ _ _
  clear L0 L1 L2 L3 L5 HB5 hfar
  generalize W5.setRow g5 sv = W6 at *
  have P1 := gw_heap L1'.out
  have P2 := gw_heap L2'.out
  have P5 := gw_heap L5'.out
  refine wp_region_calm_tail 6 (by kernel_rfl) (by kernel_rfl) ?_
  simp only [List.take_succ_cons, List.take_zero, List.drop_succ_cons, List.drop_zero]
  repeat (first | (go_big_quiet_want; refine quiet_load_row 67 (.tmp 5) rfl (w.heap.size + 1) rfl _ gv _ _ P1 Try.underlying67 rfl HFg.out ?_; go_simp; go_big_quiet_on) | (go_big_quiet_want; refine quiet_load_row 67 (.tmp 6) rfl (w.heap.size + 1 + 1) rfl _ cv _ _ P2 Try.underlying67 rfl HFc.out ?_; go_simp; go_big_quiet_on) | (go_big_quiet_want; refine quiet_load_row 66 (.tmp 9) rfl g5 rfl _ sv _ _ P5 Try.underlying66 rfl HFs.out ?_; go_simp; go_big_quiet_on) | go_big_quiet_step ((go_at_call 118; exact calm_call (HW.out _))))
  refine wpQuiet_nil ?_
  intro w7 hw7
  have hb7 := gw_below hw7
  have M3 := Lib.hid ((hb7.block (w.heap.size + 1 + 1 + 1) (by omega)).trans L3'.out)
  have MB := Lib.hid (bnext LB'.out hb7)
  clear hw7 hb7 P1 P2 P5
  go_wp2_with (first | (refine wpList_built rfl 71 _ rfl fc (by simpa [Act.eval] using HT.out) ?_) | (refine wpList_store_row_w rfl 71 (.tmp 8) (.tmp 21) rfl (w.heap.size + 1 + 1 + 1) rfl _ _ fc rfl M3.out HFf.out (by rw [Hfs.out]; rfl) Hf1.out ?_))
  refine bodyPost_ret (v := .agg fc) (results_cell_row Try.results58 _ _ (w.heap.size + 1 + 1 + 1) 71 fc (0, 0) _ rfl (setRow_at w7 _ _ _ fc M3.out) Try.underlying71 rfl HFf.out) rfl ?_
  exact ⟨rfl, setRow_below MB.out _ (by omega) _⟩

set_option maxRecDepth 100000 in
set_option maxHeartbeats 4000000 in
theorem Same_one (f : FrameV) (A1 A2 : Option Addr) (c1 c2 : Nat) (w : World) (h : f.Len) (hr1 : Row w w.heap.size A1 (toneCells f.tones)) (hr2 : Row w w.heap.size A2 (toneCells f.tones)) (hl : f.tones.length ≤ 1000000) :
    Calls Try.prog 39 #[.agg (frameA f (.slice A1 f.tones.length c1)), .agg (frameA f (.slice A2 f.tones.length c2))] w fun e w' => e = .returned (.bool true) ∧ Below w.heap.size w w' := by
  have hgl : (f.gains.map (Value.int .i64)).length = 4 := by simp [h.g]
  have hsl : (f.scale.map (Value.int .i64)).length = 4 := by simp [h.s]
  have hwl : (f.width.map (Value.int .i64)).length = 4 := by simp [h.w]
  have hql : (f.q.map (Value.int .i64)).length = 16 := by simp [h.q]
  have q1 : ∀ W, (Op.equalIn 10000 67 (.agg (f.gains.map (Value.int .i64)).toArray) (.agg (f.gains.map (Value.int .i64)).toArray)).run Try.prog W = .ok true W := fun W => (eq_four f.gains f.gains h.g h.g W).trans (by rw [decide_eq_true rfl])
  have q2 : ∀ W, (Op.equalIn 10000 67 (.agg (f.scale.map (Value.int .i64)).toArray) (.agg (f.scale.map (Value.int .i64)).toArray)).run Try.prog W = .ok true W := fun W => (eq_four f.scale f.scale h.s h.s W).trans (by rw [decide_eq_true rfl])
  have q3 : ∀ W, (Op.equalIn 10000 67 (.agg (f.width.map (Value.int .i64)).toArray) (.agg (f.width.map (Value.int .i64)).toArray)).run Try.prog W = .ok true W := fun W => (eq_four f.width f.width h.w h.w W).trans (by rw [decide_eq_true rfl])
  have q4 : ∀ W, (Op.equalIn 10000 66 (.agg (f.q.map (Value.int .i64)).toArray) (.agg (f.q.map (Value.int .i64)).toArray)).run Try.prog W = .ok true W := fun W => (eq_block f.q f.q h.q h.q W).trans (by rw [decide_eq_true rfl])
  have H2 := Lib.hid (heap2 w (.cells (frameA f (.slice A1 f.tones.length c1)) 71) (.cells (frameA f (.slice A2 f.tones.length c2)) 71))
  have HC := Lib.hid (fun (W : World) hW => And.intro (frame_parts h (hkeep H2.out.1 (w' := W) hW)) (frame_parts h (hkeep H2.out.2.1 (w' := W) hW)))
  have HT1 := Lib.hid (fun (m : Nat) (t : ToneV) (ht : f.tones[m]? = some t) => tone_row hr1 ht)
  have HT2 := Lib.hid (fun (m : Nat) (t : ToneV) (ht : f.tones[m]? = some t) => tone_row hr2 ht)
  obtain ⟨gg, ts, sc, wd, q⟩ := f
  simp only at *
  obtain ⟨n, hn⟩ : ∃ n, ts.length = n := ⟨_, rfl⟩
  rw [hn] at hl H2 HC ⊢
  have Hn := Lib.hid hn
  clear hn h hr1 hr2
  generalize frameA ⟨gg, ts, sc, wd, q⟩ (.slice A1 n c1) = f1 at *
  generalize frameA ⟨gg, ts, sc, wd, q⟩ (.slice A2 n c2) = f2 at *
  generalize gg.map (Value.int .i64) = gv at *
  generalize sc.map (Value.int .i64) = sv at *
  generalize wd.map (Value.int .i64) = wv at *
  generalize q.map (Value.int .i64) = qv at *
  have HFg := Lib.hid (show (Try.prog.info? 67).map (·.size) = some gv.length by rw [hgl]; exact inf_four)
  have HFs := Lib.hid (show (Try.prog.info? 67).map (·.size) = some sv.length by rw [hsl]; exact inf_four)
  have HFw := Lib.hid (show (Try.prog.info? 67).map (·.size) = some wv.length by rw [hwl]; exact inf_four)
  have HFq := Lib.hid (show (Try.prog.info? 66).map (·.size) = some qv.length by rw [hql]; exact inf_block)
  obtain ⟨W2, hW2⟩ : ∃ W2, (w.alloc (.cells f1 71)).alloc (.cells f2 71) = W2 := ⟨_, rfl⟩
  have HW2 := Lib.hid hW2
  rw [hW2] at H2 HC
  have K := HC.out W2 (Below.refl _ _)
  have k1 := K.1.2.1
  have k2 := K.2.2.1
  rw [← hW2] at k1 k2
  clear K hgl hsl hwl hql hW2
  go_enter Try.func39, Try.ntmps39
  go_wp2
  clear k1 k2
  go_loopw [16] (fun i wr => ∃ m : Nat, m ≤ n ∧ i = .int .i64 m ∧ Below W2.heap.size W2 wr) (fun i _ => n - (intOf i).toNat)
  case atStart => exact ⟨0, by omega, rfl, by rw [HW2.out]; exact Below.refl _ _⟩
  case round =>
    obtain ⟨m, hm, rfl, hbel⟩ := hrel
    have Hbel := Lib.hid hbel
    clear hbel
    by_cases hlk : m < n
    · have t1 : (m : Int) < (n : Int) := by omega
      obtain ⟨t, ht⟩ := list_get (k := m) Hn.out hlk
      obtain ⟨b1, o1, rfl, hb1, x1, y1⟩ := HT1.out m t ht
      obtain ⟨b2, o2, rfl, hb2, x2, y2⟩ := HT2.out m t ht
      have HB := Lib.hid (fun (x : GW wr) => (show Below w.heap.size w x.1 from H2.out.2.2.2.trans ((Hbel.out.trans (x.2.mono Hbel.out.size)).mono H2.out.2.2.2.size)))
      have j1 := fun (x : GW wr) => ((HB.out x).cell (p := ⟨b1, o1 + m * 2, none⟩) hb1).trans x1
      have j2 := fun (x : GW wr) => ((HB.out x).cell (p := ⟨b1, o1 + m * 2 + 1, none⟩) hb1).trans y1
      have j3 := fun (x : GW wr) => ((HB.out x).cell (p := ⟨b2, o2 + m * 2, none⟩) hb2).trans x2
      have j4 := fun (x : GW wr) => ((HB.out x).cell (p := ⟨b2, o2 + m * 2 + 1, none⟩) hb2).trans y2
      have j5 := fun (x : GW wr) => (HC.out x.1 (Hbel.out.trans (x.2.mono Hbel.out.size))).1.2.1
      have j6 := fun (x : GW wr) => (HC.out x.1 (Hbel.out.trans (x.2.mono Hbel.out.size))).2.2.1
      obtain ⟨ix, vl⟩ := t
      simp only at j1 j2 j3 j4
      clear ht x1 y1 x2 y2
      go_wp2_with fail
      refine wp_region_calm (by kernel_rfl) (by kernel_rfl) ?_
      repeat (go_big_quiet_step (fail))
      refine wpQuiet_nil ?_
      intro w5 hw'
      have hb5 := gw_below hw'
      have HB5 := Lib.hid (bnext Hbel.out hb5)
      clear hw' hb5 j1 j2 j3 j4 j5 j6
      go_wp2
      go_roundw
      case rel => exact ⟨m + 1, by omega, by go_num, HB5.out⟩
      case measure => simp [intOf]; omega
    · have hmn : m = n := by omega
      subst hmn
      have t1 : ¬ ((m : Int) < (m : Int)) := by omega
      have K := HC.out wr Hbel.out
      have R1 := Lib.hid K.1.1
      have R2 := Lib.hid K.1.2.2.1
      have R3 := Lib.hid K.1.2.2.2.1
      have R4 := Lib.hid K.1.2.2.2.2
      have S1 := Lib.hid K.2.1
      have S2 := Lib.hid K.2.2.2.1
      have S3 := Lib.hid K.2.2.2.2.1
      have S4 := Lib.hid K.2.2.2.2.2
      clear K
      go_wp2_with (first | (refine wpList_load_part_w rfl 67 (.tmp 31) rfl w.heap.size 0 rfl gv _ R1.out Try.underlying67 rfl HFg.out ?_) | (refine wpList_load_part_w rfl 67 (.tmp 33) rfl (w.heap.size + 1) 0 rfl gv _ S1.out Try.underlying67 rfl HFg.out ?_) | (refine wpList_load_part_w rfl 67 (.tmp 37) rfl w.heap.size 5 rfl sv _ R2.out Try.underlying67 rfl HFs.out ?_) | (refine wpList_load_part_w rfl 67 (.tmp 39) rfl (w.heap.size + 1) 5 rfl sv _ S2.out Try.underlying67 rfl HFs.out ?_) | (refine wpList_load_part_w rfl 67 (.tmp 44) rfl w.heap.size 9 rfl wv _ R3.out Try.underlying67 rfl HFw.out ?_) | (refine wpList_load_part_w rfl 67 (.tmp 46) rfl (w.heap.size + 1) 9 rfl wv _ S3.out Try.underlying67 rfl HFw.out ?_) | (refine wpList_load_part_w rfl 66 (.tmp 51) rfl w.heap.size 13 rfl qv _ R4.out Try.underlying66 rfl HFq.out ?_) | (refine wpList_load_part_w rfl 66 (.tmp 53) rfl (w.heap.size + 1) 13 rfl qv _ S4.out Try.underlying66 rfl HFq.out ?_))
      go_ret
      exact ⟨rfl, H2.out.2.2.2.trans (Hbel.out.mono H2.out.2.2.2.size)⟩

set_option maxRecDepth 100000 in
set_option maxHeartbeats 4000000 in
theorem lawmask_any (b : List Int) (w : World) (hb : b.length = 16) (hr : BigB b) :
    Calls Try.prog 38 #[blockV b] w fun e w' => e = .returned (blockV (masksTo b 16)) ∧ Below w.heap.size w w' := by
  unfold blockV
  have HC := Lib.hid (fun (k : Nat) (x : Int) (h : b[k]? = some x) => blk_get h)
  have Hb := Lib.hid hb
  have Hr := Lib.hid hr
  have H3 := Lib.hid (heap3 w (.cells (b.map (Value.int .i64)).toArray 66) (.cells (List.replicate 4 (.int .i64 0)).toArray 67) (.cells (List.replicate 4 (.int .i64 0)).toArray 67))
  generalize (b.map (Value.int .i64)).toArray = bv at *
  clear hb hr
  go_enter Try.func38, Try.ntmps38
  go_wp2_with fail
  go_loopw [4] (fun i wr => ∃ (m : Nat), m ≤ 16 ∧ i = .int .i64 m ∧ wr.heap[w.heap.size]? = some (.cells bv 66 (0, 0)) ∧ Blk wr (w.heap.size + 1) 67 (List.replicate 4 (.int .i64 0)) ∧ Blk wr (w.heap.size + 1 + 1) 67 ((masksTo b m).map (Value.int .i64)) ∧ Below w.heap.size w wr) (fun i _ => 16 - (intOf i).toNat)
  case atStart => exact ⟨0, by omega, rfl, H3.out.1, H3.out.2.1, H3.out.2.2.1, H3.out.2.2.2.2⟩
  case round =>
    obtain ⟨m, hm, rfl, hB, hZ, hM, hbel⟩ := hrel
    have HB := Lib.hid hB
    have HZ := Lib.hid hZ
    have HM := Lib.hid hM
    have Hbel := Lib.hid hbel
    clear H3
    by_cases hlk : m < 16
    · have t1 : (m : Int) < 16 := by omega
      obtain ⟨x, hx⟩ := list_get (k := m) Hb.out hlk
      obtain ⟨q, hq⟩ : ∃ q, m / 4 = q := ⟨_, rfl⟩
      have hq4 : q < 4 := by omega
      have hqi : (m : Int) / 4 = (q : Int) := by omega
      have hxb := Hr.out.get hx
      have HA := Lib.hid (fun W => Abs_any x W (by omega) (by omega))
      have hab : 0 ≤ absZ x ∧ absZ x ≤ 4611686018427387904 := ⟨absZ_nn, absZ_le (by omega) (by omega) (by omega)⟩
      have HSt := Lib.hid (show (masksTo b m).set q (max (maskTo b m q) (widthZ (absZ x)) : Nat) = masksTo b (m + 1) by rw [← masksTo_succ b m hlk, bgt_get hx, hq])
      generalize absZ x = ax at *
      have HW := Lib.hid (fun W => Width_any ax W (by omega) (by omega))
      obtain ⟨V, hV⟩ : ∃ V : Nat, widthZ ax = V := ⟨_, rfl⟩
      obtain ⟨U, hU⟩ : ∃ U : Nat, maskTo b m q = U := ⟨_, rfl⟩
      rw [hV] at HW HSt
      rw [hU] at HSt
      have ce1 : wr.cell? ⟨w.heap.size, m, none⟩ = some (.int .i64 x) := (cell_of_row wr w.heap.size m _ _ _ hB).trans (HC.out _ _ hx)
      have hcU : ((masksTo b m).map (Value.int .i64))[q]? = some (.int .i64 (U : Int)) := by rw [List.getElem?_map, masksTo_get b m hq4, hU]; rfl
      have ce2 : wr.cell? ⟨w.heap.size + 1 + 1, q, none⟩ = some (.int .i64 (U : Int)) := by rw [hM.cell]; exact hcU
      have fz := hM.frozen q
      have hq0 : (0 : Int) ≤ (q : Int) := by omega
      have hq4i : (q : Int) < 4 := by omega
      clear hx hq hB hZ hM hbel hV
      by_cases hUV : U < V
      · have t2 : (U : Int) < (V : Int) := by omega
        have t3 : decide ((U : Int) < (V : Int)) = true := decide_eq_true t2
        rw [show max U V = V by omega] at HSt
        go_wp2_with (first | (go_at_call 45; refine (HA.out _).mono ?_; rintro e w1 ⟨rfl, rfl⟩) | (go_at_call 102; refine (HW.out _).mono ?_; rintro e w1 ⟨rfl, rfl⟩))
        go_roundw
        case rel =>
          refine ⟨m + 1, by omega, by go_num, (Below.heap_setCell wr _ _ _ (by simp; omega)).trans HB.out, HZ.out.far (by simp) _, ?_, Hbel.out.setCell (by simp; omega) _⟩
          rw [← HSt.out, List.map_set]
          exact HM.out.set_ q _
        case measure => simp [intOf]; omega
      · have t2 : ¬ ((U : Int) < (V : Int)) := by omega
        have t3 : decide ((U : Int) < (V : Int)) = false := decide_eq_false t2
        rw [show max U V = U by omega, set_same (by rw [masksTo_get b m hq4, hU])] at HSt
        go_wp2_with (first | (go_at_call 45; refine (HA.out _).mono ?_; rintro e w1 ⟨rfl, rfl⟩) | (go_at_call 102; refine (HW.out _).mono ?_; rintro e w1 ⟨rfl, rfl⟩))
        go_roundw
        case rel => exact ⟨m + 1, by omega, by go_num, HB.out, HZ.out, by rw [← HSt.out]; exact HM.out, Hbel.out⟩
        case measure => simp [intOf]; omega
    · have hm4 : m = 16 := by omega
      subst hm4
      have t1 : ¬ (((16 : Nat) : Int) < 16) := by omega
      have hH := Lib.hid (show wr.heap[w.heap.size + 1 + 1]? = some (.cells ((masksTo b 16).map (Value.int .i64)).toArray 67 (0, 0)) from HM.out)
      have hH2 := Lib.hid (show wr.heap[w.heap.size + 1]? = some (.cells (List.replicate 4 (Value.int .i64 0)).toArray 67 (0, 0)) from HZ.out)
      have H1 := Lib.hid (ints_one (masksTo b 16))
      have hsz2 : ((masksTo b 16).map (Value.int .i64)).toArray.size = 4 := by simp [masksTo_len]
      obtain ⟨xs, hxs⟩ : ∃ xs, ((masksTo b 16).map (Value.int .i64)).toArray = xs := ⟨_, rfl⟩
      rw [hxs] at hH H1 hsz2
      have HE := Lib.hid hxs
      clear hxs
      have HF2 := Lib.hid (show (Try.prog.info? 67).map (·.size) = some xs.size by rw [hsz2]; exact inf_four)
      have Hsz := Lib.hid hsz2
      clear hsz2 hB hZ hM
      go_wp2_with (first | (refine wpList_load_row_w rfl 67 (.tmp 3) rfl (w.heap.size + 1 + 1) rfl _ xs _ _ hH.out Try.underlying67 rfl HF2.out ?_) | (refine wpList_store_row_w rfl 67 (.tmp 2) (.tmp 25) rfl (w.heap.size + 1) rfl _ _ xs rfl hH2.out HF2.out (by rw [Hsz.out]; simp) H1.out ?_))
      refine bodyPost_ret (v := .agg xs) (results_cell_row Try.results38 _ _ (w.heap.size + 1) 67 xs (0, 0) _ rfl (setRow_at wr _ _ _ xs hH2.out) Try.underlying67 rfl HF2.out) rfl ?_
      exact ⟨by rw [← HE.out], setRow_below Hbel.out _ (by omega) _⟩
end Go.Proofs.Ytibegmjkiceiiaa
