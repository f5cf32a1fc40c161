/- FitJ. Conditions: as each theorem states. -/
import Derived.Test.YthmgjielcmjenaaGreatZc28

namespace Go.Proofs.YthmgjielcmjenaaGreat
open Go.RowKit

/-- a frame's parts in memory -/
theorem frame_parts {w : World} {g : Nat} {f : FrameV} {tv : Value} (h : f.Len) (hg : w.heap[g]? = some (.cells (frameA f tv) 42 (0, 0))) :
    (∀ j v, (f.gains.map (Value.int .i64))[j]? = some v → w.cell? ⟨g, 0 + j, none⟩ = some v) ∧ w.cell? ⟨g, 4, none⟩ = some tv ∧ (∀ j v, (f.scale.map (Value.int .i64))[j]? = some v → w.cell? ⟨g, 5 + j, none⟩ = some v) ∧
    (∀ j v, (f.width.map (Value.int .i64))[j]? = some v → w.cell? ⟨g, 9 + j, none⟩ = some v) ∧ ∀ j v, (f.q.map (Value.int .i64))[j]? = some v → w.cell? ⟨g, 13 + j, none⟩ = some v := by
  have hc : ∀ j, w.cell? ⟨g, j, none⟩ = (frameA f tv)[j]? := fun j => cell_of_row w g j _ _ _ hg
  exact ⟨fun j v hv => (hc _).trans (frameA_gain h tv hv), (hc 4).trans (frameA_tones h tv), fun j v hv => (hc _).trans (frameA_scale h tv hv), fun j v hv => (hc _).trans (frameA_width h tv hv), fun j v hv => (hc _).trans (frameA_q h tv hv)⟩
theorem RightF.len {f : FrameV} (h : RightF f) : f.Len := ⟨h.gains.1, h.scale.1, h.wlen, h.qlen⟩
theorem BdB.big {B : Int} {b : List Int} (h : BdB B b) (hb : b.length = 16) (hB : B ≤ 4611686018427387904) : BigB b := fun k x hx => by
  have := h.get hb hx
  omega

set_option maxRecDepth 100000 in
set_option maxHeartbeats 8000000 in
theorem Spectrum_any (f : FrameV) (A : Option Addr) (c : Nat) (w : World) (h : RightF f) (hr : Row w w.heap.size A (toneCells f.tones)) :
    Calls Tryz.prog 23 #[.agg (frameA f (.slice A f.tones.length c))] w fun e w' => e = .returned (blockV (specZ f)) ∧ Below w.heap.size w w' := by
  have hV := Lib.hid (fun W => Values_any f.q f.scale W h.qlen h.scale.1 (fun k x hx => by
    have hk : k < 16 := by have := (List.getElem?_eq_some_iff.1 hx).1; have := h.qlen; omega
    have := h.qbd hk
    rw [bgt_get hx] at this
    omega) h.scale.ok)
  have hve : valuesTo f.q f.scale 16 = valuesZ f.q f.scale := by unfold valuesZ; rw [if_pos h.scale.ok]
  rw [hve] at hV
  have HL := h.len
  have Had := Lib.hid (fun m => h.added m)
  have Hti := Lib.hid h.tidx
  have hfz := frameA_size HL (.slice A f.tones.length c)
  have htl := h.tlen
  have HPa := Lib.hid (fun (W : World) (g : Nat) hg => frame_parts (w := W) (g := g) HL (tv := .slice A f.tones.length c) hg)
  have hql : (f.q.map (Value.int .i64)).length = 16 := by simp [HL.q]
  have hsl : (f.scale.map (Value.int .i64)).length = 4 := by simp [HL.s]
  have HSp := Lib.hid (show specZ f = clampTo (addT (valuesZ f.q f.scale) f.tones) 16 from rfl)
  rw [HSp.out]
  have hvl := valuesZ_len f.q f.scale
  have hvone := ints_one (valuesZ f.q f.scale)
  have hVb := h.values
  clear HSp hve h
  obtain ⟨gg, ts, sc, wd, q⟩ := f
  simp only at *
  have Hr := Lib.hid hr
  generalize hn : ts.length = n at *
  generalize valuesZ q sc = V at *
  generalize frameA ⟨gg, ts, sc, wd, q⟩ (.slice A n c) = fc at *
  have Hn := Lib.hid hn
  unfold blockV at hV ⊢
  generalize hqv : q.map (Value.int .i64) = qv at *
  generalize hsv : sc.map (Value.int .i64) = sv at *
  have HFq := Lib.hid (show (Tryz.prog.info? 40).map (·.size) = some qv.length by rw [hql]; exact inf_block)
  have HFs := Lib.hid (show (Tryz.prog.info? 37).map (·.size) = some sv.length by rw [hsl]; exact inf_four)
  have HFx := Lib.hid (fun (x : List Int) (hx : x.length = 16) => (show (Tryz.prog.info? 40).map (·.size) = some (x.map (Value.int .i64)).toArray.size by rw [List.size_toArray, List.length_map, hx]; exact inf_block))
  have H2 := Lib.hid (heap2 w (.cells fc 42) (.cells (List.replicate 16 (Value.int .i64 0)).toArray 40))
  have P := HPa.out _ _ H2.out.1
  have P1 := Lib.hid P.2.2.1
  have P2 := Lib.hid P.2.2.2.2
  have P3 := P.2.1
  have Hvl := Lib.hid hvl
  have Hvone := Lib.hid hvone
  have HVb := Lib.hid hVb
  clear P hr hn hqv hsv hql hsl hvl hvone HPa hVb hfz HL
  go_enter Tryz.func23, Tryz.ntmps23
  go_wp2_with (first | (go_at_call 51; fail) | (refine wpList_load_part_w rfl 40 (.tmp 8) rfl w.heap.size 13 rfl qv _ P2.out Tryz.underlying40 rfl HFq.out ?_) | (refine wpList_load_part_w rfl 37 (.tmp 10) rfl w.heap.size 5 rfl sv _ P1.out Tryz.underlying37 rfl HFs.out ?_))
  refine (hV.out _).mono ?_
  rintro e w1 ⟨rfl, hb1⟩
  have K0 := Lib.hid (hkeep H2.out.1 hb1)
  have K1 := Lib.hid (hkeep H2.out.2.1 hb1)
  have KB := Lib.hid (btail H2.out.2.2.2 (Nat.le_refl _) hb1)
  have hz := Nat.le_trans (Nat.le_of_eq H2.out.2.2.1.symm) hb1.size
  have p4 := (hb1.cell (p := ⟨w.heap.size, 4, none⟩) (hlt H2.out.1)).trans P3
  have p4' := cell_alloc p4 (.cells (V.map (Value.int .i64)).toArray 40)
  have HN := Lib.hid (Blk.new w1 40 (V.map (Value.int .i64)))
  have K1' := Lib.hid (hkeep K1.out (bnew w1 (.cells (V.map (Value.int .i64)).toArray 40)))
  have KB' := Lib.hid (btail KB.out (by omega) (bnew w1 (.cells (V.map (Value.int .i64)).toArray 40)))
  have HVF := Lib.hid (HFx.out V Hvl.out)
  have HVs := Lib.hid (show (V.map (Value.int .i64)).toArray.size = 16 by simp [Hvl.out])
  obtain ⟨va, hva⟩ : ∃ va, (V.map (Value.int .i64)).toArray = va := ⟨_, rfl⟩
  rw [hva] at HVF HVs Hvone p4' K1' KB' ⊢
  have HNa := Lib.hid (show Blk (w1.alloc (.cells va 40)) w1.heap.size 40 (V.map (Value.int .i64)) by rw [← hva]; exact HN.out)
  clear hb1 P1 P2 P3 p4 K0 K1 KB H2 HN hva
  go_wp2_with (first | (refine wpList_store_row_w rfl 40 (.tmp 3) (.tmp 12) rfl w1.heap.size rfl _ _ va rfl (heap_alloc_new w1 _) HVF.out (by rw [HVs.out]; rfl) Hvone.out ?_; rw [World.setRow_alloc_new]))
  go_loopw [16] (fun i wr => ∃ (m : Nat), m ≤ n ∧ i = .int .i64 m ∧ Blk wr w1.heap.size 40 ((addT V (ts.take m)).map (Value.int .i64)) ∧ Blk wr (w.heap.size + 1) 40 (List.replicate 16 (.int .i64 0)) ∧ Below w.heap.size w wr) (fun i _ => n - (intOf i).toNat)
  case atStart => exact ⟨0, by omega, rfl, HNa.out, K1'.out, KB'.out⟩
  case round =>
    obtain ⟨m, hm, rfl, hB, hZ, hbel⟩ := hrel
    have HB := Lib.hid hB
    have HZ := Lib.hid hZ
    have Hbel := Lib.hid hbel
    have hcl := addT_len V (ts.take m)
    rw [Hvl.out] at hcl
    have hcb := Had.out m
    have HO := Lib.hid (fun (t : ToneV) (h : ts[m]? = some t) => addT_succ V h)
    have HLl := Lib.hid (show m = n → addT V (ts.take m) = addT V ts from fun h => by rw [List.take_of_length_le (by rw [Hn.out]; omega)])
    generalize addT V (ts.take m) = cur at *
    have Hcl := Lib.hid hcl
    have Hcb := Lib.hid hcb
    clear hB hZ hbel hcl hcb p4' HNa K1' KB'
    by_cases hlt : m < n
    · obtain ⟨t, ht⟩ := list_get (k := m) Hn.out hlt
      have HS := Lib.hid (HO.out t ht)
      have htv := Hti.out t (List.mem_of_getElem? ht)
      obtain ⟨g, off, hA, hg, k0, k1⟩ := tone_row Hr.out ht
      have c0 := (Hbel.out.cell (p := ⟨g, off + m * 2, none⟩) hg).trans k0
      have c1 := (Hbel.out.cell (p := ⟨g, off + m * 2 + 1, none⟩) hg).trans k1
      subst hA
      obtain ⟨ix, vl⟩ := t
      obtain ⟨v1, v2, v3, v4⟩ := htv
      simp only at c0 c1 v1 v2 v3 v4
      clear ht k0 k1
      obtain ⟨j, rfl⟩ := Int.eq_ofNat_of_zero_le v1
      have hj : j < 16 := by omega
      obtain ⟨x, hx⟩ := list_get (k := j) Hcl.out hj
      have hxb := Hcb.out.get Hcl.out hx
      have HS2 := Lib.hid (show addStep cur ⟨(j : Int), vl⟩ = cur.set j (x + vl) by
        unfold addStep; simp only; rw [if_pos ⟨v1, v2⟩, Int.toNat_natCast, bgt_get hx])
      have hwr : IntKind.i64.wrap (x + vl) = x + vl := IntWalk.i64_in _ (by omega)
      have hcx : (cur.map (Value.int .i64)).toArray[j]? = some (.int .i64 x) := blk_get hx
      clear hx
      have t1 : (0 : Int) ≤ (j : Int) := v1
      have t2 : (j : Int) < 16 := v2
      have hB1 := (HB.out.alloc (.cells #[.int .i64 (j : Int), .int .i64 vl] 82))
      have hN1 := Blk.new wr 82 [.int .i64 (j : Int), .int .i64 vl]
      have HB1 := Lib.hid hB1
      have HN1 := Lib.hid hN1
      have hx5 := gw_cells hB1
      have hy5 := gw_blk hN1
      clear hB1 hN1
      go_wp2_with fail
      refine wp_region_calm_tail 8 (by kernel_rfl) (by kernel_rfl) ?_
      simp only [List.take_succ_cons, List.take_zero, List.drop_succ_cons, List.drop_zero]
      repeat (go_big_quiet_step (fail))
      refine wpQuiet_nil ?_
      intro w5 hw'
      have hb5 := gw_below hw'
      have hB5 := HB1.out.below hb5 (by have := HB.out.lt; simp; omega)
      have hZ5 := (HZ.out.alloc (.cells #[.int .i64 (j : Int), .int .i64 vl] 82)).below hb5 (by have := HZ.out.lt; simp; omega)
      have HB5 := Lib.hid hB5
      have HZ5 := Lib.hid hZ5
      have Hb5 := Lib.hid (Hbel.out.trans (((bnew wr _).trans (hb5.mono (by simp))).mono Hbel.out.size))
      have ce : w5.cell? ⟨w1.heap.size, j, none⟩ = some (.int .i64 x) := by rw [hB5.cell]; simpa using hcx
      have fz := hB5.frozen j
      clear hw' hb5 hx5 hy5 hB5 hZ5
      go_wp2
      go_roundw
      case rel =>
        refine ⟨m + 1, by omega, by go_num, ?_, HZ5.out.far (by simp; omega) _, Hb5.out.setCell (by simp; omega) _⟩
        rw [HS.out, HS2.out, List.map_set]
        exact HB5.out.set_ j _
      case measure => simp [intOf]; omega
    · have hmn : m = n := by omega
      have hce := HLl.out hmn
      have hcur := Lib.hid hce
      have hH := Lib.hid (show wr.heap[w1.heap.size]? = some (.cells (cur.map (Value.int .i64)).toArray 40 (0, 0)) from HB.out)
      have hsz : (cur.map (Value.int .i64)).toArray.size = 16 := by simp [Hcl.out]
      have HC := Lib.hid (fun (k : Nat) (x : Int) (h : cur[k]? = some x) => blk_get h)
      have HBl := Lib.hid HB.out
      obtain ⟨cs, hcs⟩ : ∃ cs, (cur.map (Value.int .i64)).toArray = cs := ⟨_, rfl⟩
      rw [hcs] at hH hsz HC
      have HF := Lib.hid (show (Tryz.prog.info? 40).map (·.size) = some cs.size by rw [hsz]; exact inf_block)
      clear hce hsz HO HLl hcs HB
      go_wp2_with (first | (refine wpList_load_row_w rfl 40 (.tmp 3) rfl w1.heap.size rfl _ cs _ _ hH.out Tryz.underlying40 rfl HF.out ?_))
      go_loopw [38] (fun i wt => ∃ (m : Nat), m ≤ 16 ∧ i = .int .i64 m ∧ Blk wt w1.heap.size 40 ((clampTo cur m).map (Value.int .i64)) ∧ Blk wt (w.heap.size + 1) 40 (List.replicate 16 (.int .i64 0)) ∧ Below w.heap.size w wt) (fun i _ => 16 - (intOf i).toNat)
      case atStart => exact ⟨0, by omega, rfl, by rw [clampTo_zero Hcl.out]; exact HBl.out, HZ.out, Hbel.out⟩
      case round =>
        obtain ⟨k, hk, rfl, hB, hZ, hbel⟩ := hrel
        have HB := Lib.hid hB
        have HZ := Lib.hid hZ
        have Hbel := Lib.hid hbel
        clear hH HBl
        by_cases hlt : k < 16
        · obtain ⟨x, hx⟩ := list_get (k := k) Hcl.out hlt
          have t1 : (k : Int) < 16 := by omega
          have hix := run_index_arr (P := Tryz.prog) Tryz.underlying40 hlt (fun W => by kernel_rfl) (fun W => by kernel_rfl) (HC.out _ _ hx)
          have HCl := Lib.hid (show ∀ W, Calls Tryz.prog 52 #[.int .i64 x, .int .i64 (-2147483648), .int .i64 2147483648] W fun e w' => e = .returned (.int .i64 (lim31 x)) ∧ W = w' from fun W => (Clamp_any x (-2147483648) 2147483648 W).mono fun e w' ⟨he, hw⟩ => ⟨he.trans (ret_int (by unfold clampZ lim31; (repeat' split) <;> omega)), hw⟩)
          have HSt := Lib.hid (show (clampTo cur k).set k (lim31 x) = clampTo cur (k + 1) by rw [← clampTo_succ cur hlt, bgt_get hx])
          have hc2 : ((clampTo cur k).map (Value.int .i64))[k]? = some (.int .i64 x) := by rw [List.getElem?_map, clampTo_get cur hlt (Nat.le_refl k) hx]; rfl
          have ce : wr.cell? ⟨w1.heap.size, k, none⟩ = some (.int .i64 x) := by rw [hB.cell]; exact hc2
          have fz := hB.frozen k
          generalize lim31 x = lx at *
          clear hx hB hZ hbel
          go_wp2_with (go_at_call 52; refine (HCl.out _).mono ?_; rintro e w5 ⟨rfl, rfl⟩)
          go_roundw
          case rel =>
            refine ⟨k + 1, by omega, by go_num, ?_, HZ.out.far (by simp; omega) _, Hbel.out.setCell (by simp; omega) _⟩
            rw [← HSt.out, List.map_set]
            exact HB.out.set_ k _
          case measure => simp [intOf]; omega
        · have hk16 : k = 16 := by omega
          subst hk16
          have t1 : ¬ (((16 : Nat) : Int) < 16) := by omega
          have hH := Lib.hid (show wr.heap[w1.heap.size]? = some (.cells ((clampTo cur 16).map (Value.int .i64)).toArray 40 (0, 0)) from HB.out)
          have hH2 := Lib.hid (show wr.heap[w.heap.size + 1]? = some (.cells (List.replicate 16 (Value.int .i64 0)).toArray 40 (0, 0)) from HZ.out)
          have H1 := Lib.hid (ints_one (clampTo cur 16))
          have hsz2 : ((clampTo cur 16).map (Value.int .i64)).toArray.size = 16 := by simp [clampTo_len]
          obtain ⟨xs, hxs⟩ : ∃ xs, ((clampTo cur 16).map (Value.int .i64)).toArray = xs := ⟨_, rfl⟩
          rw [hxs] at hH H1 hsz2
          have HE := Lib.hid hxs
          clear hxs
          have HF2 := Lib.hid (show (Tryz.prog.info? 40).map (·.size) = some xs.size by rw [hsz2]; exact inf_block)
          have Hsz := Lib.hid hsz2
          clear hsz2 hB hZ
          go_wp2_with (first | (refine wpList_load_row_w rfl 40 (.tmp 3) rfl w1.heap.size rfl _ xs _ _ hH.out Tryz.underlying40 rfl HF2.out ?_) | (refine wpList_store_row_w rfl 40 (.tmp 2) (.tmp 47) rfl (w.heap.size + 1) rfl _ _ xs rfl hH2.out HF2.out (by rw [Hsz.out]; simp) H1.out ?_))
          refine bodyPost_ret (v := .agg xs) (results_cell_row Tryz.results23 _ _ (w.heap.size + 1) 40 xs (0, 0) _ rfl (setRow_at wr _ _ _ xs hH2.out) Tryz.underlying40 rfl HF2.out) rfl ?_
          exact ⟨by rw [← HE.out, hcur.out], setRow_below Hbel.out _ (by omega) _⟩

end Go.Proofs.YthmgjielcmjenaaGreat
