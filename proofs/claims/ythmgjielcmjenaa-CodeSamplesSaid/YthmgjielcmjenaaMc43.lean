/- CodeV. Conditions: as each theorem states. -/
import Derived.Test.YthmgjielcmjenaaMc22
import Derived.Test.YthmgjielcmjenaaMc41
import Derived.Test.YthmgjielcmjenaaMc42

namespace Go.Proofs.Ythmgjielcmjenaa
open Go.RowKit

theorem rowsTo_blk {f : Nat → List Int → List Int} (p : List Int) (c : Nat) : rowsTo 16 c (fun i => f i (blockAt p i)) c = blkTo f p c c := by
  unfold rowsTo blkTo flatR
  congr 1
  apply List.map_congr_left
  intro i hi
  rw [if_pos (List.mem_range.1 hi), if_pos (List.mem_range.1 hi)]

set_option maxRecDepth 100000 in
set_option maxHeartbeats 8000000 in
theorem Whole_any (p gs : List Int) (A Ag : Option Addr) (cap capg c : Nat) (n : Int) (w : World) (hP : p.length = c * 16) (hcc : c ≤ 100000) (hr : Row w w.heap.size A (p.map (.int .i64))) (hg : GainsOk gs c) (hgr : Row w w.heap.size Ag (gs.map (.int .i64)))
    (hPb : BdL 2147483648 p) :
    Calls Try.prog 48 #[.agg lapA, .slice A c cap, .slice Ag c capg, .int .i64 n] w (GapPost w (firstZ (wholeZ p gs c) n)) := by
  have HIv := Lib.hid (fun m W (hm : m < c) => (show Calls Try.prog 93 #[.agg turnsA, blockV (blockAt p m)] W fun e w' => e = .returned (blockV (invZ (blockAt p m))) ∧ Below W.heap.size W w' from by
    have := Inverse_any turnsA (blockAt p m) 2147483648 W turnsA_size turnsA_V (blockAt_len hP hm) (by omega) ((blockAt_bd hP hm hPb).within (blockAt_len hP hm))
    rw [st_inv (blockAt_len hP hm)] at this
    exact this))
  have HIl := Lib.hid (fun m => rowsTo_len (sz := 16) (c := c) (fun i => invZ_len (blockAt p i)) m)
  have HIn := Lib.hid (fun m (hm : m < c) => rowsTo_succ (sz := 16) (fun i => invZ_len (blockAt p i)) (by decide) hm)
  have HIc := Lib.hid (show rowsTo 16 c (fun i => invZ (blockAt p i)) c = invsZ p c from rowsTo_blk (f := fun _ => invZ) p c)
  have hIb : BdL 12884901948 (invsZ p c) := blkTo_bd invF_len hP hPb (by omega) (fun _ b _ hb hl => invZ_bd hb hl (by omega) (by omega))
  have hJ : (partTo (invsZ p c) c).length = c * 16 := part_len (invsZ_len hP)
  have hJb : BdL 19327352926 (partTo (invsZ p c) c) := partTo_bd (invsZ_len hP) (Nat.le_refl c) hIb (by omega) (by omega)
  have HJ := Lib.hid (fun B W (r : Row W W.heap.size B ((invsZ p c).map (.int .i64))) k => Part_any (invsZ p c) c B k W (invsZ_len hP) (by omega) r (hIb.mono (by omega)))
  have HDn := Lib.hid (fun m W (hm : m < c) => (show Calls Try.prog 95 #[blockV (blockAt (partTo (invsZ p c) c) m), blockV (rowAt 4 gs m)] W fun e w' => e = .returned (blockV (downF gs m (blockAt (partTo (invsZ p c) c) m))) ∧ Below W.heap.size W w' from
    Down_any (blockAt (partTo (invsZ p c) c) m) (rowAt 4 gs m) W (blockAt_len hJ hm) ((blockAt_bd hJ hm hJb).turnB (by omega)) (hg.2 m hm)))
  have HFn := Lib.hid (fun m (hm : m < c) pad => blkTo_next (f := downF gs) downF_len hJ hm pad)
  have HFb := Lib.hid (fun m (hm : m < c) => (blkTo_at (f := downF gs) downF_len hJ m hm).trans (if_neg (Nat.lt_irrefl _)))
  have HF0 := Lib.hid (blkTo_zero (f := downF gs) hJ)
  have HFl := Lib.hid (fun m => blkTo_len (f := downF gs) downF_len hJ m)
  have HDl := Lib.hid (fun m b (hm : m < c) hb => downF_len (gs := gs) m b hm hb)
  have HBk := Lib.hid (fun m (hm : m < c) => blockAt_len hP hm)
  have HJk := Lib.hid (fun m (hm : m < c) => blockAt_len hJ hm)
  have HGk := Lib.hid (fun m (hm : m < c) => (hg.2 m hm).1)
  have Hgl := Lib.hid hg.1
  have Hgr := Lib.hid hgr
  have Hr := Lib.hid hr
  have HPl := Lib.hid hP
  have HW := Lib.hid (show wholeZ p gs c = blkTo (downF gs) (partTo (invsZ p c) c) c c from rfl)
  have HSm := Lib.hid (fun B k W (r : Row W W.heap.size B ((blkTo (downF gs) (partTo (invsZ p c) c) c c).map (.int .i64))) => LSamples_any (blkTo (downF gs) (partTo (invsZ p c) c) c c) c B k n W (HFl.out c) (by omega) r)
  have hlz := lapA_size
  obtain ⟨tv, htv, Htx⟩ : ∃ tv : List Value, tv.length = 16 ∧ turnsA = tv.toArray := ⟨turnsA.toList, by rw [Array.length_toList, turnsA_size], by simp⟩
  have HLa := Lib.hid (fun j v (hv : tv[j]? = some v) => (show lapA[16 + j]? = some v by
    unfold lapA
    rw [Array.getElem?_append_right (by rw [turnsA_size]; omega), turnsA_size, Nat.add_sub_cancel_left, Htx, List.getElem?_toArray]
    exact hv))
  rw [Htx] at HIv
  rw [HW.out]
  obtain ⟨i0, hi, hz0, hz1, hz2⟩ := blk_info
  have Hms := Lib.hid (show (madeCells (Value.agg (List.replicate 16 (Value.int .i64 0)).toArray).cells (c * 16)).toList = List.replicate (c * 16) (.int .i64 0) from toList_made_rep _ _ (by decide) (fun j hj => by
    have hj16 : j < 16 := hj
    have hk : j = 0 ∨ j = 1 ∨ j = 2 ∨ j = 3 ∨ j = 4 ∨ j = 5 ∨ j = 6 ∨ j = 7 ∨ j = 8 ∨ j = 9 ∨ j = 10 ∨ j = 11 ∨ j = 12 ∨ j = 13 ∨ j = 14 ∨ j = 15 := by omega
    rcases hk with rfl | rfl | rfl | rfl | rfl | rfl | rfl | rfl | rfl | rfl | rfl | rfl | rfl | rfl | rfl | rfl <;> rfl) _)
  obtain ⟨mc, hmc⟩ : ∃ mc, madeCells (Value.agg (List.replicate 16 (Value.int .i64 0)).toArray).cells (c * 16) = mc := ⟨_, rfl⟩
  rw [hmc] at Hms
  have hmc2 : mc = ((rowsTo 16 c (fun i => invZ (blockAt p i)) 0).map (Value.int .i64)).toArray := by
    apply Array.toList_inj.1
    rw [Hms.out, rowsTo_zero]
  clear hP hPb hIb hJ hJb hg hr hgr Htx HW Hms
  generalize partTo (invsZ p c) c = J at *
  rw [← HIc.out] at HJ
  clear HIc
  generalize lapA = lv at *
  have HFlp := Lib.hid (show (Try.prog.info? 88).map (·.size) = some lv.size by rw [hlz]; exact inf_lap)
  have HFnt := Lib.hid (show (Try.prog.info? 86).map (·.size) = some tv.length by rw [htv]; exact inf_net)
  have HB0 := Lib.hid ((bnew w (.cells lv 88)).alloc (by simp) (.cells mc 94))
  have HN0 := Lib.hid (show ((w.alloc (.cells lv 88)).alloc (.cells mc 94)).heap[w.heap.size]? = some (.cells lv 88 (0, 0)) from (heap_alloc_old _ _ (by simp)).trans (heap_alloc_new w _))
  have HP0 := Lib.hid (show Blk ((w.alloc (.cells lv 88)).alloc (.cells mc 94)) (w.heap.size + 1) 94 ((rowsTo 16 c (fun i => invZ (blockAt p i)) 0).map (.int .i64)) by
    rw [hmc2]
    have := Blk.new (w.alloc (.cells lv 88)) 94 ((rowsTo 16 c (fun i => invZ (blockAt p i)) 0).map (.int .i64))
    simpa using this)
  clear hlz hmc2
  go_enter Try.func48, Try.ntmps48
  go_wp2_with (refine wpList_make_rows (w.alloc (.cells lv 88)) rfl (.tmp 13) (.tmp 13) 79 rfl 94 i0 (.agg (List.replicate 16 (Value.int .i64 0)).toArray) 16 Try.underlying79 hi hz0 hz1 .i64 .i64 c rfl rfl (by rw [hz2]; omega) (by omega) ?_; rw [hmc])
  go_loopw [17] (fun i wr => ∃ m : Nat, m ≤ c ∧ i = .int .i64 m ∧ Blk wr (w.heap.size + 1) 94 ((rowsTo 16 c (fun i => invZ (blockAt p i)) m).map (.int .i64)) ∧ wr.heap[w.heap.size]? = some (.cells lv 88 (0, 0)) ∧ Below w.heap.size w wr) (fun i _ => c - (intOf i).toNat)
  case atStart => exact ⟨0, by omega, rfl, HP0.out, HN0.out, HB0.out⟩
  case round =>
    obtain ⟨m, hm, rfl, hB, hlap, hbel⟩ := hrel
    have HB := Lib.hid hB
    have Hla := Lib.hid hlap
    have Hbe := Lib.hid hbel
    clear HP0 HN0 HB0 hB hlap hbel
    by_cases hlk : m < c
    · have t1 : (m : Int) < (c : Int) := by omega
      obtain ⟨ag, og, rfl, hag⟩ := row_ad Hr.out HPl.out (by omega)
      have BX := Lib.hid (fun (x : GW wr) => (row_cut (((Hr.out.below Hbe.out).more Hbe.out.size).below x.2) (m * 16) 16))
      have HU := Lib.hid (fun W => HIv.out m W hlk)
      have HNx := HIn.out m hlk
      have hbl := HBk.out m hlk
      have hul := HIl.out m
      rw [show ((p.drop (m * 16)).take 16) = blockAt p m from rfl] at BX
      unfold blockV at HU
      have Hone := Lib.hid (ints_each (invZ (blockAt p m)))
      have hvl : ((invZ (blockAt p m)).map (Value.int .i64)).length = 16 := by rw [List.length_map, invZ_len]
      have HNx : (putAt (rowsTo 16 c (fun i => invZ (blockAt p i)) m) (m * 16) (invZ (blockAt p m))).map (Value.int .i64) = (rowsTo 16 c (fun i => invZ (blockAt p i)) (m + 1)).map (Value.int .i64) := by rw [HNx]
      rw [putAt_map] at HNx
      have hxl : ((blockAt p m).map (Value.int .i64)).length = 16 := by rw [List.length_map, hbl]
      have hrl := row_fit (sz := 16) hlk
      obtain ⟨U1, hU1⟩ : ∃ U1, (rowsTo 16 c (fun i => invZ (blockAt p i)) (m + 1)).map (Value.int .i64) = U1 := ⟨_, rfl⟩
      rw [hU1] at HNx
      have HU1 := Lib.hid hU1
      have Hul := Lib.hid (show ((rowsTo 16 c (fun i => invZ (blockAt p i)) m).map (Value.int .i64)).length = c * 16 by rw [List.length_map, hul])
      generalize (rowsTo 16 c (fun i => invZ (blockAt p i)) m).map (Value.int .i64) = U0 at *
      generalize (invZ (blockAt p m)).map (Value.int .i64) = zs at *
      generalize (blockAt p m).map (Value.int .i64) = xs at *
      have HNx := Lib.hid HNx
      have HFx := Lib.hid (show (Try.prog.info? 94).map (·.size) = some xs.length by rw [hxl]; exact inf_block)
      have HFz := Lib.hid (show (Try.prog.info? 94).map (·.size) = some zs.length by rw [hvl]; exact inf_block)
      have Hfit := Lib.hid (show m * 16 + zs.length ≤ U0.length by rw [hvl, Hul.out]; exact hrl)
      have x5 := fun (x : GW wr) => BX.out x
      have z5 := gw_heap Hla.out
      have y5 := fun W hW j v hv => (show World.cell? W ⟨w.heap.size, 16 + j, none⟩ = some v from (cell_of_row _ _ _ _ _ _ (z5 W hW)).trans (HLa.out j v hv))
      clear hul hU1 hxl hvl hbl BX hrl Hul
      go_wp2_with fail
      refine wp_region_calm_tail 10 (by kernel_rfl) (by kernel_rfl) ?_
      simp only [List.take_succ_cons, List.take_zero, List.drop_succ_cons, List.drop_zero]
      repeat (first | (go_big_quiet_want; refine quiet_load_part 94 (.tmp 26) rfl ag (og + m * 16) rfl xs _ (by rintro _ ⟨x, rfl⟩; exact x5 x) Try.underlying94 rfl HFx.out ?_; go_simp; go_big_quiet_on) | (go_big_quiet_want; refine quiet_load_part 86 (.tmp 22) rfl w.heap.size 16 rfl tv _ y5 Try.underlying86 rfl HFnt.out ?_; go_simp; go_big_quiet_on) | go_big_quiet_step ((go_at_call 93; exact calm_call (HU.out _))))
      refine wpQuiet_nil ?_
      intro w5 hw'
      have hb5 := gw_below hw'
      have B5 := Lib.hid (HB.out.below hb5 HB.out.lt)
      have L5 := Lib.hid (hkeep Hla.out hb5)
      have E5 := Lib.hid (bnext Hbe.out hb5)
      clear hw' hb5 x5 y5 z5
      go_wp2_with (refine wpList_store_part_w rfl 94 (.tmp 29) (.tmp 28) rfl (w.heap.size + 1) (m * 16) rfl _ _ zs rfl B5.out HFz.out Hfit.out Hone.out ?_; rw [HNx.out])
      go_roundw
      case rel => exact ⟨m + 1, by omega, by go_num, by rw [HU1.out]; exact setRow_at w5 _ _ _ _ B5.out, (setRow_other _ _ _ _ (by omega)).trans L5.out, setRow_below E5.out _ (by omega) _⟩
      case measure => simp [intOf]; omega
    · have hmc : m = c := by omega
      subst hmc
      have t1 : ¬ ((m : Int) < (m : Int)) := by omega
      have HX := Lib.hid (HJ.out (some ⟨w.heap.size + 1, 0, none⟩) wr (fun i v hv => ⟨w.heap.size + 1, 0, rfl, HB.out.lt, by rw [HB.out.cell, Nat.zero_add]; exact hv⟩) m)
      clear HJ
      go_wp2_with (first | (go_at_call 94; fail) | (refine wpList_load_row_w rfl 88 (.tmp 4) rfl w.heap.size rfl _ lv _ _ Hla.out Try.underlying88 rfl HFlp.out ?_))
      refine HX.out.mono ?_
      rintro e w3 ⟨A3, c3, rfl, hb3, hc3, hcase⟩
      have E3 := Lib.hid (bnext Hbe.out hb3)
      have hsz3 := Hbe.out.size
      have hsl := hlt Hla.out
      clear HX Hla HB hb3 HIn HIl HIv
      rcases hcase with rfl | ⟨g2, k2, rfl, hg2, hB2⟩
      · have t1 : ¬ ((0 : Int) < ((0 : Nat) : Int)) := by omega
        have hF0 := HFl.out 0
        have HSX := Lib.hid (HSm.out A3 c3 w3 (by rw [List.eq_nil_of_length_eq_zero (by omega : (blkTo (downF gs) J 0 0).length = 0)]; exact Row.none_ _ _ _))
        clear hF0 HSm
        generalize blkTo (downF gs) J 0 0 = q at *
        go_wp2_with fail
        go_loopw [36] (fun i wx => i = .int .i64 0 ∧ wx = w3) (fun _ _ => 0)
        case atStart => exact ⟨rfl, rfl⟩
        case round =>
          obtain ⟨rfl, rfl⟩ := hrel
          go_wp2_with (go_at_call 96; fail)
          refine HSX.out.mono ?_
          rintro e w6 ⟨A6, c6, rfl, h1, h2, h3, h4⟩
          go_wp2
          go_ret
          exact ⟨A6, c6, rfl, h1, h2, h3, bnext E3.out h4⟩
      · have ng2 : w.heap.size < g2 := by omega
        have P3 := Lib.hid (show Blk w3 g2 94 ((blkTo (downF gs) J m 0 ++ List.replicate k2 0).map (.int .i64)) by rw [HF0.out]; exact hB2)
        clear hB2 HF0
        go_wp2_with fail
        go_loopw [36] (fun i wx => ∃ k : Nat, k ≤ m ∧ i = .int .i64 k ∧ Blk wx g2 94 ((blkTo (downF gs) J m k ++ List.replicate k2 0).map (.int .i64)) ∧ Below w.heap.size w wx) (fun i _ => m - (intOf i).toNat)
        case atStart => exact ⟨0, by omega, rfl, P3.out, E3.out⟩
        case round =>
          obtain ⟨k, hk, rfl, hB, hbel⟩ := hrel
          have HC := Lib.hid hB
          have Hbf := Lib.hid hbel
          clear P3 E3 hB hbel Hbe
          by_cases hlk2 : k < m
          · have t1 : (k : Int) < (m : Int) := by omega
            obtain ⟨ag, og, rfl, hag⟩ := row_ad Hgr.out Hgl.out (by omega)
            have BX := Lib.hid (fun (x : GW wr) => blk_cut ((HC.out.below x.2 HC.out.lt)) (k * 16) 16)
            have GY := Lib.hid (fun (x : GW wr) => (row_cut (((Hgr.out.below Hbf.out).more Hbf.out.size).below x.2) (k * 4) 4))
            have HU := Lib.hid (fun W => HDn.out k W hlk2)
            have HNx := HFn.out k hlk2 (List.replicate k2 0)
            have hbe := HFb.out k hlk2
            have hbl := HJk.out k hlk2
            have hgl := HGk.out k hlk2
            have hul := HFl.out k
            have hdl := HDl.out k (blockAt J k) hlk2 hbl
            rw [blk_at_app (c := m) hul hlk2, hbe] at BX
            rw [show ((gs.drop (k * 4)).take 4) = rowAt 4 gs k from rfl] at GY
            clear hbe
            unfold blockV at HU
            have Hone := Lib.hid (ints_each (downF gs k (blockAt J k)))
            have hvl : ((downF gs k (blockAt J k)).map (Value.int .i64)).length = 16 := by rw [List.length_map, hdl]
            rw [putAt_map] at HNx
            have hxl : ((blockAt J k).map (Value.int .i64)).length = 16 := by rw [List.length_map, hbl]
            have hyl : ((rowAt 4 gs k).map (Value.int .i64)).length = 4 := by rw [List.length_map, hgl]
            have hrl := row_fit (sz := 16) hlk2
            obtain ⟨U1, hU1⟩ : ∃ U1, (blkTo (downF gs) J m (k + 1) ++ List.replicate k2 0).map (Value.int .i64) = U1 := ⟨_, rfl⟩
            rw [hU1] at HNx
            have HU1 := Lib.hid hU1
            have Hul := Lib.hid (show m * 16 ≤ ((blkTo (downF gs) J m k ++ List.replicate k2 0).map (Value.int .i64)).length by rw [List.length_map, List.length_append, hul]; omega)
            generalize (blkTo (downF gs) J m k ++ List.replicate k2 0).map (Value.int .i64) = U0 at *
            generalize (downF gs k (blockAt J k)).map (Value.int .i64) = zs at *
            generalize (blockAt J k).map (Value.int .i64) = xs at *
            generalize (rowAt 4 gs k).map (Value.int .i64) = ys at *
            have HNx := Lib.hid HNx
            have HFx := Lib.hid (show (Try.prog.info? 94).map (·.size) = some xs.length by rw [hxl]; exact inf_block)
            have HFy := Lib.hid (show (Try.prog.info? 91).map (·.size) = some ys.length by rw [hyl]; exact inf_four)
            have HFz := Lib.hid (show (Try.prog.info? 94).map (·.size) = some zs.length by rw [hvl]; exact inf_block)
            have Hfit := Lib.hid (show k * 16 + zs.length ≤ U0.length by rw [hvl]; exact Nat.le_trans hrl Hul.out)
            have x5 := fun (x : GW wr) => BX.out x
            have y5 := fun (x : GW wr) => GY.out x
            clear hul hU1 hxl hyl hvl hbl hgl hdl BX GY hrl Hul
            go_wp2_with fail
            refine wp_region_calm_tail 12 (by kernel_rfl) (by kernel_rfl) ?_
            simp only [List.take_succ_cons, List.take_zero, List.drop_succ_cons, List.drop_zero]
            repeat (first | (go_big_quiet_want; refine quiet_load_part 94 (.tmp 47) rfl g2 (k * 16) rfl xs _ (by rintro _ ⟨x, rfl⟩; exact x5 x) Try.underlying94 rfl HFx.out ?_; go_simp; go_big_quiet_on) | (go_big_quiet_want; refine quiet_load_part 91 (.tmp 51) rfl ag (og + k * 4) rfl ys _ (by rintro _ ⟨x, rfl⟩; exact y5 x) Try.underlying91 rfl HFy.out ?_; go_simp; go_big_quiet_on) | go_big_quiet_step ((go_at_call 95; exact calm_call (HU.out _))))
            refine wpQuiet_nil ?_
            intro w5 hw'
            have hb5 := gw_below hw'
            have B5 := Lib.hid (HC.out.below hb5 HC.out.lt)
            have E5 := Lib.hid (bnext Hbf.out hb5)
            clear hw' hb5 x5 y5
            go_wp2_with (refine wpList_store_part_w rfl 94 (.tmp 54) (.tmp 53) rfl g2 (k * 16) rfl _ _ zs rfl B5.out HFz.out Hfit.out Hone.out ?_; rw [HNx.out])
            go_roundw
            case rel => exact ⟨k + 1, by omega, by go_num, by rw [HU1.out]; exact setRow_at w5 _ _ _ _ B5.out, setRow_below E5.out _ (by omega) _⟩
            case measure => simp [intOf]; omega
          · have hkm : k = m := by omega
            subst hkm
            have t1 : ¬ ((k : Int) < (k : Int)) := by omega
            have HSX := Lib.hid (HSm.out (some ⟨g2, 0, none⟩) c3 wr (fun i v hv => ⟨g2, 0, rfl, HC.out.lt, by rw [HC.out.cell, Nat.zero_add, List.map_append, List.getElem?_append_left (List.getElem?_eq_some_iff.1 hv).1]; exact hv⟩))
            clear HSm
            generalize blkTo (downF gs) J k k = q at *
            go_wp2_with (go_at_call 96; fail)
            refine HSX.out.mono ?_
            rintro e w6 ⟨A6, c6, rfl, h1, h2, h3, h4⟩
            go_wp2
            go_ret
            exact ⟨A6, c6, rfl, h1, h2, h3, bnext Hbf.out h4⟩
end Go.Proofs.Ythmgjielcmjenaa
