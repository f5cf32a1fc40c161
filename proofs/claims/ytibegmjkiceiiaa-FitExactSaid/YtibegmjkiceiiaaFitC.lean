/- Contracts of layer 12's Mask and next; conditions: as each theorem states. -/
import Derived.Test.YtibegmjkiceiiaaFitB
namespace Go.Proofs.Ytibegmjkiceiiaa
open Go.RowKit

def masksUpTo (b : List Int) (m : Nat) : List Int := (List.range 4).map fun i => if i < m then (widthZ (peakZ ((b.drop (i * 4)).take 4)) : Int) else 0
theorem masksUpTo_zero (b : List Int) : masksUpTo b 0 = [0, 0, 0, 0] := rfl
theorem masksUpTo_four (b : List Int) : masksUpTo b 4 = maskZ b := by
  unfold masksUpTo maskZ
  refine List.map_congr_left fun i hi => ?_
  rw [if_pos (List.mem_range.1 hi)]
theorem masksUpTo_succ (b : List Int) {m : Nat} (hm : m < 4) : (masksUpTo b m).set m (widthZ (peakZ ((b.drop (m * 4)).take 4)) : Int) = masksUpTo b (m + 1) := by
  refine range_map_set _ (fun i => if i < m + 1 then (widthZ (peakZ ((b.drop (i * 4)).take 4)) : Int) else 0) hm ?_ (fun i hi => ?_)
  · rw [if_pos (by omega)]
  · by_cases h : i < m
    · rw [if_pos h, if_pos (by omega)]
    · rw [if_neg h, if_neg (by omega)]
theorem masksUpTo_len (b : List Int) (m : Nat) : (masksUpTo b m).length = 4 := by simp [masksUpTo]
theorem masksUpTo_get (b : List Int) {m k : Nat} (hk : k < 4) (hm : m ≤ k) : (masksUpTo b m)[k]? = some 0 := by
  unfold masksUpTo
  rw [range_map_get _ hk, if_neg (by omega)]
theorem big_peak {b : List Int} (h : BigB b) {l : List Int} (hl : ∀ x ∈ l, x ∈ b) : 0 ≤ peakZ l ∧ peakZ l ≤ 4611686018427387904 :=
  ⟨peakZ_nn l, peakZ_le (by omega) l fun x hx => by
    obtain ⟨k, hk, rfl⟩ := List.mem_iff_getElem.1 (hl x hx)
    have := h k _ (List.getElem?_eq_getElem hk)
    exact absZ_le (by omega) (by omega) (by omega)⟩
theorem quarter_mem {b : List Int} {i n : Nat} : ∀ x ∈ (b.drop i).take n, x ∈ b := fun _ hx => List.mem_of_mem_drop (List.mem_of_mem_take hx)

set_option maxRecDepth 100000 in
set_option maxHeartbeats 4000000 in
theorem Mask_any (b : List Int) (w : World) (hb : b.length = 16) (hr : BigB b) :
    Calls Try.prog 37 #[blockV b] w fun e w' => e = .returned (blockV (maskZ b)) ∧ Below w.heap.size w w' := by
  unfold blockV
  have Hb := Lib.hid hb
  have Hr := Lib.hid hr
  have HB := Lib.hid (Blk.new w 66 (b.map (Value.int .i64)))
  have H3 := Lib.hid (heap3 w (.cells (b.map (Value.int .i64)).toArray 66) (.cells (List.replicate 4 (.int .i64 0)).toArray 67) (.cells (List.replicate 4 (.int .i64 0)).toArray 67))
  generalize hbv : b.map (Value.int .i64) = bv at *
  have Hbv := Lib.hid hbv
  clear hb hr hbv HB
  go_enter Try.func37, Try.ntmps37
  go_wp2_with fail
  go_loopw [5] (fun i wr => ∃ (m : Nat), m ≤ 4 ∧ i = .int .i64 m ∧ Blk wr w.heap.size 66 bv ∧ Blk wr (w.heap.size + 1) 67 (List.replicate 4 (.int .i64 0)) ∧ Blk wr (w.heap.size + 1 + 1) 67 ((masksUpTo b m).map (Value.int .i64)) ∧ Below w.heap.size w wr) (fun i _ => 4 - (intOf i).toNat)
  case atStart => exact ⟨0, by omega, rfl, H3.out.1, H3.out.2.1, H3.out.2.2.1, H3.out.2.2.2.2⟩
  case round =>
    obtain ⟨m, hm, rfl, hB, hZ, hM, hbel⟩ := hrel
    have HB := Lib.hid hB
    have HZ := Lib.hid hZ
    have HM := Lib.hid hM
    have Hbel := Lib.hid hbel
    clear H3
    by_cases hlt : m < 4
    · have t1 : (m : Int) < 4 := by omega
      have hql : ((b.drop (m * 4)).take 4).length = 4 := by rw [List.length_take, List.length_drop, Hb.out]; omega
      have hpb := big_peak Hr.out (l := (b.drop (m * 4)).take 4) quarter_mem
      have HP := Lib.hid (show ∀ cap, Calls Try.prog 103 #[.slice (some ⟨w.heap.size, m * 4, none⟩) 4 cap] wr fun e w' => e = .returned (.int .i64 (peakZ ((b.drop (m * 4)).take 4))) ∧ wr = w' from fun cap => by
        have := Peak_any (some ⟨w.heap.size, m * 4, none⟩) cap ((b.drop (m * 4)).take 4) wr (by omega) (fun i v hv => ⟨_, m * 4, rfl, HB.out.lt, by
          rw [HB.out.cell, ← Hbv.out]
          rw [List.map_take, List.map_drop, List.getElem?_take] at hv
          split at hv
          · rw [List.getElem?_drop] at hv; exact hv
          · cases hv⟩) (fun x hx => by
          obtain ⟨k, hk, rfl⟩ := List.mem_iff_getElem.1 (quarter_mem x hx)
          have := Hr.out k _ (List.getElem?_eq_getElem hk)
          omega)
        rw [hql] at this
        exact this)
      have HSt := Lib.hid (masksUpTo_succ b hlt)
      generalize peakZ ((b.drop (m * 4)).take 4) = P at *
      have HWd := Lib.hid (fun W => Width_any P W (by omega) (by omega))
      have ce : wr.cell? ⟨w.heap.size + 1 + 1, m, none⟩ = some (.int .i64 0) := by rw [hM.cell, List.getElem?_map, masksUpTo_get b hlt (Nat.le_refl m)]; rfl
      have fz := hM.frozen m
      have hsl := slice_block w.heap.size 0 ((m : Int) * 4) (((m : Int) + 1) * 4) (m * 4) (m * 4 + 4) (by omega) (by omega) (by omega) (by omega) (by omega)
      rw [Nat.zero_add, show m * 4 + 4 - m * 4 = 4 by omega] at hsl
      clear hB hZ hM hbel hql
      go_wp2_with (first | (go_at_call 103; refine (HP.out _).mono ?_; rintro e w1 ⟨rfl, rfl⟩) | (go_at_call 102; refine (HWd.out _).mono ?_; rintro e w1 ⟨rfl, rfl⟩))
      go_roundw
      case rel =>
        refine ⟨m + 1, by omega, by go_num, HB.out.far (by simp; omega) _, HZ.out.far (by simp) _, ?_, Hbel.out.setCell (by simp; omega) _⟩
        rw [← HSt.out, List.map_set]
        exact HM.out.set_ m _
      case measure => simp [intOf]; omega
    · have hm4 : m = 4 := by omega
      subst hm4
      have t1 : ¬ (((4 : Nat) : Int) < 4) := by omega
      have hH := Lib.hid (show wr.heap[w.heap.size + 1 + 1]? = some (.cells ((masksUpTo b 4).map (Value.int .i64)).toArray 67 (0, 0)) from HM.out)
      have hH2 := Lib.hid (show wr.heap[w.heap.size + 1]? = some (.cells (List.replicate 4 (Value.int .i64 0)).toArray 67 (0, 0)) from HZ.out)
      have H1 := Lib.hid (ints_one (masksUpTo b 4))
      have hsz2 : ((masksUpTo b 4).map (Value.int .i64)).toArray.size = 4 := by simp [masksUpTo_len]
      obtain ⟨xs, hxs⟩ : ∃ xs, ((masksUpTo b 4).map (Value.int .i64)).toArray = xs := ⟨_, rfl⟩
      rw [hxs] at hH H1 hsz2
      have HE := Lib.hid hxs
      clear hxs
      have HF2 := Lib.hid (show (Try.prog.info? 67).map (·.size) = some xs.size by rw [hsz2]; exact inf_four)
      have Hsz := Lib.hid hsz2
      clear hsz2 hB hZ hM
      go_wp2_with (first | (refine wpList_load_row_w rfl 67 (.tmp 3) rfl (w.heap.size + 1 + 1) rfl _ xs _ _ hH.out Try.underlying67 rfl HF2.out ?_) | (refine wpList_store_row_w rfl 67 (.tmp 2) (.tmp 19) rfl (w.heap.size + 1) rfl _ _ xs rfl hH2.out HF2.out (by rw [Hsz.out]; simp) H1.out ?_))
      refine bodyPost_ret (v := .agg xs) (results_cell_row Try.results37 _ _ (w.heap.size + 1) 67 xs (0, 0) _ rfl (setRow_at wr _ _ _ xs hH2.out) Try.underlying67 rfl HF2.out) rfl ?_
      exact ⟨by rw [← HE.out, masksUpTo_four], setRow_below Hbel.out _ (by omega) _⟩
end Go.Proofs.Ytibegmjkiceiiaa
