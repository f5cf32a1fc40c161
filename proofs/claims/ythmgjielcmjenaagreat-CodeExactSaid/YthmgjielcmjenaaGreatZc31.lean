/- FitK. Conditions: as each theorem states. -/
import Derived.Test.YthmgjielcmjenaaGreatZc30

namespace Go.Proofs.YthmgjielcmjenaaGreat
open Go.RowKit

theorem set_same {α : Type} {l : List α} {i : Nat} {x : α} (h : l[i]? = some x) : l.set i x = l := by
  apply List.ext_getElem?
  intro j
  rw [List.getElem?_set]
  by_cases hj : i = j
  · subst hj
    rw [if_pos rfl, if_pos (List.getElem?_eq_some_iff.1 h).1, h]
  · rw [if_neg hj]
set_option maxRecDepth 100000 in
set_option maxHeartbeats 4000000 in
theorem Same_one (f : FrameV) (A1 A2 : Option Addr) (c1 c2 : Nat) (w : World) (h : f.Len) (hr1 : Row w w.heap.size A1 (toneCells f.tones)) (hr2 : Row w w.heap.size A2 (toneCells f.tones)) (hl : f.tones.length ≤ 1000000) :
    Calls Tryz.prog 15 #[.agg (frameA f (.slice A1 f.tones.length c1)), .agg (frameA f (.slice A2 f.tones.length c2))] w fun e w' => e = .returned (.bool true) ∧ Below w.heap.size w w' := by
  have hgl : (f.gains.map (Value.int .i64)).length = 4 := by simp [h.g]
  have hsl : (f.scale.map (Value.int .i64)).length = 4 := by simp [h.s]
  have hwl : (f.width.map (Value.int .i64)).length = 4 := by simp [h.w]
  have hql : (f.q.map (Value.int .i64)).length = 16 := by simp [h.q]
  have q1 : ∀ W, (Op.equalIn 10000 37 (.agg (f.gains.map (Value.int .i64)).toArray) (.agg (f.gains.map (Value.int .i64)).toArray)).run Tryz.prog W = .ok true W := fun W => (eq_four f.gains f.gains h.g h.g W).trans (by rw [decide_eq_true rfl])
  have q2 : ∀ W, (Op.equalIn 10000 37 (.agg (f.scale.map (Value.int .i64)).toArray) (.agg (f.scale.map (Value.int .i64)).toArray)).run Tryz.prog W = .ok true W := fun W => (eq_four f.scale f.scale h.s h.s W).trans (by rw [decide_eq_true rfl])
  have q3 : ∀ W, (Op.equalIn 10000 37 (.agg (f.width.map (Value.int .i64)).toArray) (.agg (f.width.map (Value.int .i64)).toArray)).run Tryz.prog W = .ok true W := fun W => (eq_four f.width f.width h.w h.w W).trans (by rw [decide_eq_true rfl])
  have q4 : ∀ W, (Op.equalIn 10000 40 (.agg (f.q.map (Value.int .i64)).toArray) (.agg (f.q.map (Value.int .i64)).toArray)).run Tryz.prog W = .ok true W := fun W => (eq_block f.q f.q h.q h.q W).trans (by rw [decide_eq_true rfl])
  have H2 := Lib.hid (heap2 w (.cells (frameA f (.slice A1 f.tones.length c1)) 42) (.cells (frameA f (.slice A2 f.tones.length c2)) 42))
  have HC := Lib.hid (fun (W : World) hW => And.intro (frame_parts h (hkeep H2.out.1 (w' := W) hW)) (frame_parts h (hkeep H2.out.2.1 (w' := W) hW)))
  have HT1 := Lib.hid (fun (m : Nat) (t : ToneV) (ht : f.tones[m]? = some t) => tone_row hr1 ht)
  have HT2 := Lib.hid (fun (m : Nat) (t : ToneV) (ht : f.tones[m]? = some t) => tone_row hr2 ht)
  obtain ⟨gg, ts, sc, wd, q⟩ := f
  simp only at *
  obtain ⟨n, hn⟩ : ∃ n, ts.length = n := ⟨_, rfl⟩
  rw [hn] at hl H2 HC ⊢
  have Hn := Lib.hid hn
  clear hn h hr1 hr2
  generalize frameA ⟨gg, ts, sc, wd, q⟩ (.slice A1 n c1) = f1 at *
  generalize frameA ⟨gg, ts, sc, wd, q⟩ (.slice A2 n c2) = f2 at *
  generalize gg.map (Value.int .i64) = gv at *
  generalize sc.map (Value.int .i64) = sv at *
  generalize wd.map (Value.int .i64) = wv at *
  generalize q.map (Value.int .i64) = qv at *
  have HFg := Lib.hid (show (Tryz.prog.info? 37).map (·.size) = some gv.length by rw [hgl]; exact inf_four)
  have HFs := Lib.hid (show (Tryz.prog.info? 37).map (·.size) = some sv.length by rw [hsl]; exact inf_four)
  have HFw := Lib.hid (show (Tryz.prog.info? 37).map (·.size) = some wv.length by rw [hwl]; exact inf_four)
  have HFq := Lib.hid (show (Tryz.prog.info? 40).map (·.size) = some qv.length by rw [hql]; exact inf_block)
  obtain ⟨W2, hW2⟩ : ∃ W2, (w.alloc (.cells f1 42)).alloc (.cells f2 42) = W2 := ⟨_, rfl⟩
  have HW2 := Lib.hid hW2
  rw [hW2] at H2 HC
  have K := HC.out W2 (Below.refl _ _)
  have k1 := K.1.2.1
  have k2 := K.2.2.1
  rw [← hW2] at k1 k2
  clear K hgl hsl hwl hql hW2
  go_enter Tryz.func15, Tryz.ntmps15
  go_wp2
  clear k1 k2
  go_loopw [16] (fun i wr => ∃ m : Nat, m ≤ n ∧ i = .int .i64 m ∧ Below W2.heap.size W2 wr) (fun i _ => n - (intOf i).toNat)
  case atStart => exact ⟨0, by omega, rfl, by rw [HW2.out]; exact Below.refl _ _⟩
  case round =>
    obtain ⟨m, hm, rfl, hbel⟩ := hrel
    have Hbel := Lib.hid hbel
    clear hbel
    by_cases hlk : m < n
    · have t1 : (m : Int) < (n : Int) := by omega
      obtain ⟨t, ht⟩ := list_get (k := m) Hn.out hlk
      obtain ⟨b1, o1, rfl, hb1, x1, y1⟩ := HT1.out m t ht
      obtain ⟨b2, o2, rfl, hb2, x2, y2⟩ := HT2.out m t ht
      have HB := Lib.hid (fun (x : GW wr) => (show Below w.heap.size w x.1 from H2.out.2.2.2.trans ((Hbel.out.trans (x.2.mono Hbel.out.size)).mono H2.out.2.2.2.size)))
      have j1 := fun (x : GW wr) => ((HB.out x).cell (p := ⟨b1, o1 + m * 2, none⟩) hb1).trans x1
      have j2 := fun (x : GW wr) => ((HB.out x).cell (p := ⟨b1, o1 + m * 2 + 1, none⟩) hb1).trans y1
      have j3 := fun (x : GW wr) => ((HB.out x).cell (p := ⟨b2, o2 + m * 2, none⟩) hb2).trans x2
      have j4 := fun (x : GW wr) => ((HB.out x).cell (p := ⟨b2, o2 + m * 2 + 1, none⟩) hb2).trans y2
      have j5 := fun (x : GW wr) => (HC.out x.1 (Hbel.out.trans (x.2.mono Hbel.out.size))).1.2.1
      have j6 := fun (x : GW wr) => (HC.out x.1 (Hbel.out.trans (x.2.mono Hbel.out.size))).2.2.1
      obtain ⟨ix, vl⟩ := t
      simp only at j1 j2 j3 j4
      clear ht x1 y1 x2 y2
      go_wp2_with fail
      refine wp_region_calm (by kernel_rfl) (by kernel_rfl) ?_
      repeat (go_big_quiet_step (fail))
      refine wpQuiet_nil ?_
      intro w5 hw'
      have hb5 := gw_below hw'
      have HB5 := Lib.hid (bnext Hbel.out hb5)
      clear hw' hb5 j1 j2 j3 j4 j5 j6
      go_wp2
      go_roundw
      case rel => exact ⟨m + 1, by omega, by go_num, HB5.out⟩
      case measure => simp [intOf]; omega
    · have hmn : m = n := by omega
      subst hmn
      have t1 : ¬ ((m : Int) < (m : Int)) := by omega
      have K := HC.out wr Hbel.out
      have R1 := Lib.hid K.1.1
      have R2 := Lib.hid K.1.2.2.1
      have R3 := Lib.hid K.1.2.2.2.1
      have R4 := Lib.hid K.1.2.2.2.2
      have S1 := Lib.hid K.2.1
      have S2 := Lib.hid K.2.2.2.1
      have S3 := Lib.hid K.2.2.2.2.1
      have S4 := Lib.hid K.2.2.2.2.2
      clear K
      go_wp2_with (first | (refine wpList_load_part_w rfl 37 (.tmp 31) rfl w.heap.size 0 rfl gv _ R1.out Tryz.underlying37 rfl HFg.out ?_) | (refine wpList_load_part_w rfl 37 (.tmp 33) rfl (w.heap.size + 1) 0 rfl gv _ S1.out Tryz.underlying37 rfl HFg.out ?_) | (refine wpList_load_part_w rfl 37 (.tmp 37) rfl w.heap.size 5 rfl sv _ R2.out Tryz.underlying37 rfl HFs.out ?_) | (refine wpList_load_part_w rfl 37 (.tmp 39) rfl (w.heap.size + 1) 5 rfl sv _ S2.out Tryz.underlying37 rfl HFs.out ?_) | (refine wpList_load_part_w rfl 37 (.tmp 44) rfl w.heap.size 9 rfl wv _ R3.out Tryz.underlying37 rfl HFw.out ?_) | (refine wpList_load_part_w rfl 37 (.tmp 46) rfl (w.heap.size + 1) 9 rfl wv _ S3.out Tryz.underlying37 rfl HFw.out ?_) | (refine wpList_load_part_w rfl 40 (.tmp 51) rfl w.heap.size 13 rfl qv _ R4.out Tryz.underlying40 rfl HFq.out ?_) | (refine wpList_load_part_w rfl 40 (.tmp 53) rfl (w.heap.size + 1) 13 rfl qv _ S4.out Tryz.underlying40 rfl HFq.out ?_))
      go_ret
      exact ⟨rfl, H2.out.2.2.2.trans (Hbel.out.mono H2.out.2.2.2.size)⟩

end Go.Proofs.YthmgjielcmjenaaGreat
