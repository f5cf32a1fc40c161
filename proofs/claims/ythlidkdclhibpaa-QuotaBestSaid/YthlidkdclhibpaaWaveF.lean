/- The walk of the law WaveChecks; conditions: as each theorem states. -/
import Derived.Test.YthlidkdclhibpaaWaveE
namespace Go.Proofs.Ythlidkdclhibpaa
open Go.RowKit

theorem len0_le {rows : List (List Int)} (h : ∀ r ∈ rows, r.length ≤ 150) : len0 rows ≤ 150 := by
  cases rows with
  | nil => exact Nat.zero_le _
  | cons r rs => exact h r (by simp)

/-- What may be packed has a right directory. -/
theorem right_of_check {nm : ByteArray} {rate : Int} {lp : Bool} {f t : Int} {rows : List (List Int)} (h : checkZ nm rate lp f t rows = 0) :
    MetaV.right ⟨nm, len0 rows, rate, rows.length, lp, f, t, 0, 0⟩ = true := by
  unfold checkZ at h
  cases h1 : isName nm
  · simp [h1] at h
  · by_cases h2 : rate < 1 ∨ 192000 < rate
    · simp [h1, h2] at h
    · by_cases h3 : rows.length < 1 ∨ 2 < rows.length ∨ len0 rows < 1 ∨ 1048576 < len0 rows
      · rw [if_neg (by simp [h1]), if_neg h2, if_pos h3] at h; omega
      · cases h4 : loopOk lp f t (len0 rows)
        · rw [if_neg (by simp [h1]), if_neg h2, if_neg h3, if_pos h4] at h; omega
        · unfold MetaV.right
          simp only [h1, h4, Bool.true_and, Bool.and_true, Bool.and_eq_true, Bool.or_eq_true, decide_eq_true_eq]
          omega

set_option maxRecDepth 100000 in
set_option maxHeartbeats 4000000 in
theorem WaveChecks_walk (nm : ByteArray) (rate : Int) (lp : Bool) (f t : Int) (a : Option Addr) (cap : Nat) (vs : List Value) (rows : List (List Int)) (w : World) (hs : nm.size ≤ 9223372036854775807) (hr : Row w w.heap.size a vs) (hm : RowsAt w w.heap.size vs rows) :
    Calls Try.prog 5 #[.agg #[.string nm, .int .i64 rate, .bool lp, .int .i64 f, .int .i64 t, .slice a rows.length cap]] w
      fun e w' => e = .returned (.bool true) ∧ Below w.heap.size w w' := by
  have HF := Lib.hid (fun W (hW : Below w.heap.size w W) => Few_any nm rate lp f t a cap vs rows W hs w.heap.size hW.size (hr.below hW) (hm.below hW))
  clear hr hm
  generalize rows.length = R at *
  go_enter Try.func5, Try.ntmps5
  go_wp2_with fail
  refine (HF.out _ (bnew _ _)).mono ?_
  rintro e w1 ⟨nm', a', cap', vs', rows', rfl, hn', hr4, hrc, hc63, h150, hrow', hfar, hrows', hb1⟩
  have B1 := (Blk.new w 34 [.string nm, .int .i64 rate, .bool lp, .int .i64 f, .int .i64 t, .slice a R cap]).below hb1 (by simp)
  have x1 := blk_cells B1
  have y1 := blk_free B1
  have HB1 := Lib.hid B1
  have Hb1 := Lib.hid (bnext (bnew _ _) hb1)
  have Hrow := Lib.hid hrow'
  have Hrows := Lib.hid hrows'
  have Hfar := Lib.hid (show ∀ ad, a' = some ad → ad.block ≠ w.heap.size from fun ad h => by have := hfar ad h; simp at this; omega)
  have hN150 := len0_le h150
  clear HF B1 hb1 hrow' hrows' h150 hfar
  go_wp2_with fail
  -- the sample, cut: the world behind it under one name
  obtain ⟨W2, hW2⟩ : ∃ W, W = (((((w1.setCell ⟨w.heap.size, 0, none⟩ (.string nm')).setCell ⟨w.heap.size, 1, none⟩ (.int .i64 rate)).setCell ⟨w.heap.size, 2, none⟩ (.bool lp)).setCell ⟨w.heap.size, 3, none⟩ (.int .i64 f)).setCell ⟨w.heap.size, 4, none⟩ (.int .i64 t)).setCell ⟨w.heap.size, 5, none⟩ (.slice a' rows'.length cap') := ⟨_, rfl⟩
  rw [← hW2]
  have B2 : Blk W2 w.heap.size 34 [.string nm', .int .i64 rate, .bool lp, .int .i64 f, .int .i64 t, .slice a' rows'.length cap'] := by
    rw [hW2]; exact (((((HB1.out.set_ 0 _).set_ 1 _).set_ 2 _).set_ 3 _).set_ 4 _).set_ 5 _
  have Hb2 : Below w.heap.size w1 W2 := by rw [hW2]; repeat (refine Below.setCell ?_ (by simp) _)
                                           exact Below.refl _ _
  have hrow2 : Row W2 w1.heap.size a' vs' := by
    rw [hW2]; repeat (refine Row.set_far ?_ _ _ Hfar.out)
    exact Hrow.out
  have hsz2 : W2.heap.size = w1.heap.size := by rw [hW2]; simp
  rw [← hsz2] at hrow2
  have hrows2 := (Hrows.out.below Hb2).more (Nat.le_trans Hb1.out.size Hb2.size)
  have Hbw := Lib.hid (Hb1.out.trans Hb2)
  clear hW2 hsz2 Hb2 HB1 Hb1 Hrow Hrows Hfar x1 y1
  refine (lawcheck_any nm' rate lp f t a' cap' vs' rows' W2 (by omega) hrow2 hrows2 (by omega) (by omega)).mono ?_
  rintro e w3 ⟨rfl, hb3⟩
  have B3 := B2.below hb3 B2.lt
  have x3 := blk_cells B3
  have hrow3 := hrow2.later hb3
  have hrows3 := hrows2.later hb3
  have Hbw3 := Lib.hid (Hbw.out.trans (hb3.mono Hbw.out.size))
  clear B2 hrow2 hrows2 Hbw hb3
  have HB3 := Lib.hid B3
  have Hrow3 := Lib.hid hrow3
  have Hrows3 := Lib.hid hrows3
  clear B3 hrow3 hrows3
  go_wp2_with fail
  refine (Meta_any nm' rate lp f t a' cap' vs' rows' w3 rows'.length rfl Hrow3.out Hrows3.out).mono ?_
  rintro e w4 ⟨rfl, hb4⟩
  have B4 := HB3.out.below hb4 HB3.out.lt
  have hrow4 := Hrow3.out.later hb4
  have hrows4 := Hrows3.out.later hb4
  have Hbw4 := Lib.hid (Hbw3.out.trans (hb4.mono Hbw3.out.size))
  clear hb4 Hbw3 HB3 Hrow3 Hrows3 x3
  have x4 := blk_cells B4
  have z4 : w.heap.size < w4.heap.size := B4.lt
  have HB4 := Lib.hid B4
  have Hrow4 := Lib.hid hrow4
  have Hrows4 := Lib.hid hrows4
  have HCR := Lib.hid (fun h => right_of_check (nm := nm') (rate := rate) (lp := lp) (f := f) (t := t) (rows := rows') h)
  clear B4
  obtain ⟨C, hC⟩ : ∃ C, checkZ nm' rate lp f t rows' = C := ⟨_, rfl⟩
  obtain ⟨N, hN⟩ : ∃ N, len0 rows' = N := ⟨_, rfl⟩
  have h0 : rows' = [] ∨ ∃ (b off : Nat) (a0 : Option Addr) (c0 : Nat), a' = some ⟨b, off, none⟩ ∧ w4.cell? ⟨b, off, none⟩ = some (.slice a0 N c0) ∧ 1 ≤ rows'.length := by
    cases rows' with
    | nil => exact .inl rfl
    | cons r rs =>
      obtain ⟨b, off, a0, c0, hab, _, hc0, _, _, _⟩ := first_row hrow4 hrows4 (k := 0) (xs := r) rfl
      refine .inr ⟨b, off, a0, c0, hab, ?_, by simp⟩
      rw [← hN]
      rw [Nat.add_zero] at hc0
      exact hc0
  obtain ⟨R', hR'⟩ : ∃ R', rows'.length = R' := ⟨_, rfl⟩
  rw [hC, hN, hR']
  simp only [hR'] at x4
  have HC := Lib.hid hC
  have HN := Lib.hid hN
  have HR' := Lib.hid hR'
  clear hC hN hrow4 hrows4
  have h0' : R' = 0 ∧ N = 0 ∨ ∃ (b off : Nat) (a0 : Option Addr) (c0 : Nat), a' = some ⟨b, off, none⟩ ∧ w4.cell? ⟨b, off, none⟩ = some (.slice a0 N c0) ∧ 1 ≤ R' := by
    rcases h0 with rfl | h0
    · exact .inl ⟨by simpa using hR'.symm, by have := HN.out; simpa [len0] using this.symm⟩
    · rw [hR'] at h0; exact .inr h0
  clear h0 hR'
  rcases h0' with ⟨rfl, rfl⟩ | ⟨b, off, a0, c0, rfl, hc0, h1R⟩
  · go_wp2_with fail
    have bm := (Blk.new w4 23 [.string nm', .int .i64 0, .int .i64 rate, .int .i64 0, .bool lp, .int .i64 f, .int .i64 t, .int .i64 0, .int .i64 0]).alloc (.cells #[.string nm', .int .i64 0, .int .i64 rate, .int .i64 0, .bool lp, .int .i64 f, .int .i64 t, .int .i64 0, .int .i64 0] 23)
    have bw := Blk.new2 w4 (.cells #[.string nm', .int .i64 0, .int .i64 rate, .int .i64 0, .bool lp, .int .i64 f, .int .i64 t, .int .i64 0, .int .i64 0] 23) 23 [.string nm', .int .i64 0, .int .i64 rate, .int .i64 0, .bool lp, .int .i64 f, .int .i64 t, .int .i64 0, .int .i64 0]
    have hW5 : Below w4.heap.size w4 ((w4.alloc (.cells #[.string nm', .int .i64 0, .int .i64 rate, .int .i64 0, .bool lp, .int .i64 f, .int .i64 t, .int .i64 0, .int .i64 0] 23)).alloc (.cells #[.string nm', .int .i64 0, .int .i64 rate, .int .i64 0, .bool lp, .int .i64 f, .int .i64 t, .int .i64 0, .int .i64 0] 23)) := (bnew _ _).alloc (by simp) _
    have hx := gw_blk ((HB4.out.alloc (.cells #[.string nm', .int .i64 0, .int .i64 rate, .int .i64 0, .bool lp, .int .i64 f, .int .i64 t, .int .i64 0, .int .i64 0] 23)).alloc (.cells #[.string nm', .int .i64 0, .int .i64 rate, .int .i64 0, .bool lp, .int .i64 f, .int .i64 t, .int .i64 0, .int .i64 0] 23))
    rw [HR'.out] at hx
    have hxm := gw_blk bm
    have hxw := gw_blk bw
    have HK := Lib.hid (fun x : GW ((w4.alloc (.cells #[.string nm', .int .i64 0, .int .i64 rate, .int .i64 0, .bool lp, .int .i64 f, .int .i64 t, .int .i64 0, .int .i64 0] 23)).alloc (.cells #[.string nm', .int .i64 0, .int .i64 rate, .int .i64 0, .bool lp, .int .i64 f, .int .i64 t, .int .i64 0, .int .i64 0] 23)) => Check_any nm' rate lp f t a' cap' vs' rows' x.1 (Hrow4.out.later (bnext hW5 x.2)) (Hrows4.out.later (bnext hW5 x.2)) (by omega))
    rw [HR'.out, HC.out] at HK
    have HL := Lib.hid (fun x : GW ((w4.alloc (.cells #[.string nm', .int .i64 0, .int .i64 rate, .int .i64 0, .bool lp, .int .i64 f, .int .i64 t, .int .i64 0, .int .i64 0] 23)).alloc (.cells #[.string nm', .int .i64 0, .int .i64 rate, .int .i64 0, .bool lp, .int .i64 f, .int .i64 t, .int .i64 0, .int .i64 0] 23)) => Length_any nm' rate lp f t a' cap' vs' rows' x.1 0 HR'.out (Hrow4.out.later (bnext hW5 x.2)) (Hrows4.out.later (bnext hW5 x.2)))
    rw [HN.out] at HL
    refine wp_region_calm (by kernel_rfl) (by kernel_rfl) ?_
    repeat (go_big_quiet_step (first | (go_at_call 26; exact calm_call (HK.out _)) | (go_at_call 27; exact calm_same (IsName_any _ _)) | (go_at_call 15; exact calm_same (lawname_any _ _ (by omega))) | (go_at_call 28; exact calm_call (HL.out _))))
    refine wpQuiet_nil ?_
    intro w6 hw'
    have hb6 := gw_below hw'
    clear hw' HK HL hx hxm hxw
    have ym := blk_cells (bm.below hb6 (by simp; omega))
    have Hb6 := Lib.hid (bnext hW5 hb6)
    clear bm bw hW5 hb6
    by_cases hC : C = 0
    · have hc : (C != (0 : Int)) = false := by simp [hC]
      have HRt := Lib.hid (HCR.out (HC.out.trans hC))
      rw [HN.out, HR'.out] at HRt
      exfalso
      have h := HRt.out
      simp [MetaV.right] at h
    · have hc : (C != (0 : Int)) = true := by simp [hC]
      clear hC
      go_wp2_with (first | (go_at_call 18; refine (awake14_any _).mono ?_; rintro e w8 ⟨rfl, hb8⟩))
      go_ret
      exact ⟨rfl, Hbw4.out.trans ((Hb6.out.mono Hbw4.out.size).trans (hb8.mono (Nat.le_trans Hbw4.out.size Hb6.out.size)))⟩
  · have hA := fun O => cell_alloc hc0 O
    have h00 : (0 : Int) < (R' : Int) := by omega
    go_wp2_with fail
    have bm := (Blk.new w4 23 [.string nm', .int .i64 N, .int .i64 rate, .int .i64 R', .bool lp, .int .i64 f, .int .i64 t, .int .i64 0, .int .i64 0]).alloc (.cells #[.string nm', .int .i64 N, .int .i64 rate, .int .i64 R', .bool lp, .int .i64 f, .int .i64 t, .int .i64 0, .int .i64 0] 23)
    have bw := Blk.new2 w4 (.cells #[.string nm', .int .i64 N, .int .i64 rate, .int .i64 R', .bool lp, .int .i64 f, .int .i64 t, .int .i64 0, .int .i64 0] 23) 23 [.string nm', .int .i64 N, .int .i64 rate, .int .i64 R', .bool lp, .int .i64 f, .int .i64 t, .int .i64 0, .int .i64 0]
    have hW5 : Below w4.heap.size w4 ((w4.alloc (.cells #[.string nm', .int .i64 N, .int .i64 rate, .int .i64 R', .bool lp, .int .i64 f, .int .i64 t, .int .i64 0, .int .i64 0] 23)).alloc (.cells #[.string nm', .int .i64 N, .int .i64 rate, .int .i64 R', .bool lp, .int .i64 f, .int .i64 t, .int .i64 0, .int .i64 0] 23)) := (bnew _ _).alloc (by simp) _
    have hx := gw_blk ((HB4.out.alloc (.cells #[.string nm', .int .i64 N, .int .i64 rate, .int .i64 R', .bool lp, .int .i64 f, .int .i64 t, .int .i64 0, .int .i64 0] 23)).alloc (.cells #[.string nm', .int .i64 N, .int .i64 rate, .int .i64 R', .bool lp, .int .i64 f, .int .i64 t, .int .i64 0, .int .i64 0] 23))
    rw [HR'.out] at hx
    have hxm := gw_blk bm
    have hxw := gw_blk bw
    have HK := Lib.hid (fun x : GW ((w4.alloc (.cells #[.string nm', .int .i64 N, .int .i64 rate, .int .i64 R', .bool lp, .int .i64 f, .int .i64 t, .int .i64 0, .int .i64 0] 23)).alloc (.cells #[.string nm', .int .i64 N, .int .i64 rate, .int .i64 R', .bool lp, .int .i64 f, .int .i64 t, .int .i64 0, .int .i64 0] 23)) => Check_any nm' rate lp f t (some ⟨b, off, none⟩) cap' vs' rows' x.1 (Hrow4.out.later (bnext hW5 x.2)) (Hrows4.out.later (bnext hW5 x.2)) (by omega))
    rw [HR'.out, HC.out] at HK
    have HL := Lib.hid (fun x : GW ((w4.alloc (.cells #[.string nm', .int .i64 N, .int .i64 rate, .int .i64 R', .bool lp, .int .i64 f, .int .i64 t, .int .i64 0, .int .i64 0] 23)).alloc (.cells #[.string nm', .int .i64 N, .int .i64 rate, .int .i64 R', .bool lp, .int .i64 f, .int .i64 t, .int .i64 0, .int .i64 0] 23)) => Length_any nm' rate lp f t (some ⟨b, off, none⟩) cap' vs' rows' x.1 R' HR'.out (Hrow4.out.later (bnext hW5 x.2)) (Hrows4.out.later (bnext hW5 x.2)))
    rw [HN.out] at HL
    refine wp_region_calm (by kernel_rfl) (by kernel_rfl) ?_
    repeat (go_big_quiet_step (first | (go_at_call 26; exact calm_call (HK.out _)) | (go_at_call 27; exact calm_same (IsName_any _ _)) | (go_at_call 15; exact calm_same (lawname_any _ _ (by omega))) | (go_at_call 28; exact calm_call (HL.out _))))
    refine wpQuiet_nil ?_
    intro w6 hw'
    have hb6 := gw_below hw'
    clear hw' HK HL hx hxm hxw
    have ym := blk_cells (bm.below hb6 (by simp; omega))
    have Hb6 := Lib.hid (bnext hW5 hb6)
    clear bm bw hW5 hb6
    by_cases hC : C = 0
    · have hc : (C != (0 : Int)) = false := by simp [hC]
      have HRt := Lib.hid (HCR.out (HC.out.trans hC))
      rw [HN.out, HR'.out] at HRt
      clear hC
      go_wp2_with (first | (go_at_call 17; refine (RightMeta_any _ _ _ _ _ _ _ _ _ _).mono ?_; rintro e w7 ⟨rfl, hb7⟩; rw [HRt.out]) | (go_at_call 18; refine (awake14_any _).mono ?_; rintro e w8 ⟨rfl, hb8⟩))
      go_ret
      exact ⟨rfl, Hbw4.out.trans ((Hb6.out.mono Hbw4.out.size).trans ((hb7.mono (Nat.le_trans Hbw4.out.size Hb6.out.size)).trans (hb8.mono (Nat.le_trans Hbw4.out.size (Nat.le_trans Hb6.out.size hb7.size)))))⟩
    · have hc : (C != (0 : Int)) = true := by simp [hC]
      clear hC
      go_wp2_with (first | (go_at_call 18; refine (awake14_any _).mono ?_; rintro e w8 ⟨rfl, hb8⟩))
      go_ret
      exact ⟨rfl, Hbw4.out.trans ((Hb6.out.mono Hbw4.out.size).trans (hb8.mono (Nat.le_trans Hbw4.out.size Hb6.out.size)))⟩
theorem WaveChecks_law (W : World) (v0 : Value) (a0 : Arg W (.pair (.str) 1 (.pair (.int .i64) 1 (.pair (.bool) 1 (.pair (.int .i64) 1 (.pair (.int .i64) 1 (.pair (.slice 1 (.slice 1 (.int .i64))) 1 (.unit))))))) v0) :
    Calls Try.prog 5 #[v0] W fun e w' => e = .returned (.bool true) ∧ Below W.heap.size W w' := by
  obtain ⟨cs, rfl, c1, r1, rfl, ⟨nm, rfl, hs⟩, c2, r2, rfl, ⟨rate, rfl, l1, l2⟩, c3, r3, rfl, ⟨lp, rfl⟩, c4, r4, rfl, ⟨f, rfl, l3, l4⟩, c5, r5, rfl, ⟨t, rfl, l5, l6⟩, c6, r6, rfl, hd, rfl⟩ := a0
  obtain ⟨a, cap, vs, rows, rfl, h1, h2, h3, h4, h5⟩ := mat_of_shape hd
  exact WaveChecks_walk nm rate lp f t a cap vs rows W hs h3 h4
end Go.Proofs.Ythlidkdclhibpaa
