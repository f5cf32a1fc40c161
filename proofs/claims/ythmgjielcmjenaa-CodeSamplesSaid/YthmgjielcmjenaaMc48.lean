/- WrD. Conditions: as each theorem states. -/
import Derived.Test.YthmgjielcmjenaaMc32
import Derived.Test.YthmgjielcmjenaaMc47

namespace Go.Proofs.Ythmgjielcmjenaa
open Go.RowKit

theorem RightF.fits {f : FrameV} (h : RightF f) {k : Nat} (hk : k < 16) : fitsZ (bgt f.q k) (bgt f.width (k / 4)).toNat = true := by
  unfold fitsZ
  have := h.q k hk
  exact decide_eq_true (by omega)
theorem gain_ok {g : List Int} (h : g.length = 4 ∧ ∀ i, i < 4 → 0 ≤ bgt g i ∧ bgt g i ≤ 3) : gainOk g = true := by
  unfold gainOk
  rw [List.all_eq_true]
  intro x hx
  obtain ⟨i, hi, rfl⟩ := List.mem_iff_getElem.1 hx
  have := h.2 i (by have := h.1; omega)
  rw [bgt_get (List.getElem?_eq_getElem hi)] at this
  unfold inB
  rw [decide_eq_true this.1, decide_eq_true this.2]; rfl

set_option maxRecDepth 100000 in
set_option maxHeartbeats 8000000 in
theorem Right_ok (f : FrameV) (A : Option Addr) (c : Nat) (w : World) (h : RightF f) (hr : Row w w.heap.size A (toneCells f.tones)) :
    Calls Try.prog 45 #[.agg (frameA f (.slice A f.tones.length c))] w fun e w' => e = .returned (.bool true) ∧ Below w.heap.size w w' := by
  have HG := Lib.hid (fun W => gainRight_any f.gains W h.gains.1)
  rw [gain_ok h.gains] at HG
  have HT := Lib.hid (fun W (hW : Below w.heap.size w W) => rightTones_ok f.tones A c W (hr.later hW) ⟨h.tidx, h.tinc⟩ h.tlen)
  have HS := Lib.hid (fun W => scalesRight_any f.scale W h.scale.1)
  rw [h.scale.ok] at HS
  have HL := h.len
  have Hfit := Lib.hid (fun k (hk : k < 16) => h.fits hk)
  have Hwd := Lib.hid h.width
  have HPa := Lib.hid (fun (W : World) (g : Nat) hg => frame_parts (w := W) (g := g) HL (tv := .slice A f.tones.length c) hg)
  have hgl : (f.gains.map (Value.int .i64)).length = 4 := by simp [HL.g]
  have hsl : (f.scale.map (Value.int .i64)).length = 4 := by simp [HL.s]
  have hwl : (f.width.map (Value.int .i64)).length = 4 := by simp [HL.w]
  obtain ⟨gg, ts, sc, wd, q⟩ := f
  simp only at *
  have Hql := Lib.hid HL.q
  have Hwl := Lib.hid HL.w
  simp only at Hql Hwl
  have HCw := Lib.hid (fun (k : Nat) (x : Int) (h : wd[k]? = some x) => blk_get h)
  have HCq := Lib.hid (fun (k : Nat) (x : Int) (h : q[k]? = some x) => (show (q.map (Value.int .i64))[k]? = some (.int .i64 x) by rw [List.getElem?_map, h]; rfl))
  generalize ts.length = n at *
  generalize frameA ⟨gg, ts, sc, wd, q⟩ (.slice A n c) = fc at *
  unfold blockV at *
  generalize hgv : gg.map (Value.int .i64) = gv at *
  generalize hsv : sc.map (Value.int .i64) = sv at *
  generalize hwv : wd.map (Value.int .i64) = wv at *
  generalize hqv : q.map (Value.int .i64) = qv at *
  have HFg := Lib.hid (show (Try.prog.info? 91).map (·.size) = some gv.length by rw [hgl]; exact inf_four)
  have HFs := Lib.hid (show (Try.prog.info? 91).map (·.size) = some sv.length by rw [hsl]; exact inf_four)
  have HFw := Lib.hid (show (Try.prog.info? 91).map (·.size) = some wv.length by rw [hwl]; exact inf_four)
  have HM := Lib.hid (heap_alloc_new w (.cells fc 96))
  have P := HPa.out _ _ HM.out
  have P0 := Lib.hid P.1
  have P3 := P.2.1
  have HB0 := Lib.hid (bnew w (.cells fc 96))
  clear P hr h hgv hsv hwv hqv hgl hsl hwl HL
  go_enter Try.func45, Try.ntmps45
  go_wp2_with (first | (go_at_call 86; fail) | (refine wpList_load_part_w rfl 91 (.tmp 7) rfl w.heap.size 0 rfl gv _ P0.out Try.underlying91 rfl HFg.out ?_))
  refine (HG.out _).mono ?_
  rintro e w1 ⟨rfl, hb1⟩
  have HM1 := Lib.hid (hkeep HM.out hb1)
  have HB1 := Lib.hid (bnext HB0.out hb1)
  have Q := HPa.out _ _ HM1.out
  have p3 := Q.2.1
  clear Q hb1 P3 P0 HM HB0
  go_wp2_with (go_at_call 87; fail)
  refine (HT.out _ HB1.out).mono ?_
  rintro e w2 ⟨rfl, hb2⟩
  have HM2 := Lib.hid (hkeep HM1.out hb2)
  have HB2 := Lib.hid (bnext HB1.out hb2)
  have Q := HPa.out _ _ HM2.out
  have Q2 := Lib.hid Q.2.2.1
  clear Q hb2 p3 HM1 HB1
  go_wp2_with (first | (go_at_call 88; fail) | (refine wpList_load_part_w rfl 91 (.tmp 18) rfl w.heap.size 5 rfl sv _ Q2.out Try.underlying91 rfl HFs.out ?_))
  refine (HS.out _).mono ?_
  rintro e w3 ⟨rfl, hb3⟩
  have HM3 := Lib.hid (hkeep HM2.out hb3)
  have HB3 := Lib.hid (bnext HB2.out hb3)
  have Q := HPa.out _ _ HM3.out
  have Q3 := Lib.hid Q.2.2.2.1
  have Q4 := Lib.hid Q.2.2.2.2
  clear Q hb3 HM2 HB2
  go_wp2_with (refine wpList_load_part_w rfl 91 (.tmp 23) rfl w.heap.size 9 rfl wv _ Q3.out Try.underlying91 rfl HFw.out ?_)
  go_loop [25] (fun i => ∃ m : Nat, m ≤ 4 ∧ i = .int .i64 m) (fun i => 4 - (intOf i).toNat)
  case atStart => exact ⟨0, by omega, rfl⟩
  case round =>
    obtain ⟨m, hm, rfl⟩ := hrel
    by_cases hlk : m < 4
    · have t1 : (m : Int) < 4 := by omega
      obtain ⟨x, hx⟩ := list_get (k := m) Hwl.out hlk
      have hxb := Hwd.out m hlk
      rw [bgt_get hx] at hxb
      obtain ⟨W, rfl⟩ := Int.eq_ofNat_of_zero_le hxb.1
      have hW24 : W ≤ 24 := by omega
      have Hx := Lib.hid (bgt_get hx)
      have hix := run_index_arr (P := Try.prog) Try.underlying91 hlk (fun W => by kernel_rfl) (fun W => by kernel_rfl) (HCw.out _ _ hx)
      have t2 : decide ((W : Int) < 0) = false := decide_eq_false (by omega)
      have t3 : decide ((24 : Int) < (W : Int)) = false := decide_eq_false (by omega)
      have hsl := slice_block w.heap.size 13 ((m : Int) * 4) (((m : Int) + 1) * 4) (m * 4) (m * 4 + 4) (by omega) (by omega) (by omega) (by omega) (by omega)
      rw [show m * 4 + 4 - m * 4 = 4 by omega] at hsl
      clear hx hxb
      go_wp2
      go_loop [43] (fun i => ∃ k : Nat, k ≤ 4 ∧ i = .int .i64 k) (fun i => 4 - (intOf i).toNat)
      case atStart => exact ⟨0, by omega, rfl⟩
      case round =>
        obtain ⟨k, hk, rfl⟩ := hrel
        by_cases hkk : k < 4
        · have t4 : (k : Int) < 4 := by omega
          obtain ⟨y, hy⟩ := list_get (k := m * 4 + k) Hql.out (by omega)
          have ce := Q4.out _ _ (HCq.out _ _ hy)
          rw [← Nat.add_assoc] at ce
          have hft := Hfit.out (m * 4 + k) (by omega)
          rw [bgt_get hy, show (m * 4 + k) / 4 = m by omega, Hx.out, Int.toNat_natCast] at hft
          have HF := Lib.hid (fun V => Fits_any y W V (by omega))
          rw [hft] at HF
          clear hy hft
          go_wp2_with (go_at_call 89; refine (HF.out _).mono ?_; rintro e w5 ⟨rfl, rfl⟩)
          go_round
          case rel => exact ⟨k + 1, by omega, by go_num⟩
          case measure => simp [intOf]; omega
        · have hk4 : k = 4 := by omega
          subst hk4
          have t4 : ¬ (((4 : Nat) : Int) < 4) := by omega
          go_wp2
          go_round
          case rel => exact ⟨m + 1, by omega, by go_num⟩
          case measure => simp [intOf]; omega
    · have hm4 : m = 4 := by omega
      subst hm4
      have t1 : ¬ (((4 : Nat) : Int) < 4) := by omega
      go_wp2
      go_ret
      exact ⟨rfl, HB3.out⟩
end Go.Proofs.Ythmgjielcmjenaa
