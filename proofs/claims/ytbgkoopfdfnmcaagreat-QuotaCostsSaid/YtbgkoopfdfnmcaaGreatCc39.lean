/- WrC, WrD. Conditions: as each theorem states. -/
import Derived.Test.YtbgkoopfdfnmcaaGreatCc25
import Derived.Test.YtbgkoopfdfnmcaaGreatCc38

namespace Go.Proofs.YtbgkoopfdfnmcaaGreat
open Go.RowKit

/-- tones that may be, as far as the first so many -/
def TonesR (ts : List ToneV) : Prop := (∀ t ∈ ts, 0 ≤ t.idx ∧ t.idx < 16 ∧ -8388608 ≤ t.val ∧ t.val < 8388608) ∧ ts.Pairwise fun x y => x.idx < y.idx
theorem fits_24 {v : Int} (h1 : -8388608 ≤ v) (h2 : v < 8388608) : fitsZ v 24 = true := by
  rw [fits_succ, decide_eq_true (show -(2 ^ 23) ≤ v by omega), decide_eq_true (show v < 2 ^ 23 by omega)]; rfl

set_option maxRecDepth 100000 in
set_option maxHeartbeats 4000000 in
theorem rightTones_ok (ts : List ToneV) (A : Option Addr) (c : Nat) (w : World) (hr : Row w w.heap.size A (toneCells ts)) (ht : TonesR ts) (hl : ts.length ≤ 2) :
    Calls Tryz.prog 142 #[.slice A ts.length c] w fun e w' => e = .returned (.bool true) ∧ Below w.heap.size w w' := by
  obtain ⟨n, hn⟩ : ∃ n, ts.length = n := ⟨_, rfl⟩
  have Hr := Lib.hid hr
  have Hti := Lib.hid ht.1
  have Hinc := Lib.hid ht.2
  rw [hn] at hl ⊢
  have Hn := Lib.hid hn
  clear hr ht hn
  go_enter Tryz.func142, Tryz.ntmps142
  go_wp2
  go_loopw [7] (fun i wr => ∃ m : Nat, m ≤ n ∧ i = .int .i64 m ∧ Below w.heap.size w wr) (fun i _ => n - (intOf i).toNat)
  case atStart => exact ⟨0, by omega, rfl, Below.refl _ _⟩
  case round =>
    obtain ⟨m, hm, rfl, hbel⟩ := hrel
    have Hbel := Lib.hid hbel
    clear hbel
    by_cases hlk : m < n
    · obtain ⟨t, ht⟩ := list_get (k := m) Hn.out hlk
      have htv := Hti.out t (List.mem_of_getElem? ht)
      obtain ⟨g, off, hA, hg, k0, k1⟩ := tone_row Hr.out ht
      have c0 := (Hbel.out.cell (p := ⟨g, off + m * 2, none⟩) hg).trans k0
      have c1 := (Hbel.out.cell (p := ⟨g, off + m * 2 + 1, none⟩) hg).trans k1
      have HP := Lib.hid (fun (j : Nat) (u : ToneV) (hj : m = j + 1) (hu : ts[j]? = some u) => (show u.idx < t.idx by
        obtain ⟨h1, e1⟩ := List.getElem?_eq_some_iff.1 hu
        obtain ⟨h2, e2⟩ := List.getElem?_eq_some_iff.1 ht
        have := List.pairwise_iff_getElem.1 Hinc.out j m h1 h2 (by omega)
        rwa [e1, e2] at this))
      subst hA
      have HRow := Lib.hid (fun (j : Nat) (u : ToneV) (hu : ts[j]? = some u) => (show ∃ b o, some (⟨g, off, none⟩ : Addr) = some ⟨b, o, none⟩ ∧ b < w.heap.size ∧ w.cell? ⟨b, o + j * 2, none⟩ = some (.int .i64 u.idx) ∧ w.cell? ⟨b, o + j * 2 + 1, none⟩ = some (.int .i64 u.val) from tone_row Hr.out hu))
      obtain ⟨ix, vl⟩ := t
      obtain ⟨v1, v2, v3, v4⟩ := htv
      simp only at c0 c1 v1 v2 v3 v4 HP
      clear ht k0 k1
      have HF := Lib.hid (show ∀ W, Calls Tryz.prog 143 #[.int .i64 vl, .int .i64 24] W fun e w' => e = .returned (.bool true) ∧ W = w' from fun W => (Fits_any vl 24 W (by omega)).mono fun e w' ⟨he, hw⟩ => ⟨by rw [he, fits_24 v3 v4], hw⟩)
      have t1 : (m : Int) < (n : Int) := by omega
      have t2 : decide (ix < 0) = false := decide_eq_false (by omega)
      have t3 : decide ((16 : Int) ≤ ix) = false := decide_eq_false (by omega)
      have hN1 := Blk.new wr 118 [.int .i64 ix, .int .i64 vl]
      have hy5 := gw_blk hN1
      have HB2 := Lib.hid (bnext Hbel.out (bnew wr (.cells #[.int .i64 ix, .int .i64 vl] 118)))
      by_cases hm0 : 0 < m
      · obtain ⟨j, rfl⟩ : ∃ j, m = j + 1 := ⟨m - 1, by omega⟩
        obtain ⟨u, hu⟩ := list_get (k := j) Hn.out (by omega)
        have hlt2 := HP.out j u rfl hu
        obtain ⟨b, o, hA, hb, k0, k1⟩ := HRow.out j u hu
        injection hA with hA
        injection hA with e1 e2
        subst e1 e2
        have hk := fun (x : GW (wr.alloc (.cells #[.int .i64 ix, .int .i64 vl] 118))) => (show x.1.cell? ⟨g, off + j * 2, none⟩ = some (.int .i64 u.idx) from (HB2.out.trans (x.2.mono HB2.out.size)).cell (p := ⟨g, off + j * 2, none⟩) hb |>.trans k0)
        obtain ⟨ui, uv⟩ := u
        simp only at hk hlt2
        have t4 : decide ((0 : Int) < ((j + 1 : Nat) : Int)) = true := decide_eq_true (by omega)
        have t5 : decide (ix ≤ ui) = false := decide_eq_false (by omega)
        have t6 : ((j + 1 : Nat) : Int) - 1 = (j : Int) := by omega
        have t7 : (j : Int) < (n : Int) := by omega
        have t8 : (0 : Int) ≤ (j : Int) := by omega
        have t9 : (0 : Int) < (j : Int) + 1 := by omega
        clear hu k0 k1 hm0
        go_wp2_with fail
        refine wp_region_calm (by kernel_rfl) (by kernel_rfl) ?_
        repeat (go_big_quiet_step ((go_at_call 143; exact calm_same (HF.out _))))
        refine wpQuiet_nil ?_
        intro w5 hw'
        have hb5 := gw_below hw'
        have HB5 := Lib.hid (bnext HB2.out hb5)
        clear hw' hb5 hy5 hk
        go_wp2
        go_roundw
        case rel => exact ⟨j + 1 + 1, by omega, by go_num, HB5.out⟩
        case measure => simp [intOf]; omega
      · have hm00 : m = 0 := by omega
        subst hm00
        simp only [Nat.zero_mul, Nat.add_zero] at c0 c1
        have t4 : decide ((0 : Int) < ((0 : Nat) : Int)) = false := decide_eq_false (by omega)
        clear hm0
        go_wp2_with fail
        refine wp_region_calm (by kernel_rfl) (by kernel_rfl) ?_
        repeat (go_big_quiet_step ((go_at_call 143; exact calm_same (HF.out _))))
        refine wpQuiet_nil ?_
        intro w5 hw'
        have hb5 := gw_below hw'
        have HB5 := Lib.hid (bnext HB2.out hb5)
        clear hw' hb5 hy5
        go_wp2
        go_roundw
        case rel => exact ⟨0 + 1, by omega, by go_num, HB5.out⟩
        case measure => simp [intOf]; omega
    · have hmn : m = n := by omega
      subst hmn
      have t1 : ¬ ((m : Int) < (m : Int)) := by omega
      have t2 : decide ((m : Int) ≤ 2) = true := decide_eq_true (by omega)
      go_wp2
      go_ret
      exact ⟨rfl, Hbel.out⟩
end Go.Proofs.YtbgkoopfdfnmcaaGreat

namespace Go.Proofs.YtbgkoopfdfnmcaaGreat
open Go.RowKit

theorem RightF.fits {f : FrameV} (h : RightF f) {k : Nat} (hk : k < 16) : fitsZ (bgt f.q k) (bgt f.width (k / 4)).toNat = true := by
  unfold fitsZ
  have := h.q k hk
  exact decide_eq_true (by omega)
theorem gain_ok {g : List Int} (h : g.length = 4 ∧ ∀ i, i < 4 → 0 ≤ bgt g i ∧ bgt g i ≤ 3) : gainOk g = true := by
  unfold gainOk
  rw [List.all_eq_true]
  intro x hx
  obtain ⟨i, hi, rfl⟩ := List.mem_iff_getElem.1 hx
  have := h.2 i (by have := h.1; omega)
  rw [bgt_get (List.getElem?_eq_getElem hi)] at this
  unfold inB
  rw [decide_eq_true this.1, decide_eq_true this.2]; rfl

set_option maxRecDepth 100000 in
set_option maxHeartbeats 8000000 in
theorem Right_ok (f : FrameV) (A : Option Addr) (c : Nat) (w : World) (h : RightF f) (hr : Row w w.heap.size A (toneCells f.tones)) :
    Calls Tryz.prog 127 #[.agg (frameA f (.slice A f.tones.length c))] w fun e w' => e = .returned (.bool true) ∧ Below w.heap.size w w' := by
  have HG := Lib.hid (fun W => gainRight_any f.gains W h.gains.1)
  rw [gain_ok h.gains] at HG
  have HT := Lib.hid (fun W (hW : Below w.heap.size w W) => rightTones_ok f.tones A c W (hr.later hW) ⟨h.tidx, h.tinc⟩ h.tlen)
  have HS := Lib.hid (fun W => scalesRight_any f.scale W h.scale.1)
  rw [h.scale.ok] at HS
  have HL := h.len
  have Hfit := Lib.hid (fun k (hk : k < 16) => h.fits hk)
  have Hwd := Lib.hid h.width
  have HPa := Lib.hid (fun (W : World) (g : Nat) hg => frame_parts (w := W) (g := g) HL (tv := .slice A f.tones.length c) hg)
  have hgl : (f.gains.map (Value.int .i64)).length = 4 := by simp [HL.g]
  have hsl : (f.scale.map (Value.int .i64)).length = 4 := by simp [HL.s]
  have hwl : (f.width.map (Value.int .i64)).length = 4 := by simp [HL.w]
  obtain ⟨gg, ts, sc, wd, q⟩ := f
  simp only at *
  have Hql := Lib.hid HL.q
  have Hwl := Lib.hid HL.w
  simp only at Hql Hwl
  have HCw := Lib.hid (fun (k : Nat) (x : Int) (h : wd[k]? = some x) => blk_get h)
  have HCq := Lib.hid (fun (k : Nat) (x : Int) (h : q[k]? = some x) => (show (q.map (Value.int .i64))[k]? = some (.int .i64 x) by rw [List.getElem?_map, h]; rfl))
  generalize ts.length = n at *
  generalize frameA ⟨gg, ts, sc, wd, q⟩ (.slice A n c) = fc at *
  unfold blockV at *
  generalize hgv : gg.map (Value.int .i64) = gv at *
  generalize hsv : sc.map (Value.int .i64) = sv at *
  generalize hwv : wd.map (Value.int .i64) = wv at *
  generalize hqv : q.map (Value.int .i64) = qv at *
  have HFg := Lib.hid (show (Tryz.prog.info? 75).map (·.size) = some gv.length by rw [hgl]; exact inf_four)
  have HFs := Lib.hid (show (Tryz.prog.info? 75).map (·.size) = some sv.length by rw [hsl]; exact inf_four)
  have HFw := Lib.hid (show (Tryz.prog.info? 75).map (·.size) = some wv.length by rw [hwl]; exact inf_four)
  have HM := Lib.hid (heap_alloc_new w (.cells fc 78))
  have P := HPa.out _ _ HM.out
  have P0 := Lib.hid P.1
  have P3 := P.2.1
  have HB0 := Lib.hid (bnew w (.cells fc 78))
  clear P hr h hgv hsv hwv hqv hgl hsl hwl HL
  go_enter Tryz.func127, Tryz.ntmps127
  go_wp2_with (first | (go_at_call 100; fail) | (refine wpList_load_part_w rfl 75 (.tmp 7) rfl w.heap.size 0 rfl gv _ P0.out Tryz.underlying75 rfl HFg.out ?_))
  refine (HG.out _).mono ?_
  rintro e w1 ⟨rfl, hb1⟩
  have HM1 := Lib.hid (hkeep HM.out hb1)
  have HB1 := Lib.hid (bnext HB0.out hb1)
  have Q := HPa.out _ _ HM1.out
  have p3 := Q.2.1
  clear Q hb1 P3 P0 HM HB0
  go_wp2_with (go_at_call 142; fail)
  refine (HT.out _ HB1.out).mono ?_
  rintro e w2 ⟨rfl, hb2⟩
  have HM2 := Lib.hid (hkeep HM1.out hb2)
  have HB2 := Lib.hid (bnext HB1.out hb2)
  have Q := HPa.out _ _ HM2.out
  have Q2 := Lib.hid Q.2.2.1
  clear Q hb2 p3 HM1 HB1
  go_wp2_with (first | (go_at_call 88; fail) | (refine wpList_load_part_w rfl 75 (.tmp 18) rfl w.heap.size 5 rfl sv _ Q2.out Tryz.underlying75 rfl HFs.out ?_))
  refine (HS.out _).mono ?_
  rintro e w3 ⟨rfl, hb3⟩
  have HM3 := Lib.hid (hkeep HM2.out hb3)
  have HB3 := Lib.hid (bnext HB2.out hb3)
  have Q := HPa.out _ _ HM3.out
  have Q3 := Lib.hid Q.2.2.2.1
  have Q4 := Lib.hid Q.2.2.2.2
  clear Q hb3 HM2 HB2
  go_wp2_with (refine wpList_load_part_w rfl 75 (.tmp 23) rfl w.heap.size 9 rfl wv _ Q3.out Tryz.underlying75 rfl HFw.out ?_)
  go_loop [25] (fun i => ∃ m : Nat, m ≤ 4 ∧ i = .int .i64 m) (fun i => 4 - (intOf i).toNat)
  case atStart => exact ⟨0, by omega, rfl⟩
  case round =>
    obtain ⟨m, hm, rfl⟩ := hrel
    by_cases hlk : m < 4
    · have t1 : (m : Int) < 4 := by omega
      obtain ⟨x, hx⟩ := list_get (k := m) Hwl.out hlk
      have hxb := Hwd.out m hlk
      rw [bgt_get hx] at hxb
      obtain ⟨W, rfl⟩ := Int.eq_ofNat_of_zero_le hxb.1
      have hW24 : W ≤ 24 := by omega
      have Hx := Lib.hid (bgt_get hx)
      have hix := run_index_arr (P := Tryz.prog) Tryz.underlying75 hlk (fun W => by kernel_rfl) (fun W => by kernel_rfl) (HCw.out _ _ hx)
      have t2 : decide ((W : Int) < 0) = false := decide_eq_false (by omega)
      have t3 : decide ((24 : Int) < (W : Int)) = false := decide_eq_false (by omega)
      have hsl := slice_block w.heap.size 13 ((m : Int) * 4) (((m : Int) + 1) * 4) (m * 4) (m * 4 + 4) (by omega) (by omega) (by omega) (by omega) (by omega)
      rw [show m * 4 + 4 - m * 4 = 4 by omega] at hsl
      clear hx hxb
      go_wp2
      go_loop [43] (fun i => ∃ k : Nat, k ≤ 4 ∧ i = .int .i64 k) (fun i => 4 - (intOf i).toNat)
      case atStart => exact ⟨0, by omega, rfl⟩
      case round =>
        obtain ⟨k, hk, rfl⟩ := hrel
        by_cases hkk : k < 4
        · have t4 : (k : Int) < 4 := by omega
          obtain ⟨y, hy⟩ := list_get (k := m * 4 + k) Hql.out (by omega)
          have ce := Q4.out _ _ (HCq.out _ _ hy)
          rw [← Nat.add_assoc] at ce
          have hft := Hfit.out (m * 4 + k) (by omega)
          rw [bgt_get hy, show (m * 4 + k) / 4 = m by omega, Hx.out, Int.toNat_natCast] at hft
          have HF := Lib.hid (fun V => Fits_any y W V (by omega))
          rw [hft] at HF
          clear hy hft
          go_wp2_with (go_at_call 143; refine (HF.out _).mono ?_; rintro e w5 ⟨rfl, rfl⟩)
          go_round
          case rel => exact ⟨k + 1, by omega, by go_num⟩
          case measure => simp [intOf]; omega
        · have hk4 : k = 4 := by omega
          subst hk4
          have t4 : ¬ (((4 : Nat) : Int) < 4) := by omega
          go_wp2
          go_round
          case rel => exact ⟨m + 1, by omega, by go_num⟩
          case measure => simp [intOf]; omega
    · have hm4 : m = 4 := by omega
      subst hm4
      have t1 : ¬ (((4 : Nat) : Int) < 4) := by omega
      go_wp2
      go_ret
      exact ⟨rfl, HB3.out⟩
end Go.Proofs.YtbgkoopfdfnmcaaGreat
