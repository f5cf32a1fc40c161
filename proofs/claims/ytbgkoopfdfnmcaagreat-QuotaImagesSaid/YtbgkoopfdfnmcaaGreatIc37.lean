/- WrD, WrE. Conditions: as each theorem states. -/
import Derived.Test.YtbgkoopfdfnmcaaGreatIc24
import Derived.Test.YtbgkoopfdfnmcaaGreatIc36

namespace Go.Proofs.YtbgkoopfdfnmcaaGreat
open Go.RowKit

theorem RightF.fits {f : FrameV} (h : RightF f) {k : Nat} (hk : k < 16) : fitsZ (bgt f.q k) (bgt f.width (k / 4)).toNat = true := by
  unfold fitsZ
  have := h.q k hk
  exact decide_eq_true (by omega)
theorem gain_ok {g : List Int} (h : g.length = 4 ∧ ∀ i, i < 4 → 0 ≤ bgt g i ∧ bgt g i ≤ 3) : gainOk g = true := by
  unfold gainOk
  rw [List.all_eq_true]
  intro x hx
  obtain ⟨i, hi, rfl⟩ := List.mem_iff_getElem.1 hx
  have := h.2 i (by have := h.1; omega)
  rw [bgt_get (List.getElem?_eq_getElem hi)] at this
  unfold inB
  rw [decide_eq_true this.1, decide_eq_true this.2]; rfl

set_option maxRecDepth 100000 in
set_option maxHeartbeats 8000000 in
theorem Right_ok (f : FrameV) (A : Option Addr) (c : Nat) (w : World) (h : RightF f) (hr : Row w w.heap.size A (toneCells f.tones)) :
    Calls Tryz.prog 127 #[.agg (frameA f (.slice A f.tones.length c))] w fun e w' => e = .returned (.bool true) ∧ Below w.heap.size w w' := by
  have HG := Lib.hid (fun W => gainRight_any f.gains W h.gains.1)
  rw [gain_ok h.gains] at HG
  have HT := Lib.hid (fun W (hW : Below w.heap.size w W) => rightTones_ok f.tones A c W (hr.later hW) ⟨h.tidx, h.tinc⟩ h.tlen)
  have HS := Lib.hid (fun W => scalesRight_any f.scale W h.scale.1)
  rw [h.scale.ok] at HS
  have HL := h.len
  have Hfit := Lib.hid (fun k (hk : k < 16) => h.fits hk)
  have Hwd := Lib.hid h.width
  have HPa := Lib.hid (fun (W : World) (g : Nat) hg => frame_parts (w := W) (g := g) HL (tv := .slice A f.tones.length c) hg)
  have hgl : (f.gains.map (Value.int .i64)).length = 4 := by simp [HL.g]
  have hsl : (f.scale.map (Value.int .i64)).length = 4 := by simp [HL.s]
  have hwl : (f.width.map (Value.int .i64)).length = 4 := by simp [HL.w]
  obtain ⟨gg, ts, sc, wd, q⟩ := f
  simp only at *
  have Hql := Lib.hid HL.q
  have Hwl := Lib.hid HL.w
  simp only at Hql Hwl
  have HCw := Lib.hid (fun (k : Nat) (x : Int) (h : wd[k]? = some x) => blk_get h)
  have HCq := Lib.hid (fun (k : Nat) (x : Int) (h : q[k]? = some x) => (show (q.map (Value.int .i64))[k]? = some (.int .i64 x) by rw [List.getElem?_map, h]; rfl))
  generalize ts.length = n at *
  generalize frameA ⟨gg, ts, sc, wd, q⟩ (.slice A n c) = fc at *
  unfold blockV at *
  generalize hgv : gg.map (Value.int .i64) = gv at *
  generalize hsv : sc.map (Value.int .i64) = sv at *
  generalize hwv : wd.map (Value.int .i64) = wv at *
  generalize hqv : q.map (Value.int .i64) = qv at *
  have HFg := Lib.hid (show (Tryz.prog.info? 75).map (·.size) = some gv.length by rw [hgl]; exact inf_four)
  have HFs := Lib.hid (show (Tryz.prog.info? 75).map (·.size) = some sv.length by rw [hsl]; exact inf_four)
  have HFw := Lib.hid (show (Tryz.prog.info? 75).map (·.size) = some wv.length by rw [hwl]; exact inf_four)
  have HM := Lib.hid (heap_alloc_new w (.cells fc 78))
  have P := HPa.out _ _ HM.out
  have P0 := Lib.hid P.1
  have P3 := P.2.1
  have HB0 := Lib.hid (bnew w (.cells fc 78))
  clear P hr h hgv hsv hwv hqv hgl hsl hwl HL
  go_enter Tryz.func127, Tryz.ntmps127
  go_wp2_with (first | (go_at_call 100; fail) | (refine wpList_load_part_w rfl 75 (.tmp 7) rfl w.heap.size 0 rfl gv _ P0.out Tryz.underlying75 rfl HFg.out ?_))
  refine (HG.out _).mono ?_
  rintro e w1 ⟨rfl, hb1⟩
  have HM1 := Lib.hid (hkeep HM.out hb1)
  have HB1 := Lib.hid (bnext HB0.out hb1)
  have Q := HPa.out _ _ HM1.out
  have p3 := Q.2.1
  clear Q hb1 P3 P0 HM HB0
  go_wp2_with (go_at_call 142; fail)
  refine (HT.out _ HB1.out).mono ?_
  rintro e w2 ⟨rfl, hb2⟩
  have HM2 := Lib.hid (hkeep HM1.out hb2)
  have HB2 := Lib.hid (bnext HB1.out hb2)
  have Q := HPa.out _ _ HM2.out
  have Q2 := Lib.hid Q.2.2.1
  clear Q hb2 p3 HM1 HB1
  go_wp2_with (first | (go_at_call 88; fail) | (refine wpList_load_part_w rfl 75 (.tmp 18) rfl w.heap.size 5 rfl sv _ Q2.out Tryz.underlying75 rfl HFs.out ?_))
  refine (HS.out _).mono ?_
  rintro e w3 ⟨rfl, hb3⟩
  have HM3 := Lib.hid (hkeep HM2.out hb3)
  have HB3 := Lib.hid (bnext HB2.out hb3)
  have Q := HPa.out _ _ HM3.out
  have Q3 := Lib.hid Q.2.2.2.1
  have Q4 := Lib.hid Q.2.2.2.2
  clear Q hb3 HM2 HB2
  go_wp2_with (refine wpList_load_part_w rfl 75 (.tmp 23) rfl w.heap.size 9 rfl wv _ Q3.out Tryz.underlying75 rfl HFw.out ?_)
  go_loop [25] (fun i => ∃ m : Nat, m ≤ 4 ∧ i = .int .i64 m) (fun i => 4 - (intOf i).toNat)
  case atStart => exact ⟨0, by omega, rfl⟩
  case round =>
    obtain ⟨m, hm, rfl⟩ := hrel
    by_cases hlk : m < 4
    · have t1 : (m : Int) < 4 := by omega
      obtain ⟨x, hx⟩ := list_get (k := m) Hwl.out hlk
      have hxb := Hwd.out m hlk
      rw [bgt_get hx] at hxb
      obtain ⟨W, rfl⟩ := Int.eq_ofNat_of_zero_le hxb.1
      have hW24 : W ≤ 24 := by omega
      have Hx := Lib.hid (bgt_get hx)
      have hix := run_index_arr (P := Tryz.prog) Tryz.underlying75 hlk (fun W => by kernel_rfl) (fun W => by kernel_rfl) (HCw.out _ _ hx)
      have t2 : decide ((W : Int) < 0) = false := decide_eq_false (by omega)
      have t3 : decide ((24 : Int) < (W : Int)) = false := decide_eq_false (by omega)
      have hsl := slice_block w.heap.size 13 ((m : Int) * 4) (((m : Int) + 1) * 4) (m * 4) (m * 4 + 4) (by omega) (by omega) (by omega) (by omega) (by omega)
      rw [show m * 4 + 4 - m * 4 = 4 by omega] at hsl
      clear hx hxb
      go_wp2
      go_loop [43] (fun i => ∃ k : Nat, k ≤ 4 ∧ i = .int .i64 k) (fun i => 4 - (intOf i).toNat)
      case atStart => exact ⟨0, by omega, rfl⟩
      case round =>
        obtain ⟨k, hk, rfl⟩ := hrel
        by_cases hkk : k < 4
        · have t4 : (k : Int) < 4 := by omega
          obtain ⟨y, hy⟩ := list_get (k := m * 4 + k) Hql.out (by omega)
          have ce := Q4.out _ _ (HCq.out _ _ hy)
          rw [← Nat.add_assoc] at ce
          have hft := Hfit.out (m * 4 + k) (by omega)
          rw [bgt_get hy, show (m * 4 + k) / 4 = m by omega, Hx.out, Int.toNat_natCast] at hft
          have HF := Lib.hid (fun V => Fits_any y W V (by omega))
          rw [hft] at HF
          clear hy hft
          go_wp2_with (go_at_call 143; refine (HF.out _).mono ?_; rintro e w5 ⟨rfl, rfl⟩)
          go_round
          case rel => exact ⟨k + 1, by omega, by go_num⟩
          case measure => simp [intOf]; omega
        · have hk4 : k = 4 := by omega
          subst hk4
          have t4 : ¬ (((4 : Nat) : Int) < 4) := by omega
          go_wp2
          go_round
          case rel => exact ⟨m + 1, by omega, by go_num⟩
          case measure => simp [intOf]; omega
    · have hm4 : m = 4 := by omega
      subst hm4
      have t1 : ¬ (((4 : Nat) : Int) < 4) := by omega
      go_wp2
      go_ret
      exact ⟨rfl, HB3.out⟩
end Go.Proofs.YtbgkoopfdfnmcaaGreat

namespace Go.Proofs.YtbgkoopfdfnmcaaGreat
open Go.RowKit

def frameBytes (f : FrameV) (size : Nat) : List Nat := packN (frameB f) ++ List.replicate (size - ((frameB f).length + 7) / 8) 0
/-- bytes handed back -/
def BytesPost (W : World) (f : FrameV) (size : Nat) (e : Ending) (w' : World) : Prop :=
  ∃ g, e = .returned (.tuple #[.slice (some ⟨g, 0, none⟩) size size, .int .i64 0]) ∧ W.heap.size ≤ g ∧ w'.heap[g]? = some (.cells (u8s (frameBytes f size)).toArray 5 (0, 0)) ∧ Below W.heap.size W w'
theorem u64_small {n : Nat} (h : n < 1000000) : IntKind.u64.wrap (n : Int) = (n : Int) := by rw [IntKind.wrap_u64]; omega
theorem WrAt.alloc {W : World} {g : Nat} {L : List Nat} (h : WrAt W g L) (o : Obj) : WrAt (W.alloc o) g L := by
  obtain ⟨h1, v, h2, h3⟩ := h
  exact ⟨h1, v, (heap_alloc_old _ _ (hlt h2)).trans h2, h3.alloc o⟩
theorem WrAt.later {W W' : World} {g : Nat} {L : List Nat} (h : WrAt W g L) (hb : Below W.heap.size W W') : WrAt W' g L := by
  obtain ⟨h1, v, h2, h3⟩ := h
  exact ⟨h1, v, hkeep h2 hb, own_later h3 hb⟩
theorem WrAt.new (W : World) : WrAt (W.alloc (.cells #[.slice none 0 0, .int .i64 0, .int .i64 0] 191)) W.heap.size [] :=
  ⟨fun b hb => by simp at hb, .slice none 0 0, heap_alloc_new W _, World.ownsRow_nil _ _ _ _⟩
theorem hlow {w w' : World} {g B : Nat} {o : Obj} (h : w.heap[g]? = some o) (hb : Below B w w') (hg : g < B) : w'.heap[g]? = some o := (hb.block g hg).trans h

set_option maxRecDepth 100000 in
set_option maxHeartbeats 16000000 in
theorem FBytes_ok (f : FrameV) (A : Option Addr) (c size : Nat) (w : World) (h : RightF f) (hr : Row w w.heap.size A (toneCells f.tones)) (hsz : bitsZ f ≤ 8 * (size : Int)) (hs1 : size ≤ 10000) :
    Calls Tryz.prog 98 #[.agg (frameA f (.slice A f.tones.length c)), .int .i64 size] w (BytesPost w f size) := by
  have HR := Lib.hid (fun W (hW : Below w.heap.size w W) => Right_ok f A c W h (hr.later hW))
  have hfl := frameB_len h
  have hfm := frameB_most h
  have HBy := Lib.hid (fun (W : World) (g : Nat) (hW : WrAt W g (frameB f)) => WBytes_any g size (frameB f) W (by
    have := head5_len h
    unfold frameB
    rw [List.length_append]; omega) (by omega) (by omega) (by omega) hW)
  have HL := h.len
  have HPa := Lib.hid (fun (W : World) (g : Nat) hg => frame_parts (w := W) (g := g) HL (tv := .slice A f.tones.length c) hg)
  have hgl : (f.gains.map (Value.int .i64)).length = 4 := by simp [HL.g]
  have hql : (f.q.map (Value.int .i64)).length = 16 := by simp [HL.q]
  have hfz := frameA_size HL (.slice A f.tones.length c)
  have h2l := head2_len h
  have h3l := head3_len h
  have h4l := head4_len h
  have h5l := head5_len h
  have Hfit := Lib.hid (fun k (hk : k < 16) => h.fits hk)
  have HT := Lib.hid (fun (m : Nat) (t : ToneV) (ht : f.tones[m]? = some t) => And.intro (tone_row hr ht) (h.tidx t (List.mem_of_getElem? ht)))
  have HCg := Lib.hid (fun (k : Nat) (x : Int) (hx : f.gains[k]? = some x) => And.intro (blk_get hx) (show 0 ≤ x ∧ x ≤ 3 by
    have hk : k < 4 := by have := (List.getElem?_eq_some_iff.1 hx).1; have := HL.g; omega
    have := h.gains.2 k hk
    rwa [bgt_get hx] at this))
  have HCs := Lib.hid (fun (k : Nat) (x : Int) (hx : f.scale[k]? = some x) => And.intro (show (f.scale.map (Value.int .i64))[k]? = some (.int .i64 x) by rw [List.getElem?_map, hx]; rfl) (show 0 ≤ x ∧ x ≤ 23 by
    have hk : k < 4 := by have := (List.getElem?_eq_some_iff.1 hx).1; have := HL.s; omega
    have := h.scale.2 k hk
    rwa [bgt_get hx] at this))
  have HCw := Lib.hid (fun (k : Nat) (x : Int) (hx : f.width[k]? = some x) => And.intro (show (f.width.map (Value.int .i64))[k]? = some (.int .i64 x) by rw [List.getElem?_map, hx]; rfl) (show 0 ≤ x ∧ x ≤ 24 by
    have hk : k < 4 := by have := (List.getElem?_eq_some_iff.1 hx).1; have := HL.w; omega
    have := h.width k hk
    rwa [bgt_get hx] at this))
  have HCq := Lib.hid (fun (k : Nat) (x : Int) (hx : f.q[k]? = some x) => blk_get hx)
  have Hws := Lib.hid (fun m (hm : m ≤ 16) => (show widthSum f.width m ≤ 1000 by
    have := widthSum_mono f.width (16 - m) m
    rw [show m + (16 - m) = 16 by omega, widthSum_16] at this
    have := h.width 0 (by omega)
    have := h.width 1 (by omega)
    have := h.width 2 (by omega)
    have := h.width 3 (by omega)
    omega))
  have htl := h.tlen
  have Hgl := Lib.hid HL.g
  have Hsl := Lib.hid HL.s
  have Hwl := Lib.hid HL.w
  have Hql := Lib.hid HL.q
  have HFr := Lib.hid (show frameB f = head5 f ++ stepsB f.width f.q 16 from rfl)
  have H5e := Lib.hid (show head5 f = head4 f ++ bandsB f.scale f.width 4 from rfl)
  have H4e := Lib.hid (show head4 f = head3 f ++ tonesB f.tones from rfl)
  have H3e := Lib.hid (show head3 f = head2 f ++ bitsOf f.tones.length 2 from rfl)
  have H2e := Lib.hid (show head2 f = head1 ++ gainsB f.gains from rfl)
  obtain ⟨n, hn⟩ : ∃ n, f.tones.length = n := ⟨_, rfl⟩
  rw [hn] at HR HPa hfz h4l h5l htl H3e ⊢
  have Hn := Lib.hid hn
  obtain ⟨fc, hfc⟩ : ∃ fc, frameA f (.slice A n c) = fc := ⟨_, rfl⟩
  rw [hfc] at HR HPa hfz ⊢
  have HFf := Lib.hid (show (Tryz.prog.info? 78).map (·.size) = some fc.size by rw [hfz]; exact inf_frame)
  have HFg := Lib.hid (show (Tryz.prog.info? 75).map (·.size) = some (f.gains.map (Value.int .i64)).length by rw [hgl]; exact inf_four)
  have HFq := Lib.hid (show (Tryz.prog.info? 74).map (·.size) = some (f.q.map (Value.int .i64)).length by rw [hql]; exact inf_block)
  have HM := Lib.hid (heap_alloc_new w (.cells fc 78))
  have HB0 := Lib.hid (bnew w (.cells fc 78))
  clear h hr hn hfc hfz hgl hql HL hfl hfm hsz
  go_enter Tryz.func98, Tryz.ntmps98
  go_wp2_with (first | (go_at_call 127; fail) | (refine wpList_load_row_w rfl 78 (.tmp 2) rfl w.heap.size rfl _ fc _ _ HM.out Tryz.underlying78 rfl HFf.out ?_))
  refine (HR.out _ HB0.out).mono ?_
  rintro e w1 ⟨rfl, hb1⟩
  have HM1 := Lib.hid (hkeep HM.out hb1)
  have HB1 := Lib.hid (bnext HB0.out hb1)
  have hz1 := hlt HM1.out
  have HW0 := Lib.hid (WrAt.new w1)
  have HM2 := Lib.hid (hkeep HM1.out (bnew w1 (.cells #[.slice none 0 0, .int .i64 0, .int .i64 0] 191)))
  have HB2 := Lib.hid (bnext HB1.out (bnew w1 (.cells #[.slice none 0 0, .int .i64 0, .int .i64 0] 191)))
  have HP1 := Lib.hid (show Calls Tryz.prog 128 #[.pointer (some ⟨w1.heap.size, 0, none⟩), .int .u64 1, .int .i64 2] _ _ from Put_any w1.heap.size 1 2 [] _ (by omega) (by decide) (by simp) HW0.out)
  clear hb1 HM HB0
  go_wp2_with (go_at_call 128; fail)
  refine HP1.out.mono ?_
  rintro e w2 ⟨rfl, hw2, _, hb2⟩
  obtain ⟨G, hG⟩ : ∃ G, w1.heap.size = G := ⟨_, rfl⟩
  rw [hG] at hw2 hb2 hz1 ⊢
  have hGw : w.heap.size < G := hz1
  have HW2 := Lib.hid (show WrAt w2 G head1 from hw2)
  have HM3 := Lib.hid (hlow HM2.out hb2 hGw)
  have HB3 := Lib.hid (HB2.out.trans (hb2.mono (Nat.le_of_lt hGw)))
  have P := HPa.out _ _ HM3.out
  have P0 := Lib.hid P.1
  clear hw2 hb2 P HP1 HW0 HM2 HB2 HM1 HB1
  go_wp2_with (refine wpList_load_part_w rfl 75 (.tmp 21) rfl w.heap.size 0 rfl (f.gains.map (Value.int .i64)) _ P0.out Tryz.underlying75 rfl HFg.out ?_)
  go_loopw [23] (fun i wr => ∃ m : Nat, m ≤ 4 ∧ i = .int .i64 m ∧ WrAt wr G (head1 ++ gainsB (f.gains.take m)) ∧ wr.heap[w.heap.size]? = some (.cells fc 78 (0, 0)) ∧ Below w.heap.size w wr) (fun i _ => 4 - (intOf i).toNat)
  case atStart => exact ⟨0, by omega, rfl, HW2.out, HM3.out, HB3.out⟩
  case round =>
    obtain ⟨m, hm, rfl, hW, hM, hB⟩ := hrel
    have HW := Lib.hid hW
    have HM := Lib.hid hM
    have HB := Lib.hid hB
    clear hW hM hB HW2 HM3 HB3 P0
    by_cases hlk : m < 4
    · have t1 : (m : Int) < 4 := by omega
      obtain ⟨x, hx⟩ := list_get (k := m) Hgl.out hlk
      obtain ⟨hc, h0, h3⟩ := HCg.out m x hx
      obtain ⟨xn, rfl⟩ := Int.eq_ofNat_of_zero_le h0
      have hix := run_index_arr (P := Tryz.prog) Tryz.underlying75 hlk (fun W => by kernel_rfl) (fun W => by kernel_rfl) hc
      have hu := u64_small (n := xn) (by omega)
      have HS := Lib.hid (show head1 ++ gainsB (f.gains.take (m + 1)) = head1 ++ gainsB (f.gains.take m) ++ bitsOf xn 2 by rw [gainsB_succ hx, Int.toNat_natCast, List.append_assoc])
      have HP := Lib.hid (show Calls Tryz.prog 128 #[.pointer (some ⟨G, 0, none⟩), .int .u64 xn, .int .i64 2] wr _ from Put_any G xn 2 _ wr (by omega) (by omega) (by
        rw [List.length_append, gainsB_len, List.length_take]
        show (bitsOf 1 2).length + _ + _ ≤ _
        rw [bitsOf_len]; omega) HW.out)
      clear hx hc
      go_wp2_with (go_at_call 128; fail)
      refine HP.out.mono ?_
      rintro e w3 ⟨rfl, hw3, _, hb3⟩
      rw [← HS.out] at hw3
      have HW3 := Lib.hid hw3
      have HM3 := Lib.hid (hlow HM.out hb3 hGw)
      have HB3 := Lib.hid (HB.out.trans (hb3.mono (Nat.le_of_lt hGw)))
      clear hw3 hb3
      go_wp2
      go_roundw
      case rel => exact ⟨m + 1, by omega, by go_num, HW3.out, HM3.out, HB3.out⟩
      case measure => simp [intOf]; omega
    · have hm4 : m = 4 := by omega
      subst hm4
      have t1 : ¬ (((4 : Nat) : Int) < 4) := by omega
      have hW2 := HW.out
      rw [List.take_of_length_le (by rw [Hgl.out]; exact Nat.le_refl _), ← H2e.out] at hW2
      have HP := Lib.hid (show Calls Tryz.prog 128 #[.pointer (some ⟨G, 0, none⟩), .int .u64 n, .int .i64 2] wr _ from Put_any G n 2 _ wr (by omega) (by omega) (by rw [h2l]; omega) hW2)
      have P := HPa.out _ _ HM.out
      have p4 := P.2.1
      have hu := u64_small (n := n) (by omega)
      clear hW2 P HW
      go_wp2_with (go_at_call 128; fail)
      refine HP.out.mono ?_
      rintro e w3 ⟨rfl, hw3, _, hb3⟩
      rw [← H3e.out] at hw3
      have HW3 := Lib.hid hw3
      have HM3 := Lib.hid (hlow HM.out hb3 hGw)
      have HB3 := Lib.hid (HB.out.trans (hb3.mono (Nat.le_of_lt hGw)))
      have P := HPa.out _ _ HM3.out
      have p5 := P.2.1
      clear hw3 hb3 P p4
      go_wp2
      clear HM HB
      go_loopw [40] (fun i wr => ∃ m : Nat, m ≤ n ∧ i = .int .i64 m ∧ WrAt wr G (head3 f ++ tonesB (f.tones.take m)) ∧ wr.heap[w.heap.size]? = some (.cells fc 78 (0, 0)) ∧ Below w.heap.size w wr) (fun i _ => n - (intOf i).toNat)
      case atStart => exact ⟨0, by omega, rfl, by rw [show tonesB (f.tones.take 0) = [] from rfl, List.append_nil]; exact HW3.out, HM3.out, HB3.out⟩
      case round =>
        obtain ⟨m, hm, rfl, hW, hM, hB⟩ := hrel
        have HW := Lib.hid hW
        have HM := Lib.hid hM
        have HB := Lib.hid hB
        clear hW hM hB HW3 HM3 HB3 p5
        by_cases hlk : m < n
        · have t1 : (m : Int) < (n : Int) := by omega
          obtain ⟨t, ht⟩ := list_get (k := m) Hn.out hlk
          obtain ⟨⟨g, off, hA, hg, k0, k1⟩, v1, v2, v3, v4⟩ := HT.out m t ht
          have c0 := (HB.out.cell (p := ⟨g, off + m * 2, none⟩) hg).trans k0
          have c1 := (HB.out.cell (p := ⟨g, off + m * 2 + 1, none⟩) hg).trans k1
          have HS := Lib.hid (show head3 f ++ tonesB (f.tones.take (m + 1)) = head3 f ++ tonesB (f.tones.take m) ++ bitsOf t.idx.toNat 4 ++ bitsOf (twos t.val 24) 24 by rw [tonesB_succ ht, ← List.append_assoc]; unfold toneB; rw [← List.append_assoc])
          have hln : (head3 f ++ tonesB (f.tones.take m)).length ≤ 1000 := by rw [List.length_append, tonesB_len, List.length_take, h3l]; omega
          subst hA
          obtain ⟨ix, vl⟩ := t
          simp only at c0 c1 v1 v2 v3 v4 HS
          obtain ⟨xn, rfl⟩ := Int.eq_ofNat_of_zero_le v1
          rw [Int.toNat_natCast] at HS
          have hu := u64_small (n := xn) (by omega)
          have HW1 := Lib.hid (HW.out.alloc (.cells #[.int .i64 (xn : Int), .int .i64 vl] 118))
          have HM1 := Lib.hid (hkeep HM.out (bnew wr (.cells #[.int .i64 (xn : Int), .int .i64 vl] 118)))
          have HB1 := Lib.hid (bnext HB.out (bnew wr (.cells #[.int .i64 (xn : Int), .int .i64 vl] 118)))
          have HN1 := Lib.hid (heap_alloc_new wr (.cells #[.int .i64 (xn : Int), .int .i64 vl] 118))
          have hGr : G < wr.heap.size := by obtain ⟨_, _, hh, _⟩ := HW.out; exact hlt hh
          have HP := Lib.hid (show Calls Tryz.prog 128 #[.pointer (some ⟨G, 0, none⟩), .int .u64 xn, .int .i64 4] _ _ from Put_any G xn 4 _ _ (by omega) (by omega) (by omega) HW1.out)
          clear ht k0 k1
          go_wp2_with (go_at_call 128; fail)
          refine HP.out.mono ?_
          rintro e w3 ⟨rfl, hw3, hk3, hb3⟩
          have HM3 := Lib.hid (hlow HM1.out hb3 hGw)
          have HB3 := Lib.hid (HB1.out.trans (hb3.mono (Nat.le_of_lt hGw)))
          have n1 := cell_of_row w3 wr.heap.size 1 _ _ _ (hk3 _ _ _ _ HN1.out (by decide) (by omega))
          have HP2 := Lib.hid (show Calls Tryz.prog 129 #[.pointer (some ⟨G, 0, none⟩), .int .i64 vl, .int .i64 24] w3 _ from Signed_any G vl 24 _ w3 (by omega) (fits_24 v3 v4) (by rw [List.length_append, bitsOf_len]; omega) hw3)
          clear hw3 hk3 hb3 HP c0 c1
          go_wp2_with (go_at_call 129; fail)
          refine HP2.out.mono ?_
          rintro e w4 ⟨rfl, hw4, _, hb4⟩
          rw [← HS.out] at hw4
          have HW4 := Lib.hid hw4
          have HM4 := Lib.hid (hlow HM3.out hb4 hGw)
          have HB4 := Lib.hid (HB3.out.trans (hb4.mono (Nat.le_of_lt hGw)))
          clear hw4 hb4 n1
          go_wp2
          go_roundw
          case rel => exact ⟨m + 1, by omega, by go_num, HW4.out, HM4.out, HB4.out⟩
          case measure => simp [intOf]; omega
        · have hmn : m = n := by omega
          have t1 : ¬ ((m : Int) < (n : Int)) := by omega
          have hW2 := HW.out
          rw [List.take_of_length_le (by rw [Hn.out]; omega), ← H4e.out] at hW2
          have HW2 := Lib.hid hW2
          clear hW2 HW
          go_wp2
          go_loopw [54] (fun i wr => ∃ m : Nat, m ≤ 4 ∧ i = .int .i64 m ∧ WrAt wr G (head4 f ++ bandsB f.scale f.width m) ∧ wr.heap[w.heap.size]? = some (.cells fc 78 (0, 0)) ∧ Below w.heap.size w wr) (fun i _ => 4 - (intOf i).toNat)
          case atStart => exact ⟨0, by omega, rfl, by rw [show bandsB f.scale f.width 0 = [] from rfl, List.append_nil]; exact HW2.out, HM.out, HB.out⟩
          case round =>
            obtain ⟨k, hk, rfl, hW, hM, hB⟩ := hrel
            have HW := Lib.hid hW
            have HM := Lib.hid hM
            have HB := Lib.hid hB
            clear hW hM hB HW2
            by_cases hkk : k < 4
            · have t2 : (k : Int) < 4 := by omega
              obtain ⟨x, hx⟩ := list_get (k := k) Hsl.out hkk
              obtain ⟨y, hy⟩ := list_get (k := k) Hwl.out hkk
              obtain ⟨hcx, x0, x1⟩ := HCs.out k x hx
              obtain ⟨hcy, y0, y1⟩ := HCw.out k y hy
              obtain ⟨xn, rfl⟩ := Int.eq_ofNat_of_zero_le x0
              obtain ⟨yn, rfl⟩ := Int.eq_ofNat_of_zero_le y0
              have HS := Lib.hid (show head4 f ++ bandsB f.scale f.width (k + 1) = head4 f ++ bandsB f.scale f.width k ++ bitsOf xn 5 ++ bitsOf yn 5 by rw [bandsB_succ, ← List.append_assoc]; unfold bandB; rw [bgt_get hx, bgt_get hy, Int.toNat_natCast, Int.toNat_natCast, ← List.append_assoc])
              have hln : (head4 f ++ bandsB f.scale f.width k).length ≤ 1000 := by rw [List.length_append, bandsB_len, h4l]; omega
              have P := HPa.out _ _ HM.out
              have cx := P.2.2.1 k _ hcx
              have hu1 := u64_small (n := xn) (by omega)
              have hu2 := u64_small (n := yn) (by omega)
              have HP := Lib.hid (show Calls Tryz.prog 128 #[.pointer (some ⟨G, 0, none⟩), .int .u64 xn, .int .i64 5] _ _ from Put_any G xn 5 _ _ (by omega) (by omega) (by omega) HW.out)
              clear P hx hy hcx
              go_wp2_with (go_at_call 128; fail)
              refine HP.out.mono ?_
              rintro e w3 ⟨rfl, hw3, _, hb3⟩
              have HM3 := Lib.hid (hlow HM.out hb3 hGw)
              have HB3 := Lib.hid (HB.out.trans (hb3.mono (Nat.le_of_lt hGw)))
              have P := HPa.out _ _ HM3.out
              have cy := P.2.2.2.1 k _ hcy
              have HP2 := Lib.hid (show Calls Tryz.prog 128 #[.pointer (some ⟨G, 0, none⟩), .int .u64 yn, .int .i64 5] w3 _ from Put_any G yn 5 _ w3 (by omega) (by omega) (by rw [List.length_append, bitsOf_len]; omega) hw3)
              clear hw3 hb3 HP P cx hcy
              go_wp2_with (go_at_call 128; fail)
              refine HP2.out.mono ?_
              rintro e w4 ⟨rfl, hw4, _, hb4⟩
              rw [← HS.out] at hw4
              have HW4 := Lib.hid hw4
              have HM4 := Lib.hid (hlow HM3.out hb4 hGw)
              have HB4 := Lib.hid (HB3.out.trans (hb4.mono (Nat.le_of_lt hGw)))
              clear hw4 hb4 cy
              go_wp2
              go_roundw
              case rel => exact ⟨k + 1, by omega, by go_num, HW4.out, HM4.out, HB4.out⟩
              case measure => simp [intOf]; omega
            · have hk4 : k = 4 := by omega
              subst hk4
              have t2 : ¬ (((4 : Nat) : Int) < 4) := by omega
              have hW2 := HW.out
              rw [← H5e.out] at hW2
              have HW2 := Lib.hid hW2
              have P := HPa.out _ _ HM.out
              have P4 := Lib.hid P.2.2.2.2
              clear hW2 HW P
              go_wp2_with (refine wpList_load_part_w rfl 74 (.tmp 72) rfl w.heap.size 13 rfl (f.q.map (Value.int .i64)) _ P4.out Tryz.underlying74 rfl HFq.out ?_)
              go_loopw [74] (fun i wr => ∃ m : Nat, m ≤ 16 ∧ i = .int .i64 m ∧ WrAt wr G (head5 f ++ stepsB f.width f.q m) ∧ wr.heap[w.heap.size]? = some (.cells fc 78 (0, 0)) ∧ Below w.heap.size w wr) (fun i _ => 16 - (intOf i).toNat)
              case atStart => exact ⟨0, by omega, rfl, by rw [show stepsB f.width f.q 0 = [] from rfl, List.append_nil]; exact HW2.out, HM.out, HB.out⟩
              case round =>
                obtain ⟨j, hj, rfl, hW, hM, hB⟩ := hrel
                have HW := Lib.hid hW
                have HM := Lib.hid hM
                have HB := Lib.hid hB
                clear hW hM hB HW2 P4
                by_cases hjj : j < 16
                · have t3 : (j : Int) < 16 := by omega
                  obtain ⟨x, hx⟩ := list_get (k := j) Hql.out hjj
                  obtain ⟨q, hq⟩ : ∃ q, j / 4 = q := ⟨_, rfl⟩
                  have hq4 : q < 4 := by omega
                  obtain ⟨y, hy⟩ := list_get (k := q) Hwl.out hq4
                  obtain ⟨hcy, y0, y1⟩ := HCw.out q y hy
                  obtain ⟨yn, rfl⟩ := Int.eq_ofNat_of_zero_le y0
                  have HBand := Lib.hid (show ∀ W, Calls Tryz.prog 90 #[.int .i64 j] W fun e w' => e = .returned (.int .i64 (q : Int)) ∧ W = w' from fun W => (Band_any j W hjj).mono fun e w' ⟨he, hw⟩ => ⟨he.trans (ret_int (by omega)), hw⟩)
                  have hft := Hfit.out j hjj
                  rw [bgt_get hx, hq, bgt_get hy, Int.toNat_natCast] at hft
                  have HS := Lib.hid (show head5 f ++ stepsB f.width f.q (j + 1) = head5 f ++ stepsB f.width f.q j ++ bitsOf (twos x yn) yn by rw [stepsB_succ, ← List.append_assoc]; unfold stepB; rw [bgt_get hx, hq, bgt_get hy, Int.toNat_natCast])
                  have hln : (head5 f ++ stepsB f.width f.q j).length ≤ 2000 := by rw [List.length_append, stepsB_len, h5l]; have := Hws.out j (by omega); omega
                  have hix := run_index_arr (P := Tryz.prog) Tryz.underlying74 hjj (fun W => by kernel_rfl) (fun W => by kernel_rfl) (HCq.out _ _ hx)
                  have P := HPa.out _ _ HM.out
                  have cy := P.2.2.2.1 q _ hcy
                  have t4 : (q : Int) < 4 := by omega
                  have t5 : (0 : Int) ≤ (q : Int) := by omega
                  have HP := Lib.hid (Signed_any G x yn _ wr (by omega) hft (by omega) HW.out)
                  clear P hx hy hcy hft hq
                  go_wp2_with (first | (go_at_call 90; refine (HBand.out _).mono ?_; rintro e w5 ⟨rfl, rfl⟩) | (go_at_call 129; fail))
                  refine HP.out.mono ?_
                  rintro e w3 ⟨rfl, hw3, _, hb3⟩
                  rw [← HS.out] at hw3
                  have HW3 := Lib.hid hw3
                  have HM3 := Lib.hid (hlow HM.out hb3 hGw)
                  have HB3 := Lib.hid (HB.out.trans (hb3.mono (Nat.le_of_lt hGw)))
                  clear hw3 hb3 cy
                  go_wp2
                  go_roundw
                  case rel => exact ⟨j + 1, by omega, by go_num, HW3.out, HM3.out, HB3.out⟩
                  case measure => simp [intOf]; omega
                · have hj16 : j = 16 := by omega
                  subst hj16
                  have t3 : ¬ (((16 : Nat) : Int) < 16) := by omega
                  have hW2 := HW.out
                  rw [← HFr.out] at hW2
                  have HP := Lib.hid (HBy.out wr G hW2)
                  clear hW2 HW
                  go_wp2_with (go_at_call 130; fail)
                  refine HP.out.mono ?_
                  rintro e w3 ⟨rfl, rfl⟩
                  go_wp2
                  refine bodyPost_ret (results_tmp2 Tryz.results98 _ _ _) rfl ?_
                  exact ⟨wr.heap.size, rfl, HB.out.size, heap_alloc_new wr _, bnext HB.out (bnew wr _)⟩
end Go.Proofs.YtbgkoopfdfnmcaaGreat
