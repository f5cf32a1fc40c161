/- WrD, WrE, RtB. Conditions: as each theorem states. -/
import Derived.Test.YthmgjielcmjenaaGreatZc30
import Derived.Test.YthmgjielcmjenaaGreatZc43

namespace Go.Proofs.YthmgjielcmjenaaGreat
open Go.RowKit

theorem RightF.fits {f : FrameV} (h : RightF f) {k : Nat} (hk : k < 16) : fitsZ (bgt f.q k) (bgt f.width (k / 4)).toNat = true := by
  unfold fitsZ
  have := h.q k hk
  exact decide_eq_true (by omega)
theorem gain_ok {g : List Int} (h : g.length = 4 ∧ ∀ i, i < 4 → 0 ≤ bgt g i ∧ bgt g i ≤ 3) : gainOk g = true := by
  unfold gainOk
  rw [List.all_eq_true]
  intro x hx
  obtain ⟨i, hi, rfl⟩ := List.mem_iff_getElem.1 hx
  have := h.2 i (by have := h.1; omega)
  rw [bgt_get (List.getElem?_eq_getElem hi)] at this
  unfold inB
  rw [decide_eq_true this.1, decide_eq_true this.2]; rfl

set_option maxRecDepth 100000 in
set_option maxHeartbeats 8000000 in
theorem Right_ok (f : FrameV) (A : Option Addr) (c : Nat) (w : World) (h : RightF f) (hr : Row w w.heap.size A (toneCells f.tones)) :
    Calls Tryz.prog 32 #[.agg (frameA f (.slice A f.tones.length c))] w fun e w' => e = .returned (.bool true) ∧ Below w.heap.size w w' := by
  have HG := Lib.hid (fun W => gainRight_any f.gains W h.gains.1)
  rw [gain_ok h.gains] at HG
  have HT := Lib.hid (fun W (hW : Below w.heap.size w W) => rightTones_ok f.tones A c W (hr.later hW) ⟨h.tidx, h.tinc⟩ h.tlen)
  have HS := Lib.hid (fun W => scalesRight_any f.scale W h.scale.1)
  rw [h.scale.ok] at HS
  have HL := h.len
  have Hfit := Lib.hid (fun k (hk : k < 16) => h.fits hk)
  have Hwd := Lib.hid h.width
  have HPa := Lib.hid (fun (W : World) (g : Nat) hg => frame_parts (w := W) (g := g) HL (tv := .slice A f.tones.length c) hg)
  have hgl : (f.gains.map (Value.int .i64)).length = 4 := by simp [HL.g]
  have hsl : (f.scale.map (Value.int .i64)).length = 4 := by simp [HL.s]
  have hwl : (f.width.map (Value.int .i64)).length = 4 := by simp [HL.w]
  obtain ⟨gg, ts, sc, wd, q⟩ := f
  simp only at *
  have Hql := Lib.hid HL.q
  have Hwl := Lib.hid HL.w
  simp only at Hql Hwl
  have HCw := Lib.hid (fun (k : Nat) (x : Int) (h : wd[k]? = some x) => blk_get h)
  have HCq := Lib.hid (fun (k : Nat) (x : Int) (h : q[k]? = some x) => (show (q.map (Value.int .i64))[k]? = some (.int .i64 x) by rw [List.getElem?_map, h]; rfl))
  generalize ts.length = n at *
  generalize frameA ⟨gg, ts, sc, wd, q⟩ (.slice A n c) = fc at *
  unfold blockV at *
  generalize hgv : gg.map (Value.int .i64) = gv at *
  generalize hsv : sc.map (Value.int .i64) = sv at *
  generalize hwv : wd.map (Value.int .i64) = wv at *
  generalize hqv : q.map (Value.int .i64) = qv at *
  have HFg := Lib.hid (show (Tryz.prog.info? 37).map (·.size) = some gv.length by rw [hgl]; exact inf_four)
  have HFs := Lib.hid (show (Tryz.prog.info? 37).map (·.size) = some sv.length by rw [hsl]; exact inf_four)
  have HFw := Lib.hid (show (Tryz.prog.info? 37).map (·.size) = some wv.length by rw [hwl]; exact inf_four)
  have HM := Lib.hid (heap_alloc_new w (.cells fc 42))
  have P := HPa.out _ _ HM.out
  have P0 := Lib.hid P.1
  have P3 := P.2.1
  have HB0 := Lib.hid (bnew w (.cells fc 42))
  clear P hr h hgv hsv hwv hqv hgl hsl hwl HL
  go_enter Tryz.func32, Tryz.ntmps32
  go_wp2_with (first | (go_at_call 59; fail) | (refine wpList_load_part_w rfl 37 (.tmp 7) rfl w.heap.size 0 rfl gv _ P0.out Tryz.underlying37 rfl HFg.out ?_))
  refine (HG.out _).mono ?_
  rintro e w1 ⟨rfl, hb1⟩
  have HM1 := Lib.hid (hkeep HM.out hb1)
  have HB1 := Lib.hid (bnext HB0.out hb1)
  have Q := HPa.out _ _ HM1.out
  have p3 := Q.2.1
  clear Q hb1 P3 P0 HM HB0
  go_wp2_with (go_at_call 60; fail)
  refine (HT.out _ HB1.out).mono ?_
  rintro e w2 ⟨rfl, hb2⟩
  have HM2 := Lib.hid (hkeep HM1.out hb2)
  have HB2 := Lib.hid (bnext HB1.out hb2)
  have Q := HPa.out _ _ HM2.out
  have Q2 := Lib.hid Q.2.2.1
  clear Q hb2 p3 HM1 HB1
  go_wp2_with (first | (go_at_call 61; fail) | (refine wpList_load_part_w rfl 37 (.tmp 18) rfl w.heap.size 5 rfl sv _ Q2.out Tryz.underlying37 rfl HFs.out ?_))
  refine (HS.out _).mono ?_
  rintro e w3 ⟨rfl, hb3⟩
  have HM3 := Lib.hid (hkeep HM2.out hb3)
  have HB3 := Lib.hid (bnext HB2.out hb3)
  have Q := HPa.out _ _ HM3.out
  have Q3 := Lib.hid Q.2.2.2.1
  have Q4 := Lib.hid Q.2.2.2.2
  clear Q hb3 HM2 HB2
  go_wp2_with (refine wpList_load_part_w rfl 37 (.tmp 23) rfl w.heap.size 9 rfl wv _ Q3.out Tryz.underlying37 rfl HFw.out ?_)
  go_loop [25] (fun i => ∃ m : Nat, m ≤ 4 ∧ i = .int .i64 m) (fun i => 4 - (intOf i).toNat)
  case atStart => exact ⟨0, by omega, rfl⟩
  case round =>
    obtain ⟨m, hm, rfl⟩ := hrel
    by_cases hlk : m < 4
    · have t1 : (m : Int) < 4 := by omega
      obtain ⟨x, hx⟩ := list_get (k := m) Hwl.out hlk
      have hxb := Hwd.out m hlk
      rw [bgt_get hx] at hxb
      obtain ⟨W, rfl⟩ := Int.eq_ofNat_of_zero_le hxb.1
      have hW24 : W ≤ 24 := by omega
      have Hx := Lib.hid (bgt_get hx)
      have hix := run_index_arr (P := Tryz.prog) Tryz.underlying37 hlk (fun W => by kernel_rfl) (fun W => by kernel_rfl) (HCw.out _ _ hx)
      have t2 : decide ((W : Int) < 0) = false := decide_eq_false (by omega)
      have t3 : decide ((24 : Int) < (W : Int)) = false := decide_eq_false (by omega)
      have hsl := slice_block w.heap.size 13 ((m : Int) * 4) (((m : Int) + 1) * 4) (m * 4) (m * 4 + 4) (by omega) (by omega) (by omega) (by omega) (by omega)
      rw [show m * 4 + 4 - m * 4 = 4 by omega] at hsl
      clear hx hxb
      go_wp2
      go_loop [43] (fun i => ∃ k : Nat, k ≤ 4 ∧ i = .int .i64 k) (fun i => 4 - (intOf i).toNat)
      case atStart => exact ⟨0, by omega, rfl⟩
      case round =>
        obtain ⟨k, hk, rfl⟩ := hrel
        by_cases hkk : k < 4
        · have t4 : (k : Int) < 4 := by omega
          obtain ⟨y, hy⟩ := list_get (k := m * 4 + k) Hql.out (by omega)
          have ce := Q4.out _ _ (HCq.out _ _ hy)
          rw [← Nat.add_assoc] at ce
          have hft := Hfit.out (m * 4 + k) (by omega)
          rw [bgt_get hy, show (m * 4 + k) / 4 = m by omega, Hx.out, Int.toNat_natCast] at hft
          have HF := Lib.hid (fun V => Fits_any y W V (by omega))
          rw [hft] at HF
          clear hy hft
          go_wp2_with (go_at_call 62; refine (HF.out _).mono ?_; rintro e w5 ⟨rfl, rfl⟩)
          go_round
          case rel => exact ⟨k + 1, by omega, by go_num⟩
          case measure => simp [intOf]; omega
        · have hk4 : k = 4 := by omega
          subst hk4
          have t4 : ¬ (((4 : Nat) : Int) < 4) := by omega
          go_wp2
          go_round
          case rel => exact ⟨m + 1, by omega, by go_num⟩
          case measure => simp [intOf]; omega
    · have hm4 : m = 4 := by omega
      subst hm4
      have t1 : ¬ (((4 : Nat) : Int) < 4) := by omega
      go_wp2
      go_ret
      exact ⟨rfl, HB3.out⟩
end Go.Proofs.YthmgjielcmjenaaGreat

namespace Go.Proofs.YthmgjielcmjenaaGreat
open Go.RowKit

def frameBytes (f : FrameV) (size : Nat) : List Nat := packN (frameB f) ++ List.replicate (size - ((frameB f).length + 7) / 8) 0
/-- bytes handed back -/
def BytesPost (W : World) (f : FrameV) (size : Nat) (e : Ending) (w' : World) : Prop :=
  ∃ g, e = .returned (.tuple #[.slice (some ⟨g, 0, none⟩) size size, .int .i64 0]) ∧ W.heap.size ≤ g ∧ w'.heap[g]? = some (.cells (u8s (frameBytes f size)).toArray 5 (0, 0)) ∧ Below W.heap.size W w'
theorem u64_small {n : Nat} (h : n < 1000000) : IntKind.u64.wrap (n : Int) = (n : Int) := by rw [IntKind.wrap_u64]; omega
theorem WrAt.alloc {W : World} {g : Nat} {L : List Nat} (h : WrAt W g L) (o : Obj) : WrAt (W.alloc o) g L := by
  obtain ⟨h1, v, h2, h3⟩ := h
  exact ⟨h1, v, (heap_alloc_old _ _ (hlt h2)).trans h2, h3.alloc o⟩
theorem WrAt.later {W W' : World} {g : Nat} {L : List Nat} (h : WrAt W g L) (hb : Below W.heap.size W W') : WrAt W' g L := by
  obtain ⟨h1, v, h2, h3⟩ := h
  exact ⟨h1, v, hkeep h2 hb, own_later h3 hb⟩
theorem WrAt.new (W : World) : WrAt (W.alloc (.cells #[.slice none 0 0, .int .i64 0, .int .i64 0] 101)) W.heap.size [] :=
  ⟨fun b hb => by simp at hb, .slice none 0 0, heap_alloc_new W _, World.ownsRow_nil _ _ _ _⟩
theorem hlow {w w' : World} {g B : Nat} {o : Obj} (h : w.heap[g]? = some o) (hb : Below B w w') (hg : g < B) : w'.heap[g]? = some o := (hb.block g hg).trans h

set_option maxRecDepth 100000 in
set_option maxHeartbeats 16000000 in
theorem FBytes_ok (f : FrameV) (A : Option Addr) (c size : Nat) (w : World) (h : RightF f) (hr : Row w w.heap.size A (toneCells f.tones)) (hsz : bitsZ f ≤ 8 * (size : Int)) (hs1 : size ≤ 10000) :
    Calls Tryz.prog 22 #[.agg (frameA f (.slice A f.tones.length c)), .int .i64 size] w (BytesPost w f size) := by
  have HR := Lib.hid (fun W (hW : Below w.heap.size w W) => Right_ok f A c W h (hr.later hW))
  have hfl := frameB_len h
  have hfm := frameB_most h
  have HBy := Lib.hid (fun (W : World) (g : Nat) (hW : WrAt W g (frameB f)) => WBytes_any g size (frameB f) W (by
    have := head5_len h
    unfold frameB
    rw [List.length_append]; omega) (by omega) (by omega) (by omega) hW)
  have HL := h.len
  have HPa := Lib.hid (fun (W : World) (g : Nat) hg => frame_parts (w := W) (g := g) HL (tv := .slice A f.tones.length c) hg)
  have hgl : (f.gains.map (Value.int .i64)).length = 4 := by simp [HL.g]
  have hql : (f.q.map (Value.int .i64)).length = 16 := by simp [HL.q]
  have hfz := frameA_size HL (.slice A f.tones.length c)
  have h2l := head2_len h
  have h3l := head3_len h
  have h4l := head4_len h
  have h5l := head5_len h
  have Hfit := Lib.hid (fun k (hk : k < 16) => h.fits hk)
  have HT := Lib.hid (fun (m : Nat) (t : ToneV) (ht : f.tones[m]? = some t) => And.intro (tone_row hr ht) (h.tidx t (List.mem_of_getElem? ht)))
  have HCg := Lib.hid (fun (k : Nat) (x : Int) (hx : f.gains[k]? = some x) => And.intro (blk_get hx) (show 0 ≤ x ∧ x ≤ 3 by
    have hk : k < 4 := by have := (List.getElem?_eq_some_iff.1 hx).1; have := HL.g; omega
    have := h.gains.2 k hk
    rwa [bgt_get hx] at this))
  have HCs := Lib.hid (fun (k : Nat) (x : Int) (hx : f.scale[k]? = some x) => And.intro (show (f.scale.map (Value.int .i64))[k]? = some (.int .i64 x) by rw [List.getElem?_map, hx]; rfl) (show 0 ≤ x ∧ x ≤ 23 by
    have hk : k < 4 := by have := (List.getElem?_eq_some_iff.1 hx).1; have := HL.s; omega
    have := h.scale.2 k hk
    rwa [bgt_get hx] at this))
  have HCw := Lib.hid (fun (k : Nat) (x : Int) (hx : f.width[k]? = some x) => And.intro (show (f.width.map (Value.int .i64))[k]? = some (.int .i64 x) by rw [List.getElem?_map, hx]; rfl) (show 0 ≤ x ∧ x ≤ 24 by
    have hk : k < 4 := by have := (List.getElem?_eq_some_iff.1 hx).1; have := HL.w; omega
    have := h.width k hk
    rwa [bgt_get hx] at this))
  have HCq := Lib.hid (fun (k : Nat) (x : Int) (hx : f.q[k]? = some x) => blk_get hx)
  have Hws := Lib.hid (fun m (hm : m ≤ 16) => (show widthSum f.width m ≤ 1000 by
    have := widthSum_mono f.width (16 - m) m
    rw [show m + (16 - m) = 16 by omega, widthSum_16] at this
    have := h.width 0 (by omega)
    have := h.width 1 (by omega)
    have := h.width 2 (by omega)
    have := h.width 3 (by omega)
    omega))
  have htl := h.tlen
  have Hgl := Lib.hid HL.g
  have Hsl := Lib.hid HL.s
  have Hwl := Lib.hid HL.w
  have Hql := Lib.hid HL.q
  have HFr := Lib.hid (show frameB f = head5 f ++ stepsB f.width f.q 16 from rfl)
  have H5e := Lib.hid (show head5 f = head4 f ++ bandsB f.scale f.width 4 from rfl)
  have H4e := Lib.hid (show head4 f = head3 f ++ tonesB f.tones from rfl)
  have H3e := Lib.hid (show head3 f = head2 f ++ bitsOf f.tones.length 2 from rfl)
  have H2e := Lib.hid (show head2 f = head1 ++ gainsB f.gains from rfl)
  obtain ⟨n, hn⟩ : ∃ n, f.tones.length = n := ⟨_, rfl⟩
  rw [hn] at HR HPa hfz h4l h5l htl H3e ⊢
  have Hn := Lib.hid hn
  obtain ⟨fc, hfc⟩ : ∃ fc, frameA f (.slice A n c) = fc := ⟨_, rfl⟩
  rw [hfc] at HR HPa hfz ⊢
  have HFf := Lib.hid (show (Tryz.prog.info? 42).map (·.size) = some fc.size by rw [hfz]; exact inf_frame)
  have HFg := Lib.hid (show (Tryz.prog.info? 37).map (·.size) = some (f.gains.map (Value.int .i64)).length by rw [hgl]; exact inf_four)
  have HFq := Lib.hid (show (Tryz.prog.info? 40).map (·.size) = some (f.q.map (Value.int .i64)).length by rw [hql]; exact inf_block)
  have HM := Lib.hid (heap_alloc_new w (.cells fc 42))
  have HB0 := Lib.hid (bnew w (.cells fc 42))
  clear h hr hn hfc hfz hgl hql HL hfl hfm hsz
  go_enter Tryz.func22, Tryz.ntmps22
  go_wp2_with (first | (go_at_call 32; fail) | (refine wpList_load_row_w rfl 42 (.tmp 2) rfl w.heap.size rfl _ fc _ _ HM.out Tryz.underlying42 rfl HFf.out ?_))
  refine (HR.out _ HB0.out).mono ?_
  rintro e w1 ⟨rfl, hb1⟩
  have HM1 := Lib.hid (hkeep HM.out hb1)
  have HB1 := Lib.hid (bnext HB0.out hb1)
  have hz1 := hlt HM1.out
  have HW0 := Lib.hid (WrAt.new w1)
  have HM2 := Lib.hid (hkeep HM1.out (bnew w1 (.cells #[.slice none 0 0, .int .i64 0, .int .i64 0] 101)))
  have HB2 := Lib.hid (bnext HB1.out (bnew w1 (.cells #[.slice none 0 0, .int .i64 0, .int .i64 0] 101)))
  have HP1 := Lib.hid (show Calls Tryz.prog 48 #[.pointer (some ⟨w1.heap.size, 0, none⟩), .int .u64 1, .int .i64 2] _ _ from Put_any w1.heap.size 1 2 [] _ (by omega) (by decide) (by simp) HW0.out)
  clear hb1 HM HB0
  go_wp2_with (go_at_call 48; fail)
  refine HP1.out.mono ?_
  rintro e w2 ⟨rfl, hw2, _, hb2⟩
  obtain ⟨G, hG⟩ : ∃ G, w1.heap.size = G := ⟨_, rfl⟩
  rw [hG] at hw2 hb2 hz1 ⊢
  have hGw : w.heap.size < G := hz1
  have HW2 := Lib.hid (show WrAt w2 G head1 from hw2)
  have HM3 := Lib.hid (hlow HM2.out hb2 hGw)
  have HB3 := Lib.hid (HB2.out.trans (hb2.mono (Nat.le_of_lt hGw)))
  have P := HPa.out _ _ HM3.out
  have P0 := Lib.hid P.1
  clear hw2 hb2 P HP1 HW0 HM2 HB2 HM1 HB1
  go_wp2_with (refine wpList_load_part_w rfl 37 (.tmp 21) rfl w.heap.size 0 rfl (f.gains.map (Value.int .i64)) _ P0.out Tryz.underlying37 rfl HFg.out ?_)
  go_loopw [23] (fun i wr => ∃ m : Nat, m ≤ 4 ∧ i = .int .i64 m ∧ WrAt wr G (head1 ++ gainsB (f.gains.take m)) ∧ wr.heap[w.heap.size]? = some (.cells fc 42 (0, 0)) ∧ Below w.heap.size w wr) (fun i _ => 4 - (intOf i).toNat)
  case atStart => exact ⟨0, by omega, rfl, HW2.out, HM3.out, HB3.out⟩
  case round =>
    obtain ⟨m, hm, rfl, hW, hM, hB⟩ := hrel
    have HW := Lib.hid hW
    have HM := Lib.hid hM
    have HB := Lib.hid hB
    clear hW hM hB HW2 HM3 HB3 P0
    by_cases hlk : m < 4
    · have t1 : (m : Int) < 4 := by omega
      obtain ⟨x, hx⟩ := list_get (k := m) Hgl.out hlk
      obtain ⟨hc, h0, h3⟩ := HCg.out m x hx
      obtain ⟨xn, rfl⟩ := Int.eq_ofNat_of_zero_le h0
      have hix := run_index_arr (P := Tryz.prog) Tryz.underlying37 hlk (fun W => by kernel_rfl) (fun W => by kernel_rfl) hc
      have hu := u64_small (n := xn) (by omega)
      have HS := Lib.hid (show head1 ++ gainsB (f.gains.take (m + 1)) = head1 ++ gainsB (f.gains.take m) ++ bitsOf xn 2 by rw [gainsB_succ hx, Int.toNat_natCast, List.append_assoc])
      have HP := Lib.hid (show Calls Tryz.prog 48 #[.pointer (some ⟨G, 0, none⟩), .int .u64 xn, .int .i64 2] wr _ from Put_any G xn 2 _ wr (by omega) (by omega) (by
        rw [List.length_append, gainsB_len, List.length_take]
        show (bitsOf 1 2).length + _ + _ ≤ _
        rw [bitsOf_len]; omega) HW.out)
      clear hx hc
      go_wp2_with (go_at_call 48; fail)
      refine HP.out.mono ?_
      rintro e w3 ⟨rfl, hw3, _, hb3⟩
      rw [← HS.out] at hw3
      have HW3 := Lib.hid hw3
      have HM3 := Lib.hid (hlow HM.out hb3 hGw)
      have HB3 := Lib.hid (HB.out.trans (hb3.mono (Nat.le_of_lt hGw)))
      clear hw3 hb3
      go_wp2
      go_roundw
      case rel => exact ⟨m + 1, by omega, by go_num, HW3.out, HM3.out, HB3.out⟩
      case measure => simp [intOf]; omega
    · have hm4 : m = 4 := by omega
      subst hm4
      have t1 : ¬ (((4 : Nat) : Int) < 4) := by omega
      have hW2 := HW.out
      rw [List.take_of_length_le (by rw [Hgl.out]; exact Nat.le_refl _), ← H2e.out] at hW2
      have HP := Lib.hid (show Calls Tryz.prog 48 #[.pointer (some ⟨G, 0, none⟩), .int .u64 n, .int .i64 2] wr _ from Put_any G n 2 _ wr (by omega) (by omega) (by rw [h2l]; omega) hW2)
      have P := HPa.out _ _ HM.out
      have p4 := P.2.1
      have hu := u64_small (n := n) (by omega)
      clear hW2 P HW
      go_wp2_with (go_at_call 48; fail)
      refine HP.out.mono ?_
      rintro e w3 ⟨rfl, hw3, _, hb3⟩
      rw [← H3e.out] at hw3
      have HW3 := Lib.hid hw3
      have HM3 := Lib.hid (hlow HM.out hb3 hGw)
      have HB3 := Lib.hid (HB.out.trans (hb3.mono (Nat.le_of_lt hGw)))
      have P := HPa.out _ _ HM3.out
      have p5 := P.2.1
      clear hw3 hb3 P p4
      go_wp2
      clear HM HB
      go_loopw [40] (fun i wr => ∃ m : Nat, m ≤ n ∧ i = .int .i64 m ∧ WrAt wr G (head3 f ++ tonesB (f.tones.take m)) ∧ wr.heap[w.heap.size]? = some (.cells fc 42 (0, 0)) ∧ Below w.heap.size w wr) (fun i _ => n - (intOf i).toNat)
      case atStart => exact ⟨0, by omega, rfl, by rw [show tonesB (f.tones.take 0) = [] from rfl, List.append_nil]; exact HW3.out, HM3.out, HB3.out⟩
      case round =>
        obtain ⟨m, hm, rfl, hW, hM, hB⟩ := hrel
        have HW := Lib.hid hW
        have HM := Lib.hid hM
        have HB := Lib.hid hB
        clear hW hM hB HW3 HM3 HB3 p5
        by_cases hlk : m < n
        · have t1 : (m : Int) < (n : Int) := by omega
          obtain ⟨t, ht⟩ := list_get (k := m) Hn.out hlk
          obtain ⟨⟨g, off, hA, hg, k0, k1⟩, v1, v2, v3, v4⟩ := HT.out m t ht
          have c0 := (HB.out.cell (p := ⟨g, off + m * 2, none⟩) hg).trans k0
          have c1 := (HB.out.cell (p := ⟨g, off + m * 2 + 1, none⟩) hg).trans k1
          have HS := Lib.hid (show head3 f ++ tonesB (f.tones.take (m + 1)) = head3 f ++ tonesB (f.tones.take m) ++ bitsOf t.idx.toNat 4 ++ bitsOf (twos t.val 24) 24 by rw [tonesB_succ ht, ← List.append_assoc]; unfold toneB; rw [← List.append_assoc])
          have hln : (head3 f ++ tonesB (f.tones.take m)).length ≤ 1000 := by rw [List.length_append, tonesB_len, List.length_take, h3l]; omega
          subst hA
          obtain ⟨ix, vl⟩ := t
          simp only at c0 c1 v1 v2 v3 v4 HS
          obtain ⟨xn, rfl⟩ := Int.eq_ofNat_of_zero_le v1
          rw [Int.toNat_natCast] at HS
          have hu := u64_small (n := xn) (by omega)
          have HW1 := Lib.hid (HW.out.alloc (.cells #[.int .i64 (xn : Int), .int .i64 vl] 82))
          have HM1 := Lib.hid (hkeep HM.out (bnew wr (.cells #[.int .i64 (xn : Int), .int .i64 vl] 82)))
          have HB1 := Lib.hid (bnext HB.out (bnew wr (.cells #[.int .i64 (xn : Int), .int .i64 vl] 82)))
          have HN1 := Lib.hid (heap_alloc_new wr (.cells #[.int .i64 (xn : Int), .int .i64 vl] 82))
          have hGr : G < wr.heap.size := by obtain ⟨_, _, hh, _⟩ := HW.out; exact hlt hh
          have HP := Lib.hid (show Calls Tryz.prog 48 #[.pointer (some ⟨G, 0, none⟩), .int .u64 xn, .int .i64 4] _ _ from Put_any G xn 4 _ _ (by omega) (by omega) (by omega) HW1.out)
          clear ht k0 k1
          go_wp2_with (go_at_call 48; fail)
          refine HP.out.mono ?_
          rintro e w3 ⟨rfl, hw3, hk3, hb3⟩
          have HM3 := Lib.hid (hlow HM1.out hb3 hGw)
          have HB3 := Lib.hid (HB1.out.trans (hb3.mono (Nat.le_of_lt hGw)))
          have n1 := cell_of_row w3 wr.heap.size 1 _ _ _ (hk3 _ _ _ _ HN1.out (by decide) (by omega))
          have HP2 := Lib.hid (show Calls Tryz.prog 49 #[.pointer (some ⟨G, 0, none⟩), .int .i64 vl, .int .i64 24] w3 _ from Signed_any G vl 24 _ w3 (by omega) (fits_24 v3 v4) (by rw [List.length_append, bitsOf_len]; omega) hw3)
          clear hw3 hk3 hb3 HP c0 c1
          go_wp2_with (go_at_call 49; fail)
          refine HP2.out.mono ?_
          rintro e w4 ⟨rfl, hw4, _, hb4⟩
          rw [← HS.out] at hw4
          have HW4 := Lib.hid hw4
          have HM4 := Lib.hid (hlow HM3.out hb4 hGw)
          have HB4 := Lib.hid (HB3.out.trans (hb4.mono (Nat.le_of_lt hGw)))
          clear hw4 hb4 n1
          go_wp2
          go_roundw
          case rel => exact ⟨m + 1, by omega, by go_num, HW4.out, HM4.out, HB4.out⟩
          case measure => simp [intOf]; omega
        · have hmn : m = n := by omega
          have t1 : ¬ ((m : Int) < (n : Int)) := by omega
          have hW2 := HW.out
          rw [List.take_of_length_le (by rw [Hn.out]; omega), ← H4e.out] at hW2
          have HW2 := Lib.hid hW2
          clear hW2 HW
          go_wp2
          go_loopw [54] (fun i wr => ∃ m : Nat, m ≤ 4 ∧ i = .int .i64 m ∧ WrAt wr G (head4 f ++ bandsB f.scale f.width m) ∧ wr.heap[w.heap.size]? = some (.cells fc 42 (0, 0)) ∧ Below w.heap.size w wr) (fun i _ => 4 - (intOf i).toNat)
          case atStart => exact ⟨0, by omega, rfl, by rw [show bandsB f.scale f.width 0 = [] from rfl, List.append_nil]; exact HW2.out, HM.out, HB.out⟩
          case round =>
            obtain ⟨k, hk, rfl, hW, hM, hB⟩ := hrel
            have HW := Lib.hid hW
            have HM := Lib.hid hM
            have HB := Lib.hid hB
            clear hW hM hB HW2
            by_cases hkk : k < 4
            · have t2 : (k : Int) < 4 := by omega
              obtain ⟨x, hx⟩ := list_get (k := k) Hsl.out hkk
              obtain ⟨y, hy⟩ := list_get (k := k) Hwl.out hkk
              obtain ⟨hcx, x0, x1⟩ := HCs.out k x hx
              obtain ⟨hcy, y0, y1⟩ := HCw.out k y hy
              obtain ⟨xn, rfl⟩ := Int.eq_ofNat_of_zero_le x0
              obtain ⟨yn, rfl⟩ := Int.eq_ofNat_of_zero_le y0
              have HS := Lib.hid (show head4 f ++ bandsB f.scale f.width (k + 1) = head4 f ++ bandsB f.scale f.width k ++ bitsOf xn 5 ++ bitsOf yn 5 by rw [bandsB_succ, ← List.append_assoc]; unfold bandB; rw [bgt_get hx, bgt_get hy, Int.toNat_natCast, Int.toNat_natCast, ← List.append_assoc])
              have hln : (head4 f ++ bandsB f.scale f.width k).length ≤ 1000 := by rw [List.length_append, bandsB_len, h4l]; omega
              have P := HPa.out _ _ HM.out
              have cx := P.2.2.1 k _ hcx
              have hu1 := u64_small (n := xn) (by omega)
              have hu2 := u64_small (n := yn) (by omega)
              have HP := Lib.hid (show Calls Tryz.prog 48 #[.pointer (some ⟨G, 0, none⟩), .int .u64 xn, .int .i64 5] _ _ from Put_any G xn 5 _ _ (by omega) (by omega) (by omega) HW.out)
              clear P hx hy hcx
              go_wp2_with (go_at_call 48; fail)
              refine HP.out.mono ?_
              rintro e w3 ⟨rfl, hw3, _, hb3⟩
              have HM3 := Lib.hid (hlow HM.out hb3 hGw)
              have HB3 := Lib.hid (HB.out.trans (hb3.mono (Nat.le_of_lt hGw)))
              have P := HPa.out _ _ HM3.out
              have cy := P.2.2.2.1 k _ hcy
              have HP2 := Lib.hid (show Calls Tryz.prog 48 #[.pointer (some ⟨G, 0, none⟩), .int .u64 yn, .int .i64 5] w3 _ from Put_any G yn 5 _ w3 (by omega) (by omega) (by rw [List.length_append, bitsOf_len]; omega) hw3)
              clear hw3 hb3 HP P cx hcy
              go_wp2_with (go_at_call 48; fail)
              refine HP2.out.mono ?_
              rintro e w4 ⟨rfl, hw4, _, hb4⟩
              rw [← HS.out] at hw4
              have HW4 := Lib.hid hw4
              have HM4 := Lib.hid (hlow HM3.out hb4 hGw)
              have HB4 := Lib.hid (HB3.out.trans (hb4.mono (Nat.le_of_lt hGw)))
              clear hw4 hb4 cy
              go_wp2
              go_roundw
              case rel => exact ⟨k + 1, by omega, by go_num, HW4.out, HM4.out, HB4.out⟩
              case measure => simp [intOf]; omega
            · have hk4 : k = 4 := by omega
              subst hk4
              have t2 : ¬ (((4 : Nat) : Int) < 4) := by omega
              have hW2 := HW.out
              rw [← H5e.out] at hW2
              have HW2 := Lib.hid hW2
              have P := HPa.out _ _ HM.out
              have P4 := Lib.hid P.2.2.2.2
              clear hW2 HW P
              go_wp2_with (refine wpList_load_part_w rfl 40 (.tmp 72) rfl w.heap.size 13 rfl (f.q.map (Value.int .i64)) _ P4.out Tryz.underlying40 rfl HFq.out ?_)
              go_loopw [74] (fun i wr => ∃ m : Nat, m ≤ 16 ∧ i = .int .i64 m ∧ WrAt wr G (head5 f ++ stepsB f.width f.q m) ∧ wr.heap[w.heap.size]? = some (.cells fc 42 (0, 0)) ∧ Below w.heap.size w wr) (fun i _ => 16 - (intOf i).toNat)
              case atStart => exact ⟨0, by omega, rfl, by rw [show stepsB f.width f.q 0 = [] from rfl, List.append_nil]; exact HW2.out, HM.out, HB.out⟩
              case round =>
                obtain ⟨j, hj, rfl, hW, hM, hB⟩ := hrel
                have HW := Lib.hid hW
                have HM := Lib.hid hM
                have HB := Lib.hid hB
                clear hW hM hB HW2 P4
                by_cases hjj : j < 16
                · have t3 : (j : Int) < 16 := by omega
                  obtain ⟨x, hx⟩ := list_get (k := j) Hql.out hjj
                  obtain ⟨q, hq⟩ : ∃ q, j / 4 = q := ⟨_, rfl⟩
                  have hq4 : q < 4 := by omega
                  obtain ⟨y, hy⟩ := list_get (k := q) Hwl.out hq4
                  obtain ⟨hcy, y0, y1⟩ := HCw.out q y hy
                  obtain ⟨yn, rfl⟩ := Int.eq_ofNat_of_zero_le y0
                  have HBand := Lib.hid (show ∀ W, Calls Tryz.prog 30 #[.int .i64 j] W fun e w' => e = .returned (.int .i64 (q : Int)) ∧ W = w' from fun W => (Band_any j W hjj).mono fun e w' ⟨he, hw⟩ => ⟨he.trans (ret_int (by omega)), hw⟩)
                  have hft := Hfit.out j hjj
                  rw [bgt_get hx, hq, bgt_get hy, Int.toNat_natCast] at hft
                  have HS := Lib.hid (show head5 f ++ stepsB f.width f.q (j + 1) = head5 f ++ stepsB f.width f.q j ++ bitsOf (twos x yn) yn by rw [stepsB_succ, ← List.append_assoc]; unfold stepB; rw [bgt_get hx, hq, bgt_get hy, Int.toNat_natCast])
                  have hln : (head5 f ++ stepsB f.width f.q j).length ≤ 2000 := by rw [List.length_append, stepsB_len, h5l]; have := Hws.out j (by omega); omega
                  have hix := run_index_arr (P := Tryz.prog) Tryz.underlying40 hjj (fun W => by kernel_rfl) (fun W => by kernel_rfl) (HCq.out _ _ hx)
                  have P := HPa.out _ _ HM.out
                  have cy := P.2.2.2.1 q _ hcy
                  have t4 : (q : Int) < 4 := by omega
                  have t5 : (0 : Int) ≤ (q : Int) := by omega
                  have HP := Lib.hid (Signed_any G x yn _ wr (by omega) hft (by omega) HW.out)
                  clear P hx hy hcy hft hq
                  go_wp2_with (first | (go_at_call 30; refine (HBand.out _).mono ?_; rintro e w5 ⟨rfl, rfl⟩) | (go_at_call 49; fail))
                  refine HP.out.mono ?_
                  rintro e w3 ⟨rfl, hw3, _, hb3⟩
                  rw [← HS.out] at hw3
                  have HW3 := Lib.hid hw3
                  have HM3 := Lib.hid (hlow HM.out hb3 hGw)
                  have HB3 := Lib.hid (HB.out.trans (hb3.mono (Nat.le_of_lt hGw)))
                  clear hw3 hb3 cy
                  go_wp2
                  go_roundw
                  case rel => exact ⟨j + 1, by omega, by go_num, HW3.out, HM3.out, HB3.out⟩
                  case measure => simp [intOf]; omega
                · have hj16 : j = 16 := by omega
                  subst hj16
                  have t3 : ¬ (((16 : Nat) : Int) < 16) := by omega
                  have hW2 := HW.out
                  rw [← HFr.out] at hW2
                  have HP := Lib.hid (HBy.out wr G hW2)
                  clear hW2 HW
                  go_wp2_with (go_at_call 50; fail)
                  refine HP.out.mono ?_
                  rintro e w3 ⟨rfl, rfl⟩
                  go_wp2
                  refine bodyPost_ret (results_tmp2 Tryz.results22 _ _ _) rfl ?_
                  exact ⟨wr.heap.size, rfl, HB.out.size, heap_alloc_new wr _, bnext HB.out (bnew wr _)⟩
end Go.Proofs.YthmgjielcmjenaaGreat

namespace Go.Proofs.YthmgjielcmjenaaGreat
open Go.RowKit

/-- an answer that tells whether a frame may be -/
def BoolPost (W : World) (PF : Prop) (e : Ending) (w' : World) : Prop := ∃ b : Bool, e = .returned (.bool b) ∧ (b = true ↔ PF) ∧ Below W.heap.size W w'
theorem scb_of {s : List Int} (hl : s.length = 4) (h : scaleOk s = true) : ScB s := ⟨hl, fun i hi => by
  obtain ⟨x, hx⟩ := list_get (k := i) hl hi
  have := List.all_eq_true.1 h x (List.mem_of_getElem? hx)
  simp only [Bool.and_eq_true, decide_eq_true_eq] at this
  rw [bgt_get hx]; exact this⟩
theorem gain_of' {g : List Int} (hl : g.length = 4) (h : gainOk g = true) : g.length = 4 ∧ ∀ i, i < 4 → 0 ≤ bgt g i ∧ bgt g i ≤ 3 := ⟨hl, fun i hi => by
  obtain ⟨x, hx⟩ := list_get (k := i) hl hi
  have := List.all_eq_true.1 h x (List.mem_of_getElem? hx)
  unfold inB at this
  simp only [Bool.and_eq_true, decide_eq_true_eq] at this
  rw [bgt_get hx]; exact this⟩
theorem fitsZ_iff {v : Int} {k : Nat} : fitsZ v k = true ↔ widthZ v ≤ k := by unfold fitsZ; rw [decide_eq_true_eq]

set_option maxRecDepth 100000 in
set_option maxHeartbeats 8000000 in
theorem Right_any (f : FrameV) (A : Option Addr) (c : Nat) (w : World) (h : f.Len) (hlen : f.tones.length ≤ 9223372036854775807) (hr : Row w w.heap.size A (toneCells f.tones)) :
    Calls Tryz.prog 32 #[.agg (frameA f (.slice A f.tones.length c))] w (BoolPost w (RightF f)) := by
  have HG := Lib.hid (fun W => gainRight_any f.gains W h.g)
  have HT := Lib.hid (fun W (hW : Below w.heap.size w W) => rightTones_any f.tones A c W hlen (hr.later hW))
  have HS := Lib.hid (fun W => scalesRight_any f.scale W h.s)
  have HL := h
  have Hno1 := Lib.hid (fun (hR : RightF f) => gain_ok hR.gains)
  have Hno2 := Lib.hid (fun (hR : RightF f) => (show TonesR f.tones ∧ f.tones.length ≤ 2 from ⟨⟨hR.tidx, hR.tinc⟩, hR.tlen⟩))
  have Hno3 := Lib.hid (fun (hR : RightF f) => hR.scale.ok)
  have Hno4 := Lib.hid (fun (hR : RightF f) => hR.width)
  have Hno5 := Lib.hid (fun (hR : RightF f) => hR.q)
  have Hyes := Lib.hid (fun (h1 : gainOk f.gains = true) (h2 : TonesR f.tones ∧ f.tones.length ≤ 2) (h3 : scaleOk f.scale = true) (h4 : ∀ i, i < 4 → 0 ≤ bgt f.width i ∧ bgt f.width i ≤ 24) (h5 : ∀ k, k < 16 → (widthZ (bgt f.q k) : Int) ≤ bgt f.width (k / 4)) =>
    (show RightF f from ⟨gain_of' h.g h1, h2.2, h2.1.1, h2.1.2, scb_of h.s h3, h.w, h4, h.q, h5⟩))
  have HPa := Lib.hid (fun (W : World) (g : Nat) hg => frame_parts (w := W) (g := g) HL (tv := .slice A f.tones.length c) hg)
  have hgl : (f.gains.map (Value.int .i64)).length = 4 := by simp [HL.g]
  have hsl : (f.scale.map (Value.int .i64)).length = 4 := by simp [HL.s]
  have hwl : (f.width.map (Value.int .i64)).length = 4 := by simp [HL.w]
  obtain ⟨PF, hPF⟩ : ∃ PF : Prop, RightF f = PF := ⟨_, rfl⟩
  rw [hPF] at Hno1 Hno2 Hno3 Hno4 Hno5 Hyes ⊢
  clear hPF
  obtain ⟨gg, ts, sc, wd, q⟩ := f
  simp only at *
  have Hql := Lib.hid HL.q
  have Hwl := Lib.hid HL.w
  simp only at Hql Hwl
  have HCw := Lib.hid (fun (k : Nat) (x : Int) (h : wd[k]? = some x) => blk_get h)
  have HCq := Lib.hid (fun (k : Nat) (x : Int) (h : q[k]? = some x) => (show (q.map (Value.int .i64))[k]? = some (.int .i64 x) by rw [List.getElem?_map, h]; rfl))
  generalize gainOk gg = B1 at *
  generalize scaleOk sc = B3 at *
  unfold RTonesPost at HT
  generalize (TonesR ts ∧ ts.length ≤ 2) = PT at *
  generalize ts.length = n at *
  generalize frameA ⟨gg, ts, sc, wd, q⟩ (.slice A n c) = fc at *
  unfold blockV at *
  generalize hgv : gg.map (Value.int .i64) = gv at *
  generalize hsv : sc.map (Value.int .i64) = sv at *
  generalize hwv : wd.map (Value.int .i64) = wv at *
  generalize hqv : q.map (Value.int .i64) = qv at *
  have HFg := Lib.hid (show (Tryz.prog.info? 37).map (·.size) = some gv.length by rw [hgl]; exact inf_four)
  have HFs := Lib.hid (show (Tryz.prog.info? 37).map (·.size) = some sv.length by rw [hsl]; exact inf_four)
  have HFw := Lib.hid (show (Tryz.prog.info? 37).map (·.size) = some wv.length by rw [hwl]; exact inf_four)
  have HM := Lib.hid (heap_alloc_new w (.cells fc 42))
  have P := HPa.out _ _ HM.out
  have P0 := Lib.hid P.1
  have P3 := P.2.1
  have HB0 := Lib.hid (bnew w (.cells fc 42))
  clear P hr h hgv hsv hwv hqv hgl hsl hwl HL hlen
  go_enter Tryz.func32, Tryz.ntmps32
  go_wp2_with (first | (go_at_call 59; fail) | (refine wpList_load_part_w rfl 37 (.tmp 7) rfl w.heap.size 0 rfl gv _ P0.out Tryz.underlying37 rfl HFg.out ?_))
  refine (HG.out _).mono ?_
  rintro e w1 ⟨rfl, hb1⟩
  have HM1 := Lib.hid (hkeep HM.out hb1)
  have HB1 := Lib.hid (bnext HB0.out hb1)
  have Q := HPa.out _ _ HM1.out
  have p3 := Q.2.1
  clear Q hb1 P3 P0 HM HB0 HG
  cases B1
  · have HX := Lib.hid (show ¬ PF from fun h => (by cases Hno1.out h))
    clear Hno1 Hyes
    go_wp2
    go_ret
    exact ⟨false, rfl, ⟨nofun, fun h => (HX.out h).elim⟩, HB1.out⟩
  have Hy1 := Lib.hid (Hyes.out rfl)
  clear Hno1 Hyes
  go_wp2_with (go_at_call 60; fail)
  refine (HT.out _ HB1.out).mono ?_
  rintro e w2 ⟨b2, rfl, hb2i, hb2⟩
  have HI2 := Lib.hid hb2i
  have HM2 := Lib.hid (hkeep HM1.out hb2)
  have HB2 := Lib.hid (bnext HB1.out hb2)
  have Q := HPa.out _ _ HM2.out
  have Q2 := Lib.hid Q.2.2.1
  clear Q hb2 hb2i p3 HM1 HB1 HT
  cases b2
  · have HX := Lib.hid (show ¬ PF from fun h => (by cases HI2.out.2 (Hno2.out h)))
    clear Hy1 HI2
    go_wp2
    go_ret
    exact ⟨false, rfl, ⟨nofun, fun h => (HX.out h).elim⟩, HB2.out⟩
  have Hy2 := Lib.hid (Hy1.out (HI2.out.1 rfl))
  clear Hno2 HI2 Hy1
  go_wp2_with (first | (go_at_call 61; fail) | (refine wpList_load_part_w rfl 37 (.tmp 18) rfl w.heap.size 5 rfl sv _ Q2.out Tryz.underlying37 rfl HFs.out ?_))
  refine (HS.out _).mono ?_
  rintro e w3 ⟨rfl, hb3⟩
  have HM3 := Lib.hid (hkeep HM2.out hb3)
  have HB3 := Lib.hid (bnext HB2.out hb3)
  have Q := HPa.out _ _ HM3.out
  have Q3 := Lib.hid Q.2.2.2.1
  have Q4 := Lib.hid Q.2.2.2.2
  clear Q hb3 HM2 HB2 HS
  cases B3
  · have HX := Lib.hid (show ¬ PF from fun h => (by cases Hno3.out h))
    clear Hy2 Hno3
    go_wp2
    go_ret
    exact ⟨false, rfl, ⟨nofun, fun h => (HX.out h).elim⟩, HB3.out⟩
  have Hy3 := Lib.hid (Hy2.out rfl)
  clear Hno3 Hy2
  go_wp2_with (refine wpList_load_part_w rfl 37 (.tmp 23) rfl w.heap.size 9 rfl wv _ Q3.out Tryz.underlying37 rfl HFw.out ?_)
  go_loop [25] (fun i => ∃ m : Nat, m ≤ 4 ∧ i = .int .i64 m ∧ (∀ i, i < m → 0 ≤ bgt wd i ∧ bgt wd i ≤ 24) ∧ ∀ k, k < m * 4 → (widthZ (bgt q k) : Int) ≤ bgt wd (k / 4)) (fun i => 4 - (intOf i).toNat)
  case atStart => exact ⟨0, by omega, rfl, fun i hi => by omega, fun k hk => by omega⟩
  case round =>
    obtain ⟨m, hm, rfl, hw1, hw2⟩ := hrel
    have Hw1 := Lib.hid hw1
    have Hw2 := Lib.hid hw2
    clear hw1 hw2
    by_cases hlk : m < 4
    · have t1 : (m : Int) < 4 := by omega
      obtain ⟨x, hx⟩ := list_get (k := m) Hwl.out hlk
      have Hx := Lib.hid (bgt_get hx)
      have hix := run_index_arr (P := Tryz.prog) Tryz.underlying37 hlk (fun W => by kernel_rfl) (fun W => by kernel_rfl) (HCw.out _ _ hx)
      by_cases hx1 : x < 0
      · have t2 : decide (x < 0) = true := decide_eq_true hx1
        have HX := Lib.hid (show ¬ PF from fun h => by
          have := Hno4.out h m hlk
          rw [Hx.out] at this
          omega)
        clear hx
        go_wp2
        go_ret
        exact ⟨false, rfl, ⟨nofun, fun h => (HX.out h).elim⟩, HB3.out⟩
      by_cases hx2 : 24 < x
      · have t2 : decide (x < 0) = false := decide_eq_false hx1
        have t3 : decide (24 < x) = true := decide_eq_true hx2
        have HX := Lib.hid (show ¬ PF from fun h => by
          have := Hno4.out h m hlk
          rw [Hx.out] at this
          omega)
        clear hx
        go_wp2
        go_ret
        exact ⟨false, rfl, ⟨nofun, fun h => (HX.out h).elim⟩, HB3.out⟩
      obtain ⟨W, rfl⟩ := Int.eq_ofNat_of_zero_le (show 0 ≤ x by omega)
      have hW24 : W ≤ 24 := by omega
      have t2 : decide ((W : Int) < 0) = false := decide_eq_false (by omega)
      have t3 : decide ((24 : Int) < (W : Int)) = false := decide_eq_false (by omega)
      have hsl := slice_block w.heap.size 13 ((m : Int) * 4) (((m : Int) + 1) * 4) (m * 4) (m * 4 + 4) (by omega) (by omega) (by omega) (by omega) (by omega)
      rw [show m * 4 + 4 - m * 4 = 4 by omega] at hsl
      clear hx hx1 hx2
      go_wp2
      go_loop [43] (fun i => ∃ k : Nat, k ≤ 4 ∧ i = .int .i64 k ∧ ∀ j, j < m * 4 + k → (widthZ (bgt q j) : Int) ≤ bgt wd (j / 4)) (fun i => 4 - (intOf i).toNat)
      case atStart => exact ⟨0, by omega, rfl, fun j hj => Hw2.out j (by omega)⟩
      case round =>
        obtain ⟨k, hk, rfl, hq1⟩ := hrel
        have Hq1 := Lib.hid hq1
        clear hq1
        by_cases hkk : k < 4
        · have t4 : (k : Int) < 4 := by omega
          obtain ⟨y, hy⟩ := list_get (k := m * 4 + k) Hql.out (by omega)
          have ce := Q4.out _ _ (HCq.out _ _ hy)
          rw [← Nat.add_assoc] at ce
          have Hy := Lib.hid (bgt_get hy)
          have HF := Lib.hid (fun V => Fits_any y W V (by omega))
          have Hiff := Lib.hid (fitsZ_iff (v := y) (k := W))
          obtain ⟨bf, hbf⟩ : ∃ bf, fitsZ y W = bf := ⟨_, rfl⟩
          rw [hbf] at HF Hiff
          clear hy hbf
          cases bf
          · have HX := Lib.hid (show ¬ PF from fun h => by
              have h1 := Hno5.out h (m * 4 + k) (by omega)
              rw [Hy.out, show (m * 4 + k) / 4 = m by omega, Hx.out] at h1
              cases Hiff.out.2 (by omega))
            clear Hiff
            go_wp2_with (go_at_call 62; refine (HF.out _).mono ?_; rintro e w5 ⟨rfl, rfl⟩)
            go_ret
            exact ⟨false, rfl, ⟨nofun, fun h => (HX.out h).elim⟩, HB3.out⟩
          · have Hok := Lib.hid (Hiff.out.1 rfl)
            clear Hiff
            go_wp2_with (go_at_call 62; refine (HF.out _).mono ?_; rintro e w5 ⟨rfl, rfl⟩)
            go_round
            case rel =>
              refine ⟨k + 1, by omega, by go_num, fun j hj => ?_⟩
              by_cases hjk : j = m * 4 + k
              · subst hjk
                rw [Hy.out, show (m * 4 + k) / 4 = m by omega, Hx.out]
                have := Hok.out
                omega
              · exact Hq1.out j (by omega)
            case measure => simp [intOf]; omega
        · have hk4 : k = 4 := by omega
          subst hk4
          have t4 : ¬ (((4 : Nat) : Int) < 4) := by omega
          go_wp2
          go_round
          case rel =>
            refine ⟨m + 1, by omega, by go_num, fun i hi => ?_, fun j hj => Hq1.out j (by omega)⟩
            by_cases him : i = m
            · subst him; rw [Hx.out]; omega
            · exact Hw1.out i (by omega)
          case measure => simp [intOf]; omega
    · have hm4 : m = 4 := by omega
      subst hm4
      have t1 : ¬ (((4 : Nat) : Int) < 4) := by omega
      have HY := Lib.hid (Hy3.out Hw1.out (fun k hk => Hw2.out k (by omega)))
      go_wp2
      go_ret
      exact ⟨true, rfl, ⟨fun _ => HY.out, fun _ => rfl⟩, HB3.out⟩
end Go.Proofs.YthmgjielcmjenaaGreat
