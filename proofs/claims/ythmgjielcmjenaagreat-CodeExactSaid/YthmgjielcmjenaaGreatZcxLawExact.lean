/- LawExact. Conditions: as each theorem states. -/
import Derived.Test.YthmgjielcmjenaaGreatZc50
import Derived.Test.YthmgjielcmjenaaGreatZc20
import Derived.Test.YthmgjielcmjenaaGreatZc31

namespace Go.Proofs.YthmgjielcmjenaaGreat
open Go.RowKit

theorem row_arge {w : World} {v : Value} (h : Arg w (.slice 1 (.int .i64)) v) : ∃ (l : List Int) (A : Option Addr) (cap : Nat), v = .slice A l.length cap ∧ l.length ≤ 9223372036854775807 ∧ I64s l ∧ Row w w.heap.size A (l.map (.int .i64)) := by
  obtain ⟨v', xs, hc, hi, h64⟩ := ints_of_shape h
  obtain ⟨a, cap, rfl, h1, h2, h3⟩ := hi
  have hv : v = .slice a xs.length cap := by simpa using hc
  exact ⟨xs, a, cap, hv, by omega, h64, h3⟩
theorem chunk_bytes {size : Nat} (fs : List FrameV) (h : ∀ f ∈ fs, RightF f ∧ bitsZ f ≤ 8 * (size : Int)) {i : Nat} {f : FrameV} (hi : fs[i]? = some f) : chunk (bytesF size fs) size i = frameBytes f size := by
  have hl : ∀ cs ∈ fs.map (fun f => frameBytes f size), cs.length = size := fun cs hcs => by
    obtain ⟨g, hg, rfl⟩ := List.mem_map.1 hcs
    exact frameBytes_len (h g hg).1 (h g hg).2
  have hf := h f (List.mem_of_getElem? hi)
  have hfl := frameBytes_len hf.1 hf.2
  apply List.ext_getElem?
  intro j
  unfold chunk bytesF
  rw [List.getElem?_take]
  by_cases hj : j < size
  · rw [if_pos hj, List.getElem?_drop, frows_get _ hl i j hj, List.getElem?_map, hi]; rfl
  · rw [if_neg hj, List.getElem?_eq_none (by omega)]
theorem chunk_ok {size : Nat} (fs : List FrameV) (h : ∀ f ∈ fs, RightF f ∧ bitsZ f ≤ 8 * (size : Int)) {i : Nat} {f : FrameV} (hi : fs[i]? = some f) : rdErr (chunk (bytesF size fs) size i) = 0 ∧ frameR (chunk (bytesF size fs) size i) = f := by
  have hf := h f (List.mem_of_getElem? hi)
  rw [chunk_bytes fs h hi]
  obtain ⟨h1, h2⟩ := read_frame hf.1 (size := size) hf.2
  exact ⟨(rd_b h2 (by rw [h1]; exact hf.1)).1, h1⟩
theorem packN_lt {L : List Nat} (h : Bin L) : ∀ x ∈ packN L, x < 256 := fun x hx => by
  unfold packN at hx
  obtain ⟨j, _, rfl⟩ := List.mem_map.1 hx
  exact byteAt_lt h j
theorem frameBytes_lt (f : FrameV) (size : Nat) : ∀ x ∈ frameBytes f size, x < 256 := fun x hx => by
  unfold frameBytes at hx
  rcases List.mem_append.1 hx with h | h
  · exact packN_lt (frameB_bin f) x h
  · have := List.eq_of_mem_replicate h
    omega
theorem bytesF_lt (size : Nat) (fs : List FrameV) : ∀ x ∈ bytesF size fs, x < 256 := fun x hx => by
  unfold bytesF at hx
  obtain ⟨l, hl, hx⟩ := List.mem_flatten.1 hx
  obtain ⟨f, _, rfl⟩ := List.mem_map.1 hl
  exact frameBytes_lt f size x hx
/-- frames' bytes are read back -/
theorem cread_back (gc size : Nat) (fs : List FrameV) (A : Option Addr) (c : Nat) (w : World) (hg : CoderAt w gc size) (h0 : 0 < size) (hs : size ≤ 96) (hfs : ∀ f ∈ fs, RightF f ∧ bitsZ f ≤ 8 * (size : Int)) (hc : fs.length ≤ 10000) (hr : Row w w.heap.size A (u8s (bytesF size fs))) (hcap : (bytesF size fs).length ≤ c) :
    Calls Tryz.prog 7 #[.pointer (some ⟨gc, 0, none⟩), .slice A (bytesF size fs).length c] w (FramesPost w fs) := by
  have hbl := bytesF_len fs hfs
  rcases Nat.eq_zero_or_pos fs.length with hz | hz
  · have hfn := List.eq_nil_of_length_eq_zero hz
    subst hfn
    refine (CRead_empty gc size A c w hg h0 hs).mono fun e w' h => ?_
    exact ⟨none, 0, [], h.1, rfl, Nat.le_refl _, by omega, ⟨Row.none_ _ _ _, nofun, nofun⟩, h.2⟩
  · have hmul : fs.length * size ≤ 10000 * 96 := Nat.mul_le_mul hc hs
    have hpos : 0 < fs.length * size := Nat.mul_pos hz h0
    have hdiv : (bytesF size fs).length / size = fs.length := by rw [hbl]; exact Nat.mul_div_cancel _ h0
    refine (CRead_any gc size (bytesF size fs) A c w hg h0 hs (by omega) (by omega) (bytesF_lt size fs) hr hcap (by rw [hbl]; exact Nat.mul_mod_left _ _)).mono fun e w' h => ?_
    rcases h with ⟨m, h1, _, h3, _⟩ | ⟨_, h2⟩
    · exfalso
      rw [hbl] at h1
      have hm : m < fs.length := by
        have := Nat.le_of_mul_le_mul_right h1 h0
        omega
      exact h3 (chunk_ok fs hfs (List.getElem?_eq_getElem hm)).1
    · rw [hdiv] at h2
      have e : (List.range fs.length).map (fun i => frameR (chunk (bytesF size fs) size i)) = fs := by
        apply List.ext_getElem?
        intro i
        rcases Nat.lt_or_ge i fs.length with hi | hi
        · rw [range_map_get _ hi, (chunk_ok fs hfs (List.getElem?_eq_getElem hi)).2, List.getElem?_eq_getElem hi]
        · rw [List.getElem?_eq_none (by simpa using hi), List.getElem?_eq_none hi]
      rw [e] at h2
      exact h2
theorem samps_len {l : List Int} (size : Int) : (sampsZ (framesZ l size) l.length).length = l.length := by
  have hs : ((framesZ l size).map specZ).flatten.length = (framesZ l size).length * 16 := by
    rw [frows_len _ (fun cs hcs => by
      obtain ⟨f, _, rfl⟩ := List.mem_map.1 hcs
      exact specZ_len f), List.length_map]
  unfold sampsZ firstZ
  rw [List.length_map, List.length_take, wholeZ_len hs, framesZ_len]
  unfold countN
  omega

set_option maxRecDepth 100000 in
set_option maxHeartbeats 16000000 in
theorem CodeExact_walk (size : Int) (l : List Int) (A : Option Addr) (cap : Nat) (w : World) (hl : l.length ≤ 9223372036854775807) (h64 : I64s l) (hr : Row w w.heap.size A (l.map (.int .i64))) :
    Calls Tryz.prog 4 #[.int .i64 size, .slice A l.length cap] w fun e w' => e = .returned (.bool true) ∧ Below w.heap.size w w' := by
  have HFew := Lib.hid (Few13_any l A cap w hl h64 hr)
  have h16 : Samp16 (few13 l) := few13_bd l
  have hn150 := few13_len l
  have HAw := Lib.hid (fun W => awake13_any W)
  generalize l.length = nl at *
  generalize few13 l = X at *
  clear hl h64 hr
  obtain ⟨n, hn⟩ : ∃ n, X.length = n := ⟨_, rfl⟩
  have HFew2 := Lib.hid (show Calls Tryz.prog 13 #[.slice A nl cap] w (GapPost w X) from HFew.out)
  unfold GapPost at HFew2
  rw [hn] at HFew2
  clear HFew
  by_cases hsz : size < 24 ∨ 96 < size
  · have HNo := Lib.hid (fun W => codeNew_no size W hsz)
    clear hsz h16
    go_enter Tryz.func4, Tryz.ntmps4
    go_wp2_with (go_at_call 13; fail)
    refine HFew2.out.mono ?_
    rintro e w1 ⟨A1, c1, rfl, _, _, r1, hb1⟩
    have E1 := Lib.hid hb1
    clear r1 hb1
    go_wp2_with (first | (go_at_call 5; refine (HNo.out _).mono ?_; rintro e w2 ⟨rfl, rfl⟩) | (go_at_call 11; refine (HAw.out _).mono ?_; rintro e w9 ⟨rfl, hb9⟩))
    go_ret
    exact ⟨rfl, bnext E1.out hb9⟩
  obtain ⟨sn, rfl⟩ := Int.eq_ofNat_of_zero_le (show 0 ≤ size by omega)
  have hs1 : 24 ≤ sn := by omega
  have hs2 : sn ≤ 96 := by omega
  obtain ⟨c, hc⟩ : ∃ c, countN X.length = c := ⟨_, rfl⟩
  have hcn : c ≤ 10 := by rw [← hc]; unfold countN; omega
  have hcl : (framesZ X (sn : Int)).length = c := by rw [framesZ_len, hc]
  have hfr := framesZ_right h16 (size := (sn : Int)) (by omega) (by omega)
  obtain ⟨NB, hNB⟩ : ∃ NB, (bytesF sn (framesZ X (sn : Int))).length = NB := ⟨_, rfl⟩
  have hNB2 : NB = c * sn := by rw [← hNB, bytesF_len _ hfr, hcl]
  have HNew := Lib.hid (fun W => codeNew_any (sn : Int) W (by omega) (by omega))
  have HFs := Lib.hid (fun g B k W (hg : CoderAt W g (sn : Int)) (r : Row W W.heap.size B (X.map (.int .i64))) => (show Calls Tryz.prog 6 #[.pointer (some ⟨g, 0, none⟩), .slice B n k] W (FramesPost W (framesZ X (sn : Int))) from hn ▸ Frames_any g (sn : Int) X B k W hg (by omega) (by omega) (by omega) r h16))
  have HBy := Lib.hid (fun g (L : List (FrH × FrameV)) B k W (hg : CoderAt W g (sn : Int)) (hL : L.map Prod.snd = framesZ X (sn : Int)) (hA : FramesAt W B L) => (show L.length = c ∧ Calls Tryz.prog 8 #[.pointer (some ⟨g, 0, none⟩), .slice B c k] W (AllBytes W (bytesF sn (framesZ X (sn : Int)))) from by
    have hLc : L.length = c := by rw [← hcl, ← hL, List.length_map]
    refine ⟨hLc, ?_⟩
    rw [← hLc, ← hL]
    exact CBytes_any g sn L B k W hg hs2 (by omega) hA (fun p hp => hfr p.2 (by rw [← hL]; exact List.mem_map.2 ⟨p, hp, rfl⟩))))
  have HRd := Lib.hid (fun g B k W (hg : CoderAt W g (sn : Int)) (r : Row W W.heap.size B (u8s (bytesF sn (framesZ X (sn : Int))))) (hk : NB ≤ k) => (show Calls Tryz.prog 7 #[.pointer (some ⟨g, 0, none⟩), .slice B NB k] W (FramesPost W (framesZ X (sn : Int))) from by
    have := cread_back g sn (framesZ X (sn : Int)) B k W hg (by omega) hs2 hfr (by omega) r (by omega)
    rwa [hNB] at this))
  have HRt := Lib.hid (fun g W (hg : CoderAt W g (sn : Int)) => (show Calls Tryz.prog 14 #[.pointer (some ⟨g, 0, none⟩), .int .i64 n] W fun e w' => e = .returned (.tuple #[.int .i64 NB, .int .i64 (2 * (n : Int))]) ∧ W = w' from (Rate_any g (sn : Int) n W hg (by omega) (by omega)).mono fun e w' h => by
    refine ⟨h.1.trans ?_, h.2⟩
    have e1 : rateA (sn : Int) n = NB := by
      unfold rateA
      rw [if_neg (by omega), hNB2, ← hc]
      unfold countN
      rw [hn]
      push_cast
      rfl
    have e2 : rateB n = 2 * (n : Int) := by unfold rateB; rw [if_neg (by omega)]
    rw [e1, e2]))
  have HSa := Lib.hid (fun g (L : List (FrH × FrameV)) B k W (hg : CoderAt W g (sn : Int)) (hL : L.map Prod.snd = framesZ X (sn : Int)) (hA : FramesAt W B L) => (show Calls Tryz.prog 10 #[.pointer (some ⟨g, 0, none⟩), .slice B c k, .int .i64 n] W (GapPost W (sampsZ (framesZ X (sn : Int)) n)) from by
    have hLc : L.length = c := by rw [← hcl, ← hL, List.length_map]
    rw [← hLc, ← hL]
    exact Samples_any g (sn : Int) L B k n W hg (by omega) hA (fun (p : FrH × FrameV) hp => (hfr p.2 (by rw [← hL]; exact List.mem_map.2 ⟨p, hp, rfl⟩)).1)))
  have hsl := samps_len (l := X) (sn : Int)
  rw [hn] at hsl
  have Hsl := Lib.hid hsl
  have HsX := Lib.hid (fun (h : 55 ≤ sn) => (show sampsZ (framesZ X (sn : Int)) n = X from hn ▸ samps_frames h16 (by omega) (by omega)))
  have HFz := Lib.hid (fun (L : List (FrH × FrameV)) (h : L.map Prod.snd = framesZ X (sn : Int)) (m : Nat) (p : FrH × FrameV) (hp : L[m]? = some p) => (show (framesZ X (sn : Int))[m]? = some p.2 from by rw [← h, List.getElem?_map, hp]; rfl))
  have HSm := Lib.hid (fun F A1 A2 c1 c2 W (h : RightF F) (r1 : Row W W.heap.size A1 (toneCells F.tones)) (r2 : Row W W.heap.size A2 (toneCells F.tones)) => Same_one F A1 A2 c1 c2 W h.len r1 r2 (by have := h.tlen; omega))
  have HRg := Lib.hid (fun f hf => (hfr f hf).1)
  have Hcl := Lib.hid hcl
  have hmul : (sn : Int) * (c : Int) = (NB : Int) := by rw [hNB2, Int.mul_comm]; push_cast; rfl
  have hNBb : NB ≤ 960 := by rw [hNB2]; exact Nat.le_trans (Nat.mul_le_mul hcn hs2) (by decide)
  have Hnb := Lib.hid hNB
  have hnn : n ≤ 150 := by rw [← hn]; exact hn150
  obtain ⟨M2, hM2⟩ : ∃ M2 : Int, 2 * (n : Int) = M2 := ⟨_, rfl⟩
  rw [hM2] at HRt
  clear h16 hsz hc hcl hfr hNB hNB2 hsl
  have Hn := Lib.hid hn
  clear hn
  generalize framesZ X (sn : Int) = FZ at *
  generalize sampsZ FZ (n : Int) = SX at *
  unfold GapPost at HSa
  rw [Hsl.out] at HSa
  unfold AllBytes at HBy
  rw [Hnb.out] at HBy
  generalize bytesF sn FZ = BZ at *
  go_enter Tryz.func4, Tryz.ntmps4
  go_wp2_with (go_at_call 13; fail)
  refine HFew2.out.mono ?_
  rintro e w1 ⟨A1, c1, rfl, _, _, r1, hb1⟩
  have R1 := Lib.hid r1
  have E1 := Lib.hid hb1
  clear r1 hb1 HFew2
  go_wp2_with (go_at_call 5; fail)
  refine (HNew.out _).mono ?_
  rintro e w2 ⟨gc, rfl, _, hg, hb2⟩
  have C2 := Lib.hid hg
  have R2 := Lib.hid (R1.out.later hb2)
  have E2 := Lib.hid (bnext E1.out hb2)
  clear hg hb2 R1 E1 HNew
  go_wp2_with (go_at_call 6; fail)
  refine (HFs.out _ _ _ _ C2.out R2.out).mono ?_
  rintro e w3 ⟨A3, c3, L, rfl, hmap, _, _, hA3, hb3⟩
  have C3 := Lib.hid (show CoderAt w3 gc (sn : Int) from hkeep C2.out hb3)
  have R3 := Lib.hid (R2.out.later hb3)
  have E3 := Lib.hid (bnext E2.out hb3)
  have F3 := Lib.hid hA3
  have HB3 := HBy.out gc L A3 c3 w3 C3.out hmap hA3
  have HLc := HB3.1
  rw [HLc]
  have HB3 := Lib.hid HB3.2
  have HLc := Lib.hid HLc
  have Hmap := Lib.hid hmap
  clear hb3 hA3 C2 R2 E2 HFs HBy hmap
  go_wp2_with (go_at_call 8; fail)
  refine HB3.out.mono ?_
  rintro e w4 ⟨A4, c4, rfl, hc4, _, hr4, hb4⟩
  have C4 := Lib.hid (show CoderAt w4 gc (sn : Int) from hkeep C3.out hb4)
  have R4 := Lib.hid (R3.out.later hb4)
  have E4 := Lib.hid (bnext E3.out hb4)
  have F4 := Lib.hid (F3.out.later hb4)
  have HR4 := Lib.hid (HRd.out gc A4 c4 w4 C4.out hr4 hc4)
  clear hb4 hr4 hc4 C3 R3 E3 F3 HB3 HRd
  go_wp2_with (go_at_call 7; fail)
  refine HR4.out.mono ?_
  rintro e w5 ⟨A5, c5, L2, rfl, hmap2, _, _, hA5, hb5⟩
  have C5 := Lib.hid (show CoderAt w5 gc (sn : Int) from hkeep C4.out hb5)
  have R5 := Lib.hid (R4.out.later hb5)
  have E5 := Lib.hid (bnext E4.out hb5)
  have F5 := Lib.hid (F4.out.later hb5)
  have G5 := Lib.hid hA5
  have hL2 : L2.length = c := by rw [← Hcl.out, ← hmap2, List.length_map]
  have HL2 := Lib.hid hL2
  rw [hL2]
  have Hmap2 := Lib.hid hmap2
  have HS5 := Lib.hid (HSa.out gc L2 A5 c5)
  clear hb5 hA5 hmap2 hL2 C4 R4 E4 F4 HR4 HSa
  go_wp2_with (go_at_call 14; refine (HRt.out _ _ C5.out).mono ?_; rintro e w6 ⟨rfl, rfl⟩)
  go_loopw [15] (fun i wr => ∃ k : Nat, k ≤ c ∧ i = .int .i64 k ∧ Below w5.heap.size w5 wr) (fun i _ => c - (intOf i).toNat)
  case atStart => exact ⟨0, by omega, rfl, Below.refl _ _⟩
  case round =>
    obtain ⟨k, hk, rfl, hbel⟩ := hrel
    have Hbel := Lib.hid hbel
    clear hbel
    by_cases hlk : k < c
    · have t1 : (k : Int) < (c : Int) := by omega
      have t2 : (0 : Int) ≤ (k : Int) := by omega
      obtain ⟨p1, hp1⟩ := list_get (k := k) HLc.out hlk
      obtain ⟨p2, hp2⟩ := list_get (k := k) HL2.out hlk
      have q1 := HFz.out L Hmap.out k p1 hp1
      have q2 := HFz.out L2 Hmap2.out k p2 hp2
      have hpe : p2.2 = p1.2 := by rw [q1] at q2; exact (Option.some.inj q2).symm
      have hR := HRg.out p1.2 (List.mem_of_getElem? q1)
      obtain ⟨b1, o1, rfl, hb1, hc1⟩ := frame_at F5.out hp1
      obtain ⟨b2, o2, rfl, hb2, hc2⟩ := frame_at G5.out hp2
      have T1 := F5.out.tones p1 (List.mem_of_getElem? hp1)
      have T2 := G5.out.tones p2 (List.mem_of_getElem? hp2)
      have hf1 : (frC p1).length = 29 := frC_len hR.len
      have hf2 : (frC p2).length = 29 := frC_len (by rw [hpe]; exact hR.len)
      have HSame := Lib.hid (fun (x : GW wr) => (show Calls Tryz.prog 15 #[.agg (frC p1).toArray, .agg (frC p2).toArray] x.1 fun e w' => e = .returned (.bool true) ∧ Below x.1.heap.size x.1 w' from by
        have hx := bnext Hbel.out x.2
        have r1 := (T1.later hx).2.2
        have r2 := (T2.later hx).2.2
        rw [hpe] at r2
        have := HSm.out p1.2 p1.1.a p2.1.a p1.1.c p2.1.c x.1 hR r1 r2
        rw [frC_A, frC_A, hpe]
        exact this))
      have x5 := fun W (hW : ∃ x : GW wr, W = x.1) j v (hv : (frC p1)[j]? = some v) => ((bnext Hbel.out (gw_below hW)).cell (p := ⟨b1, o1 + k * 29 + j, none⟩) hb1).trans (hc1 j v hv)
      have y5 := fun W (hW : ∃ x : GW wr, W = x.1) j v (hv : (frC p2)[j]? = some v) => ((bnext Hbel.out (gw_below hW)).cell (p := ⟨b2, o2 + k * 29 + j, none⟩) hb2).trans (hc2 j v hv)
      generalize frC p1 = fl1 at *
      generalize frC p2 = fl2 at *
      have HF1 := Lib.hid (show (Tryz.prog.info? 42).map (·.size) = some fl1.length by rw [hf1]; exact inf_frame)
      have HF2 := Lib.hid (show (Tryz.prog.info? 42).map (·.size) = some fl2.length by rw [hf2]; exact inf_frame)
      clear hp1 hp2 q1 q2 hpe hR hb1 hb2 hc1 hc2 T1 T2 hf1 hf2
      go_wp2_with fail
      refine wp_region_calm (by kernel_rfl) (by kernel_rfl) ?_
      repeat (first | (go_big_quiet_want; refine quiet_load_part 42 (.tmp 108) rfl b1 (o1 + k * 29) rfl fl1 _ x5 Tryz.underlying42 rfl HF1.out ?_; go_simp; go_big_quiet_on) | (go_big_quiet_want; refine quiet_load_part 42 (.tmp 112) rfl b2 (o2 + k * 29) rfl fl2 _ y5 Tryz.underlying42 rfl HF2.out ?_; go_simp; go_big_quiet_on) | go_big_quiet_step ((go_at_call 15; exact calm_call (HSame.out _))))
      refine wpQuiet_nil ?_
      intro w7 hw'
      have E7 := Lib.hid (bnext Hbel.out (gw_below hw'))
      clear hw' x5 y5 HSame
      go_wp2
      go_roundw
      case rel => exact ⟨k + 1, by omega, by go_num, E7.out⟩
      case measure => simp [intOf]; omega
    · have hkc : k = c := by omega
      have t1 : ¬ ((k : Int) < (c : Int)) := by omega
      have C6 := Lib.hid (show CoderAt wr gc (sn : Int) from hkeep C5.out Hbel.out)
      have R6 := Lib.hid (R5.out.later Hbel.out)
      have E6 := Lib.hid (bnext E5.out Hbel.out)
      have HS6 := Lib.hid (HS5.out wr C6.out Hmap2.out (G5.out.later Hbel.out))
      subst hkc
      clear C5 R5 E5 F5 G5 Hbel HS5
      go_wp2_with (go_at_call 10; fail)
      refine HS6.out.mono ?_
      rintro e w7 ⟨A7, c7, rfl, _, _, hr7, hb7⟩
      have R7 := Lib.hid (R6.out.later hb7)
      have S7 := Lib.hid hr7
      have E7 := Lib.hid (bnext E6.out hb7)
      clear hb7 hr7 C6 R6 E6 HS6
      obtain ⟨b55, e55⟩ : ∃ b, decide ((55 : Int) ≤ (sn : Int)) = b := ⟨_, rfl⟩
      have H55 := Lib.hid e55
      go_wp2_with fail
      go_loopw [17] (fun i wr => ∃ q : Nat, q ≤ n ∧ i = .int .i64 q ∧ Below w7.heap.size w7 wr) (fun i _ => n - (intOf i).toNat)
      case atStart => exact ⟨0, by omega, rfl, Below.refl _ _⟩
      case round =>
        obtain ⟨q, hq, rfl, hbel⟩ := hrel
        have Hbel := Lib.hid hbel
        clear hbel
        by_cases hlq : q < n
        · have t3 : (q : Int) < (n : Int) := by omega
          have t4 : (0 : Int) ≤ (q : Int) := by omega
          obtain ⟨x, hx⟩ := list_get (k := q) Hn.out hlq
          obtain ⟨y, hy⟩ := list_get (k := q) Hsl.out hlq
          obtain ⟨b1, o1, rfl, hb1, k1⟩ := R7.out q (.int .i64 x) (by rw [List.getElem?_map, hx]; rfl)
          obtain ⟨b2, o2, rfl, hb2, k2⟩ := S7.out q (.int .i64 y) (by rw [List.getElem?_map, hy]; rfl)
          have hxy : b55 = true → y = x := fun h => by
            have h1 : 55 ≤ sn := by
              have := of_decide_eq_true (H55.out.trans h)
              omega
            rw [HsX.out h1] at hy
            rw [hx] at hy
            exact (Option.some.inj hy).symm
          have Hxy := Lib.hid hxy
          have x5 := fun (z : GW wr) => (show z.1.cell? ⟨b1, o1 + q, none⟩ = some (.int .i64 x) from ((bnext Hbel.out z.2).cell (p := ⟨b1, o1 + q, none⟩) hb1).trans k1)
          have y5 := fun (z : GW wr) => (show z.1.cell? ⟨b2, o2 + q, none⟩ = some (.int .i64 y) from ((bnext Hbel.out z.2).cell (p := ⟨b2, o2 + q, none⟩) hb2).trans k2)
          clear hx hy hb1 hb2 k1 k2 hxy
          cases b55
          · go_wp2_with fail
            refine wp_region_calm (by kernel_rfl) (by kernel_rfl) ?_
            repeat (go_big_quiet_step (fail))
            refine wpQuiet_nil ?_
            intro w8 hw'
            have E8 := Lib.hid (bnext Hbel.out (gw_below hw'))
            clear hw' x5 y5
            go_wp2
            go_roundw
            case rel => exact ⟨q + 1, by omega, by go_num, E8.out⟩
            case measure => simp [intOf]; omega
          · have e := Hxy.out rfl
            subst e
            go_wp2_with fail
            refine wp_region_calm (by kernel_rfl) (by kernel_rfl) ?_
            repeat (go_big_quiet_step (fail))
            refine wpQuiet_nil ?_
            intro w8 hw'
            have E8 := Lib.hid (bnext Hbel.out (gw_below hw'))
            clear hw' x5 y5
            go_wp2
            go_roundw
            case rel => exact ⟨q + 1, by omega, by go_num, E8.out⟩
            case measure => simp [intOf]; omega
        · have hqn : q = n := by omega
          have t3 : ¬ ((q : Int) < (n : Int)) := by omega
          go_wp2_with (go_at_call 11; refine (HAw.out _).mono ?_; rintro e w9 ⟨rfl, hb9⟩)
          go_ret
          exact ⟨rfl, bnext E7.out (bnext Hbel.out hb9)⟩
theorem CodeExact_law (W : World) (v0 v1 : Value) (a0 : Arg W (.int .i64) v0) (a1 : Arg W (.slice 1 (.int .i64)) v1) :
    Calls Tryz.prog 4 #[v0, v1] W fun e w' => e = .returned (.bool true) ∧ Below W.heap.size W w' := by
  obtain ⟨size, ha, _, _⟩ := a0
  obtain rfl : v0 = .int .i64 size := by simpa using ha
  obtain ⟨l, A, cap, rfl, h1, h2, h3⟩ := row_arge a1
  exact CodeExact_walk size l A cap W h1 h2 h3
end Go.Proofs.YthmgjielcmjenaaGreat
