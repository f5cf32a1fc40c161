/- LawFrames. Conditions: as each theorem states. -/
import Derived.Test.YthmgjielcmjenaaMcxLawGains
import Derived.Test.YthmgjielcmjenaaMc22
import Derived.Test.YthmgjielcmjenaaMc33

namespace Go.Proofs.Ythmgjielcmjenaa
open Go.RowKit

theorem row_arg {w : World} {v : Value} (h : Arg w (.slice 1 (.int .i64)) v) : ∃ (l : List Int) (A : Option Addr) (cap : Nat), v = .slice A l.length cap ∧ l.length ≤ 9223372036854775807 ∧ I64s l ∧ Row w w.heap.size A (l.map (.int .i64)) := by
  obtain ⟨v', xs, hc, hi, h64⟩ := ints_of_shape h
  obtain ⟨a, cap, rfl, h1, h2, h3⟩ := hi
  have hv : v = .slice a xs.length cap := by simpa using hc
  exact ⟨xs, a, cap, hv, by omega, h64, h3⟩

set_option maxRecDepth 100000 in
set_option maxHeartbeats 16000000 in
theorem CodeFrames_walk (size : Int) (l : List Int) (A : Option Addr) (cap : Nat) (w : World) (hl : l.length ≤ 9223372036854775807) (h64 : I64s l) (hr : Row w w.heap.size A (l.map (.int .i64))) :
    Calls Try.prog 6 #[.int .i64 size, .slice A l.length cap] w fun e w' => e = .returned (.bool true) ∧ Below w.heap.size w w' := by
  have HFew := Lib.hid (Few13_any l A cap w hl h64 hr)
  have h16 : Samp16 (few13 l) := few13_bd l
  have hn150 := few13_len l
  have HAw := Lib.hid (fun W => awake13_any W)
  generalize l.length = nl at *
  generalize few13 l = X at *
  clear hl h64 hr
  obtain ⟨n, hn⟩ : ∃ n, X.length = n := ⟨_, rfl⟩
  have HFew2 := Lib.hid (show Calls Try.prog 29 #[.slice A nl cap] w (GapPost w X) from HFew.out)
  unfold GapPost at HFew2
  rw [hn] at HFew2
  clear HFew
  by_cases hsz : size < 24 ∨ 96 < size
  · have HNo := Lib.hid (fun W => codeNew_no size W hsz)
    have hs : (decide (size < 24) = true) ∨ (decide (size < 24) = false ∧ decide (96 < size) = true) := by
      by_cases h : size < 24
      · exact .inl (decide_eq_true h)
      · exact .inr ⟨decide_eq_false h, decide_eq_true (by omega)⟩
    clear hsz h16
    rcases hs with e1 | ⟨e1, e2⟩
    all_goals
      go_enter Try.func6, Try.ntmps6
      go_wp2_with (go_at_call 29; fail)
      refine HFew2.out.mono ?_
      rintro e w1 ⟨A1, c1, rfl, _, _, r1, hb1⟩
      have E1 := Lib.hid hb1
      clear r1 hb1
      go_wp2_with (first | (go_at_call 30; refine (HNo.out _).mono ?_; rintro e w2 ⟨rfl, rfl⟩) | (go_at_call 31; refine (HAw.out _).mono ?_; rintro e w9 ⟨rfl, hb9⟩))
      go_ret
      exact ⟨rfl, bnext E1.out hb9⟩
  have hs1 : 24 ≤ size := by omega
  have hs2 : size ≤ 96 := by omega
  have e1 : decide (size < 24) = false := decide_eq_false (by omega)
  have e2 : decide (96 < size) = false := decide_eq_false (by omega)
  obtain ⟨b55, e55⟩ : ∃ b, decide (55 ≤ size) = b := ⟨_, rfl⟩
  obtain ⟨c, hc⟩ : ∃ c, countN X.length = c := ⟨_, rfl⟩
  have hcn : c ≤ 100 := by rw [← hc]; unfold countN; omega
  have HNew := Lib.hid (fun W => codeNew_any size W hs1 hs2)
  have HSz := Lib.hid (fun g W (h : CoderAt W g size) => Size_any g size W h)
  have HEx := Lib.hid (fun g W (h : CoderAt W g size) => (show Calls Try.prog 33 #[.pointer (some ⟨g, 0, none⟩)] W fun e w' => e = .returned (.bool b55) ∧ W = w' from e55 ▸ CExact_any g size W h))
  have htu : TurnB X := fun k x hx => by have := h16 x (List.mem_of_getElem? hx); omega
  have HWi := Lib.hid (fun B k W (r : Row W W.heap.size B (X.map (.int .i64))) => (show Calls Try.prog 34 #[.slice B n k] W (GapPost W X) from hn ▸ lawwide13_any X B k W (by omega) r))
  unfold GapPost at HWi
  rw [hn] at HWi
  have HLg := Lib.hid (fun B k W (r : Row W W.heap.size B (X.map (.int .i64))) => (show Calls Try.prog 35 #[.slice B n k, .int .i64 size] W (RowPost W c (gainsF X size)) from hn ▸ lawgains13_any X size B k c W hc (by omega) r htu))
  have HGs := Lib.hid (fun g B k W (hg : CoderAt W g size) (r : Row W W.heap.size B (X.map (.int .i64))) => (show Calls Try.prog 36 #[.pointer (some ⟨g, 0, none⟩), .slice B n k] W (NewGains W c (gainsF X size)) from by
    have := Gains_any g size X B k W hg (by omega) r htu
    rwa [hn, ← hn, hc, hn] at this))
  have HFs := Lib.hid (fun g B k W (hg : CoderAt W g size) (r : Row W W.heap.size B (X.map (.int .i64))) => (show Calls Try.prog 37 #[.pointer (some ⟨g, 0, none⟩), .slice B n k] W (FramesPost W (framesZ X size)) from hn ▸ Frames_any g size X B k W hg hs1 hs2 (by omega) r h16))
  have HSp := Lib.hid (fun B k Bg kg W (r : Row W W.heap.size B (X.map (.int .i64))) (rg : Row W W.heap.size Bg ((gainsF X size).map (.int .i64))) => (show Calls Try.prog 39 #[.agg lapA, .slice B n k, .slice Bg c kg] W (RowPost W c (spectraF X size)) from by
    have := Spectra_any X (gainsF X size) B Bg k kg c W hc (by omega) r (hc ▸ gainsF_ok X size) rg (fun x hx => by have := h16 x hx; omega)
    rw [hn] at this
    have e : spectraF X size = specsZ (padZ X) (gainsF X size) c := by unfold spectraF; rw [hc]
    rw [e]
    exact this))
  have HFr := Lib.hid (fun i W (hi : i < c) => (show Calls Try.prog 40 #[blockV (blockAt (spectraF X size) i), blockV (rowAt 4 (gainsF X size) i), .int .i64 size] W (FitPost W (frZ X size i) 0) from by
    have hi' : i < countN X.length := by rw [hc]; exact hi
    have := Frame_any (blockAt (spectraF X size) i) (rowAt 4 (gainsF X size) i) size W (blockAt_len (spectraF_len X size) hi') (fun k x hx => by
      have := (block_bd h16 size hi').mem x (List.mem_of_getElem? hx)
      omega) ((gainsF_ok X size).2 i hi').1
    rw [frame_err h16 hs1 hs2 hi'] at this
    exact this))
  have HLn := Lib.hid (fun i (hi : i < c) => (frame_right h16 hs1 hs2 (show i < countN X.length by rw [hc]; exact hi)).1)
  have HSl := Lib.hid (show (spectraF X size).length = c * 16 by rw [spectraF_len, hc])
  have HGl := Lib.hid (show (gainsF X size).length = c * 4 by rw [(gainsF_ok X size).1, hc])
  have HSb := Lib.hid (fun i (hi : i < c) => blockAt_len (spectraF_len X size) (show i < countN X.length by rw [hc]; exact hi))
  have HGb := Lib.hid (fun i (hi : i < c) => rowAt_len (sz := 4) HGl.out hi)
  have HFz := Lib.hid (fun (L : List (FrH × FrameV)) (h : L.map Prod.snd = framesZ X size) => (show L.length = c ∧ ∀ m p, L[m]? = some p → p.2 = frZ X size m from by
    have hl : L.length = c := by rw [← hc, ← framesZ_len X size, ← h, List.length_map]
    refine ⟨hl, fun m p hp => ?_⟩
    have hm : m < countN X.length := by
      have := (List.getElem?_eq_some_iff.1 hp).1
      omega
    have h1 : (framesZ X size)[m]? = some p.2 := by rw [← h, List.getElem?_map, hp]; rfl
    unfold framesZ at h1
    rw [range_map_get _ hm] at h1
    exact (Option.some.inj h1).symm))
  have HSm := Lib.hid (fun F A1 A2 c1 c2 W (h : RightF F) (r1 : Row W W.heap.size A1 (toneCells F.tones)) (r2 : Row W W.heap.size A2 (toneCells F.tones)) => Same_one F A1 A2 c1 c2 W h.len r1 r2 (by have := h.tlen; omega))
  have HQ4 := Lib.hid (fun i (hi : i < c) W => (show (Op.equalIn 10000 91 (.agg ((rowAt 4 (gainsF X size) i).map (Value.int .i64)).toArray) (.agg ((rowAt 4 (gainsF X size) i).map (Value.int .i64)).toArray)).run Try.prog W = .ok true W from (eq_four _ _ (HGb.out i hi) (HGb.out i hi) W).trans (by rw [decide_eq_true rfl])))
  have HLp := Lib.hid (fun W => lapNew_any W)
  clear h16 hs1 hs2 hsz htu hn hc
  generalize framesZ X size = FZ at *
  generalize frZ X size = fz at *
  generalize spectraF X size = S at *
  generalize gainsF X size = G at *
  generalize lapA = lv at *
  go_enter Try.func6, Try.ntmps6
  go_wp2_with (go_at_call 29; fail)
  refine HFew2.out.mono ?_
  rintro e w1 ⟨A1, c1, rfl, _, _, r1, hb1⟩
  have R1 := Lib.hid r1
  have E1 := Lib.hid hb1
  clear r1 hb1 HFew2
  go_wp2_with (go_at_call 30; fail)
  refine (HNew.out _).mono ?_
  rintro e w2 ⟨gc, rfl, _, hg, hb2⟩
  have C2 := Lib.hid hg
  have R2 := Lib.hid (R1.out.later hb2)
  have E2 := Lib.hid (bnext E1.out hb2)
  clear hg hb2 R1 E1 HNew
  go_wp2_with (first | (go_at_call 32; refine (HSz.out _ _ C2.out).mono ?_; rintro e w3 ⟨rfl, rfl⟩) | (go_at_call 33; refine (HEx.out _ _ C2.out).mono ?_; rintro e w3 ⟨rfl, rfl⟩) | (go_at_call 34; fail))
  refine (HWi.out _ _ _ R2.out).mono ?_
  rintro e w3 ⟨A3, c3, rfl, _, _, r3, hb3⟩
  have C3 := Lib.hid (show CoderAt w3 gc size from hkeep C2.out hb3)
  have R3 := Lib.hid (R2.out.later hb3)
  have X3 := Lib.hid r3
  have E3 := Lib.hid (bnext E2.out hb3)
  clear r3 hb3 C2 R2 E2 HWi HSz HEx
  go_wp2_with (go_at_call 35; fail)
  refine (HLg.out _ _ _ X3.out).mono ?_
  rintro e w4 ⟨A4, c4, rfl, _, r4, hb4⟩
  have C4 := Lib.hid (show CoderAt w4 gc size from hkeep C3.out hb4)
  have R4 := Lib.hid (R3.out.later hb4)
  have X4 := Lib.hid (X3.out.later hb4)
  have G4 := Lib.hid r4
  have E4 := Lib.hid (bnext E3.out hb4)
  clear r4 hb4 C3 R3 X3 E3 HLg
  go_wp2_with (go_at_call 36; fail)
  refine (HGs.out _ _ _ _ C4.out X4.out).mono ?_
  rintro e w5 ⟨gh, rfl, _, hbh, hb5⟩
  have C5 := Lib.hid (show CoderAt w5 gc size from hkeep C4.out hb5)
  have R5 := Lib.hid (R4.out.later hb5)
  have X5 := Lib.hid (X4.out.later hb5)
  have G5 := Lib.hid (G4.out.later hb5)
  have H5 := Lib.hid (row_of_list hbh)
  have E5 := Lib.hid (bnext E4.out hb5)
  clear hbh hb5 C4 R4 X4 G4 E4 HGs
  go_wp2_with (go_at_call 37; fail)
  refine (HFs.out _ _ _ _ C5.out R5.out).mono ?_
  rintro e w6 ⟨A6, c6, L, rfl, hmap, _, _, hA6, hb6⟩
  obtain ⟨hLl, hLf⟩ := HFz.out L hmap
  have X6 := Lib.hid (X5.out.later hb6)
  have G6 := Lib.hid (G5.out.later hb6)
  have H6 := Lib.hid (H5.out.later hb6)
  have F6 := Lib.hid hA6
  have E6 := Lib.hid (bnext E5.out hb6)
  have HLf := Lib.hid hLf
  have HLl := Lib.hid hLl
  rw [hLl]
  clear hA6 hb6 hmap hLf hLl C5 R5 X5 G5 H5 E5 HFs HFz
  go_wp2_with (go_at_call 38; fail)
  refine (HLp.out _).mono ?_
  rintro e w7 ⟨rfl, hb7⟩
  have X7 := Lib.hid (X6.out.later hb7)
  have G7 := Lib.hid (G6.out.later hb7)
  have H7 := Lib.hid (H6.out.later hb7)
  have F7 := Lib.hid (F6.out.later hb7)
  have E7 := Lib.hid (bnext E6.out hb7)
  clear hb7 X6 G6 H6 F6 E6 HLp
  go_wp2_with (go_at_call 39; fail)
  refine (HSp.out _ _ _ _ _ X7.out G7.out).mono ?_
  rintro e w8 ⟨A8, c8, rfl, _, r8, hb8⟩
  have G8 := Lib.hid (G7.out.later hb8)
  have H8 := Lib.hid (H7.out.later hb8)
  have F8 := Lib.hid (F7.out.later hb8)
  have S8 := Lib.hid r8
  have E8 := Lib.hid (bnext E7.out hb8)
  clear r8 hb8 X7 G7 H7 F7 E7 HSp
  go_wp2_with fail
  go_loopw [13] (fun i wr => ∃ m : Nat, m ≤ c ∧ i = .int .i64 m ∧ Below w8.heap.size w8 wr) (fun i _ => c - (intOf i).toNat)
  case atStart => exact ⟨0, by omega, rfl, Below.refl _ _⟩
  case round =>
    obtain ⟨m, hm, rfl, hbel⟩ := hrel
    have Hbel := Lib.hid hbel
    clear hbel
    by_cases hlk : m < c
    · have t1 : (m : Int) < (c : Int) := by omega
      have t2 : (0 : Int) ≤ (m : Int) := by omega
      obtain ⟨bs, os, rfl, hbs⟩ := row_ad S8.out HSl.out (by omega)
      obtain ⟨bg, og, rfl, hbg⟩ := row_ad G8.out HGl.out (by omega)
      obtain ⟨bh, oh, hAh, hbh⟩ := row_ad H8.out HGl.out (by omega)
      injection hAh with hAh
      injection hAh with q1 q2
      subst q1 q2
      obtain ⟨p1, hp1⟩ := list_get (k := m) HLl.out hlk
      obtain ⟨bf, of_, rfl, hbf, hcf⟩ := frame_at F8.out hp1
      have hpf := HLf.out m p1 hp1
      have hpt := F8.out.tones p1 (List.mem_of_getElem? hp1)
      have HRr := Lib.hid (HLn.out m hlk)
      have SX := Lib.hid (fun W (hW : Below w8.heap.size w8 W) => row_cut ((S8.out.below hW)) (m * 16) 16)
      have GX := Lib.hid (fun W (hW : Below w8.heap.size w8 W) => row_cut ((G8.out.below hW)) (m * 4) 4)
      have HX := Lib.hid (fun W (hW : Below w8.heap.size w8 W) => row_cut ((H8.out.below hW)) (m * 4) 4)
      have FX := Lib.hid (fun W (hW : Below w8.heap.size w8 W) j v (hv : (frC p1)[j]? = some v) => (hW.cell (p := ⟨bf, of_ + m * 29 + j, none⟩) hbf).trans (hcf j v hv))
      rw [show ((S.drop (m * 16)).take 16) = blockAt S m from rfl] at SX
      rw [show ((G.drop (m * 4)).take 4) = rowAt 4 G m from rfl] at GX HX
      have HU := Lib.hid (fun W => HFr.out m W hlk)
      unfold blockV at HU
      have HQ := Lib.hid (fun W => HQ4.out m hlk W)
      have hxl : ((blockAt S m).map (Value.int .i64)).length = 16 := by rw [List.length_map, HSb.out m hlk]
      have hyl : ((rowAt 4 G m).map (Value.int .i64)).length = 4 := by rw [List.length_map, HGb.out m hlk]
      have hfl : (frC p1).length = 29 := frC_len (by rw [hpf]; exact HRr.out.len)
      have HP1 := Lib.hid (show (frC p1).toArray = frameA (fz m) (.slice p1.1.a (fz m).tones.length p1.1.c) by rw [← hpf]; rfl)
      have HT1 := Lib.hid (fun W (hW : Below w8.heap.size w8 W) => (show Row W W.heap.size p1.1.a (toneCells (fz m).tones) from by rw [← hpf]; exact hpt.2.2.later hW))
      generalize fz m = F at *
      generalize (blockAt S m).map (Value.int .i64) = xs at *
      generalize (rowAt 4 G m).map (Value.int .i64) = ys at *
      have HFx := Lib.hid (show (Try.prog.info? 94).map (·.size) = some xs.length by rw [hxl]; exact inf_block)
      have HFy := Lib.hid (show (Try.prog.info? 91).map (·.size) = some ys.length by rw [hyl]; exact inf_four)
      have HF1 := Lib.hid (show (Try.prog.info? 96).map (·.size) = some (frC p1).length by rw [hfl]; exact inf_frame)
      clear hxl hyl hfl hp1 hpf hpt hcf
      have x5 := fun W (hW : ∃ x : GW wr, W = x.1) => SX.out W (bnext Hbel.out (gw_below hW))
      have y5 := fun W (hW : ∃ x : GW wr, W = x.1) => GX.out W (bnext Hbel.out (gw_below hW))
      go_wp2_with fail
      refine wp_region_float 9 (o := .cells zeroF 96) (by kernel_rfl) rfl (by kernel_rfl) rfl rfl rfl rfl (fun _ _ => rfl) (fun c a' w' d v h => by cases d <;> exact h) ?_
      simp only [List.take_succ_cons, List.take_zero]
      repeat (first | (go_big_quiet_want; refine quiet_load_part 94 (.tmp 107) rfl bs (os + m * 16) rfl xs _ x5 Try.underlying94 rfl HFx.out ?_; go_simp; go_big_quiet_on) | (go_big_quiet_want; refine quiet_load_part 91 (.tmp 111) rfl bg (og + m * 4) rfl ys _ y5 Try.underlying91 rfl HFy.out ?_; go_simp; go_big_quiet_on) | go_big_quiet_step (fail))
      refine wpQuiet_nil ?_
      intro w9 hw'
      have E9 := Lib.hid (bnext Hbel.out (gw_below hw'))
      clear hw' x5 y5
      refine ⟨?A, ?B⟩
      case' A =>
        go_wp2_with (go_at_call 40; fail)
        refine (HU.out _).mono ?_
        rintro e w10 ⟨Af, cf, rfl, htl, hcf2, hfr, hrow, hb10⟩
        have HSt := stands_new (row := none) htl hcf2 hrow hfr (fun k hk => by cases hk)
        obtain ⟨fl2, hfl2⟩ : ∃ fl2, frC (⟨Af, cf⟩, F) = fl2 := ⟨_, rfl⟩
        have hpc : frameA F (.slice Af F.tones.length cf) = fl2.toArray := by rw [← hfl2]; rfl
        have hfl29 : fl2.length = 29 := by rw [← hfl2]; exact frC_len HRr.out.len
        have Hp1 := frC_one (⟨Af, cf⟩, F)
        rw [hfl2] at Hp1
        rw [hpc]
        have Hpc := Lib.hid hpc
        have Hfs := Lib.hid (show fl2.toArray.size = 29 by rw [List.size_toArray, hfl29])
        have HFf := Lib.hid (show (Try.prog.info? 96).map (·.size) = some fl2.toArray.size by rw [List.size_toArray, hfl29]; exact inf_frame)
        have Hf1 := Lib.hid (show fl2.toArray.all (·.oneCell') = true by
          rw [Array.all_eq_true_iff_forall_mem]
          intro v hv
          exact Hp1 v (by simpa using hv))
        have HZ10 := Lib.hid (hkeep (heap_alloc_new w9 (.cells zeroF 96)) hb10)
        have E10 := bnext (bnext E9.out (bnew w9 (.cells zeroF 96))) hb10
        have hz9 := E9.out.size
        have HgV := grown_row (w := w10) w9.heap.size fl2.toArray
        have HNV := Lib.hid (show (w10.setRow w9.heap.size fl2.toArray).heap[w9.heap.size]? = some (.cells fl2.toArray 96 (0, 0)) from setRow_heap w10 w9.heap.size _ _ _ _ HZ10.out)
        have HTV := Lib.hid (HSt.aside (gF := w9.heap.size) (fun g h1 h2 => by
          rcases hfr with h | ⟨g', h3, h4⟩
          · exact absurd h h2
          · have h1 : Af = some ⟨g, 0, none⟩ := h1
            rw [h3] at h1
            injection h1 with h1
            injection h1 with h1
            simp at h4
            omega) HgV).1.2.2
        have EV := Lib.hid (show Below w8.heap.size w8 (w10.setRow w9.heap.size fl2.toArray) from setRow_below E10 _ (by omega) _)
        obtain ⟨V, hV⟩ : ∃ V, w10.setRow w9.heap.size fl2.toArray = V := ⟨_, rfl⟩
        rw [hV] at HNV HTV EV
        have HTV := Lib.hid HTV
        clear HgV E10
        have hzV := EV.out.size
        clear htl hcf2 hfr hrow hb10 HSt hpc hfl29 Hp1 hfl2
        go_wp2_with (refine wpList_store_row_w rfl 96 (.tmp 14) (.tmp 115) rfl w9.heap.size rfl _ _ fl2.toArray rfl HZ10.out HFf.out (by rw [Hfs.out]; rfl) Hf1.out ?_; rw [hV])
        have HSame := Lib.hid (fun (x : GW V) => (show Calls Try.prog 41 #[.agg (frC p1).toArray, .agg fl2.toArray] x.1 fun e w' => e = .returned (.bool true) ∧ Below x.1.heap.size x.1 w' from by
          rw [HP1.out, ← Hpc.out]
          exact HSm.out F p1.1.a Af p1.1.c cf x.1 HRr.out (HT1.out x.1 (bnext EV.out x.2)) (HTV.out.later x.2)))
        have x5 := fun W (hW : ∃ x : GW V, W = x.1) => FX.out W (bnext EV.out (gw_below hW))
        have y5 := fun W (hW : ∃ x : GW V, W = x.1) => GX.out W (bnext EV.out (gw_below hW))
        have z5 := fun W (hW : ∃ x : GW V, W = x.1) => HX.out W (bnext EV.out (gw_below hW))
        have n5 := gw_heap HNV.out
        have q1 := HQ.out
        go_wp2_with fail
        refine wp_region_calm (by kernel_rfl) (by kernel_rfl) ?_
        (try simp only [Act.put])
        repeat (first | (go_big_quiet_want; refine quiet_load_part 96 (.tmp 122) rfl bf (of_ + m * 29) rfl (frC p1) _ x5 Try.underlying96 rfl HF1.out ?_; go_simp; go_big_quiet_on) | (go_big_quiet_want; refine quiet_load_row 96 (.tmp 14) rfl w9.heap.size rfl _ fl2.toArray _ _ n5 Try.underlying96 rfl HFf.out ?_; go_simp; go_big_quiet_on) | (go_big_quiet_want; refine quiet_load_part 91 (.tmp 131) rfl gh (m * 4) rfl ys _ (by intro W hW; have := z5 W hW; simpa using this) Try.underlying91 rfl HFy.out ?_; go_simp; go_big_quiet_on) | (go_big_quiet_want; refine quiet_load_part 91 (.tmp 135) rfl bg (og + m * 4) rfl ys _ y5 Try.underlying91 rfl HFy.out ?_; go_simp; go_big_quiet_on) | go_big_quiet_step ((go_at_call 41; exact calm_call (HSame.out _))))
        refine wpQuiet_nil ?_
        intro w11 hw'
        have E11 := Lib.hid (bnext EV.out (gw_below hw'))
        clear hw' x5 y5 z5 n5 q1 HSame
        go_wp2
        go_roundw
        case rel => exact ⟨m + 1, by omega, by go_num, E11.out⟩
        case measure => simp [intOf]; omega
      case' B =>
        go_wp2_with (go_at_call 40; fail)
        refine (HU.out _).mono ?_
        rintro e w10 ⟨Af, cf, rfl, htl, hcf2, hfr, hrow, hb10⟩
        have HSt := stands_new (row := none) htl hcf2 hrow hfr (fun k hk => by cases hk)
        obtain ⟨fl2, hfl2⟩ : ∃ fl2, frC (⟨Af, cf⟩, F) = fl2 := ⟨_, rfl⟩
        have hpc : frameA F (.slice Af F.tones.length cf) = fl2.toArray := by rw [← hfl2]; rfl
        have hfl29 : fl2.length = 29 := by rw [← hfl2]; exact frC_len HRr.out.len
        have Hp1 := frC_one (⟨Af, cf⟩, F)
        rw [hfl2] at Hp1
        rw [hpc]
        have Hpc := Lib.hid hpc
        have Hfs := Lib.hid (show fl2.toArray.size = 29 by rw [List.size_toArray, hfl29])
        have HFf := Lib.hid (show (Try.prog.info? 96).map (·.size) = some fl2.toArray.size by rw [List.size_toArray, hfl29]; exact inf_frame)
        have Hf1 := Lib.hid (show fl2.toArray.all (·.oneCell') = true by
          rw [Array.all_eq_true_iff_forall_mem]
          intro v hv
          exact Hp1 v (by simpa using hv))
        have E10 := bnext E9.out hb10
        have HNV := Lib.hid (heap_alloc_new w10 (.cells fl2.toArray 96))
        have HTV := (HSt.below (bnew w10 (.cells fl2.toArray 96))).1.2.2
        have EV := Lib.hid (bnext E10 (bnew w10 (.cells fl2.toArray 96)))
        obtain ⟨V, hV⟩ : ∃ V, w10.alloc (.cells fl2.toArray 96) = V := ⟨_, rfl⟩
        rw [hV] at HNV HTV EV
        have HTV := Lib.hid HTV
        clear E10
        have hzV := EV.out.size
        clear htl hcf2 hfr hrow hb10 HSt hpc hfl29 Hp1 hfl2
        go_wp2_with (refine wpList_store_row_w rfl 96 (.tmp 14) (.tmp 115) rfl w10.heap.size rfl _ _ fl2.toArray rfl (heap_alloc_new w10 _) HFf.out (by rw [Hfs.out]; rfl) Hf1.out ?_; rw [World.setRow_alloc_new]; rw [hV])
        have HSame := Lib.hid (fun (x : GW V) => (show Calls Try.prog 41 #[.agg (frC p1).toArray, .agg fl2.toArray] x.1 fun e w' => e = .returned (.bool true) ∧ Below x.1.heap.size x.1 w' from by
          rw [HP1.out, ← Hpc.out]
          exact HSm.out F p1.1.a Af p1.1.c cf x.1 HRr.out (HT1.out x.1 (bnext EV.out x.2)) (HTV.out.later x.2)))
        have x5 := fun W (hW : ∃ x : GW V, W = x.1) => FX.out W (bnext EV.out (gw_below hW))
        have y5 := fun W (hW : ∃ x : GW V, W = x.1) => GX.out W (bnext EV.out (gw_below hW))
        have z5 := fun W (hW : ∃ x : GW V, W = x.1) => HX.out W (bnext EV.out (gw_below hW))
        have n5 := gw_heap HNV.out
        have q1 := HQ.out
        go_wp2_with fail
        refine wp_region_calm (by kernel_rfl) (by kernel_rfl) ?_
        (try simp only [Act.put])
        repeat (first | (go_big_quiet_want; refine quiet_load_part 96 (.tmp 122) rfl bf (of_ + m * 29) rfl (frC p1) _ x5 Try.underlying96 rfl HF1.out ?_; go_simp; go_big_quiet_on) | (go_big_quiet_want; refine quiet_load_row 96 (.tmp 14) rfl w10.heap.size rfl _ fl2.toArray _ _ n5 Try.underlying96 rfl HFf.out ?_; go_simp; go_big_quiet_on) | (go_big_quiet_want; refine quiet_load_part 91 (.tmp 131) rfl gh (m * 4) rfl ys _ (by intro W hW; have := z5 W hW; simpa using this) Try.underlying91 rfl HFy.out ?_; go_simp; go_big_quiet_on) | (go_big_quiet_want; refine quiet_load_part 91 (.tmp 135) rfl bg (og + m * 4) rfl ys _ y5 Try.underlying91 rfl HFy.out ?_; go_simp; go_big_quiet_on) | go_big_quiet_step ((go_at_call 41; exact calm_call (HSame.out _))))
        refine wpQuiet_nil ?_
        intro w11 hw'
        have E11 := Lib.hid (bnext EV.out (gw_below hw'))
        clear hw' x5 y5 z5 n5 q1 HSame
        go_wp2
        go_roundw
        case rel => exact ⟨m + 1, by omega, by go_num, E11.out⟩
        case measure => simp [intOf]; omega
    · have hmc : m = c := by omega
      have t1 : ¬ ((m : Int) < (c : Int)) := by omega
      subst hmc
      go_wp2_with (go_at_call 31; refine (HAw.out _).mono ?_; rintro e w9 ⟨rfl, hb9⟩)
      go_ret
      exact ⟨rfl, bnext E8.out (bnext Hbel.out hb9)⟩
theorem CodeFrames_law (W : World) (v0 v1 : Value) (a0 : Arg W (.int .i64) v0) (a1 : Arg W (.slice 1 (.int .i64)) v1) :
    Calls Try.prog 6 #[v0, v1] W fun e w' => e = .returned (.bool true) ∧ Below W.heap.size W w' := by
  obtain ⟨size, ha, _, _⟩ := a0
  obtain rfl : v0 = .int .i64 size := by simpa using ha
  obtain ⟨l, A, cap, rfl, h1, h2, h3⟩ := row_arg a1
  exact CodeFrames_walk size l A cap W h1 h2 h3
end Go.Proofs.Ythmgjielcmjenaa
