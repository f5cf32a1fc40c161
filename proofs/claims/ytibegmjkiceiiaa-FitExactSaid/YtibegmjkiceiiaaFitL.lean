/- Contract of layer 12's law: search; conditions: as the theorem states. -/
import Derived.Test.YtibegmjkiceiiaaFitK
import Derived.Deep.DeepFit
namespace Go.Proofs.Ytibegmjkiceiiaa
open Go.RowKit

set_option maxRecDepth 100000 in
set_option maxHeartbeats 4000000 in
theorem lawsearch_any (b g : List Int) (room : Int) (tones : Bool) (w : World) (hb : b.length = 16) (hr : BigB b) (hg : g.length = 4) :
    Calls Try.prog 36 #[blockV b, blockV g, .int .i64 room, .bool tones] w (SearchPost w tones (searchZ b g room tones).1 (searchZ b g room tones).2) := by
  have ht := tones_ok hb hr tones
  obtain ⟨ts, hts⟩ : ∃ ts, tonesFor b tones = ts := ⟨_, rfl⟩
  have hS : searchZ b g room tones = searchFrom b g room ts (maskZ (outT b ts)) 92 zero4 0 := by unfold searchZ; rw [hts]
  rw [hS]
  rw [hts] at ht
  have HF := Lib.hid (fun W => toneFind_any b W hb hr)
  have HTS := Lib.hid (show tones = true → findT b = ts by intro h; rw [← hts, h]; simp [tonesFor])
  have HT0 := Lib.hid (show tones = false → ts = [] by intro h; rw [← hts, h]; simp [tonesFor])
  have hob : (outT b ts).length = 16 := by rw [outT_len, hb]
  have HO := Lib.hid (fun A cap W hr => toneOut_any b ts A cap W hb (by have := ht.len; omega) hr ht.big ht.each)
  have HM := Lib.hid (fun W => lawmask_any (outT b ts) W hob ht.out)
  have HTo := Lib.hid (fun s A cap W (hs : ScB s) hr => lawtold_any b g s ts A cap W hb hg hs ht hr)
  have HBi := Lib.hid (fun s A cap W (hs : ScB s) => Bits_any (toldZ b g s ts) A cap W (told_len hg hs.1) ht.len (told_width hb ht hs))
  have HMid := Lib.hid (mask_mid ht.out)
  have HMl := Lib.hid (mask_len (outT b ts))
  have HLn := Lib.hid (fun (s : List Int) (hs : s.length = 4) => told_len (b := b) (ts := ts) hg hs)
  have HCm := Lib.hid (fun (k : Nat) (x : Int) (h : (maskZ (outT b ts))[k]? = some x) => blk_get h)
  have htl := ht.len
  rw [← mask_eq hob] at HM
  have hmv : ((maskZ (outT b ts)).map (Value.int .i64)).toArray.size = 4 := by simp [mask_len]
  have hm1 := ints_one (maskZ (outT b ts))
  have hbz : (b.map (Value.int .i64)).toArray.size = 16 := by simp [hb]
  have hgz : (g.map (Value.int .i64)).toArray.size = 4 := by simp [hg]
  simp only [told_tones] at HBi
  generalize maskZ (outT b ts) = mk at *
  unfold blockV at *
  generalize ((outT b ts).map (Value.int .i64)).toArray = ov at *
  generalize (mk.map (Value.int .i64)).toArray = mv at *
  generalize (b.map (Value.int .i64)).toArray = bv at *
  generalize (g.map (Value.int .i64)).toArray = gv at *
  have HFb := Lib.hid (show (Try.prog.info? 66).map (·.size) = some bv.size by rw [hbz]; exact inf_block)
  have HFg := Lib.hid (show (Try.prog.info? 67).map (·.size) = some gv.size by rw [hgz]; exact inf_four)
  have HFm := Lib.hid (show (Try.prog.info? 67).map (·.size) = some mv.size by rw [hmv]; exact inf_four)
  have Hmz := Lib.hid hmv
  have Hm1 := Lib.hid hm1
  have H3 := Lib.hid (heap3 w (.cells bv 66) (.cells gv 67) (.cells zeroF 71))
  have Htl := Lib.hid htl
  clear hS hts ht hob htl hmv hm1 hbz hgz hb hr hg
  go_enter Try.func36, Try.ntmps36
  go_upto_if 17 with fail
  go_cut [10] (fun v wx => ∃ A c, v = .slice A ts.length c ∧ ts.length ≤ c ∧ c ≤ 9223372036854775807 ∧ (ts = [] ∨ ∃ g, A = some ⟨g, 0, none⟩ ∧ w.heap.size + 3 ≤ g) ∧ (tones = false → A = none ∧ c = 0) ∧ Row wx wx.heap.size A (toneCells ts) ∧ wx.heap[w.heap.size]? = some (.cells bv 66 (0, 0)) ∧ wx.heap[w.heap.size + 1]? = some (.cells gv 67 (0, 0)) ∧ wx.heap[w.heap.size + 1 + 1]? = some (.cells zeroF 71 (0, 0)) ∧ Below w.heap.size w wx)
  case first =>
    cases tones
    · have h0 := HT0.out rfl
      subst h0
      go_wp2
      go_meet
      exact ⟨none, 0, rfl, by simp, by omega, .inl trivial, fun _ => ⟨rfl, rfl⟩, Row.none_ _ _ _, H3.out.1, H3.out.2.1, H3.out.2.2.1, H3.out.2.2.2.2⟩
    · have h0 := HTS.out rfl
      rw [h0] at HF
      go_wp2_with (first | (go_at_call 97; fail) | (refine wpList_load_row_w rfl 66 (.tmp 4) rfl w.heap.size rfl _ bv _ _ H3.out.1 Try.underlying66 rfl HFb.out ?_))
      refine (HF.out _).mono ?_
      rintro e w1 ⟨A, c, rfl, hlc, hc63, hfr, hrow, hb1⟩
      have hfr2 : ts = [] ∨ ∃ g, A = some ⟨g, 0, none⟩ ∧ w.heap.size + 3 ≤ g := by
        rcases hfr with h | ⟨g, h1, h2⟩
        · exact .inl h
        · exact .inr ⟨g, h1, Nat.le_trans (Nat.le_of_eq H3.out.2.2.2.1.symm) h2⟩
      have Hrow := Lib.hid hrow
      have Hb1 := Lib.hid hb1
      clear hrow hb1 h0
      go_wp2
      go_meet
      exact ⟨A, c, rfl, hlc, hc63, hfr2, (by intro h; cases h), Hrow.out, hkeep H3.out.1 Hb1.out, hkeep H3.out.2.1 Hb1.out, hkeep H3.out.2.2.1 Hb1.out, btail H3.out.2.2.2.2 (Nat.le_refl _) Hb1.out⟩
  case rest =>
    obtain ⟨A, c, rfl, hlc, hc63, hfr, hnil, hrow, h0, h1, h2, hbel⟩ := hcut
    have HNil := Lib.hid hnil
    clear hnil
    have Hfr := Lib.hid hfr
    clear hfr
    have Hrow := Lib.hid hrow
    have Hbel := Lib.hid hbel
    have G0 := Lib.hid h0
    have G1 := Lib.hid h1
    have G2 := Lib.hid h2
    have hz2 := hlt h2
    clear hrow hbel h0 h1 h2 H3 HF HTS HT0
    go_wp2_with (first | (go_at_call 98; fail) | (refine wpList_load_row_w rfl 66 (.tmp 4) rfl w.heap.size rfl _ bv _ _ G0.out Try.underlying66 rfl HFb.out ?_))
    refine (HO.out A c _ Hrow.out).mono ?_
    rintro e w2 ⟨rfl, hb2⟩
    have Hb2 := Lib.hid hb2
    clear hb2
    go_wp2_with (go_at_call 38; fail)
    refine (HM.out _).mono ?_
    rintro e w3 ⟨rfl, hb3⟩
    have Hb3 := Lib.hid (bnext Hb2.out hb3)
    clear hb3 Hb2
    go_wp2_with (refine wpList_store_row_w rfl 67 (.tmp 11) (.tmp 23) rfl w3.heap.size rfl _ _ mv rfl (heap_alloc_new w3 _) HFm.out (by rw [Hmz.out]; rfl) Hm1.out ?_; rw [World.setRow_alloc_new])
    have H2 := Lib.hid (heap2 w3 (.cells mv 67) (.cells (zero4.map (Value.int .i64)).toArray 67))
    have hz3 := Nat.le_trans hz2 Hb3.out.size
    have K0 := Lib.hid (hkeep G0.out Hb3.out)
    have K1 := Lib.hid (hkeep G1.out Hb3.out)
    have K2 := Lib.hid (hkeep G2.out Hb3.out)
    have Krow := Lib.hid (Hrow.out.later Hb3.out)
    have KB := Lib.hid (btail Hbel.out (by omega) Hb3.out)
    clear G0 G1 G2 Hrow Hbel
    go_loopw [13] (fun v wr => ∃ (s : List Int) (n fuel : Nat), ScB s ∧ sumS s = n ∧ fuel + n = 92 ∧ searchFrom b g room ts mk fuel s n = searchFrom b g room ts mk 92 zero4 0 ∧ v = .int .i64 n ∧
      wr.heap[w3.heap.size]? = some (.cells mv 67 (0, 0)) ∧ Blk wr (w3.heap.size + 1) 67 (s.map (Value.int .i64)) ∧ Below w3.heap.size w3 wr) (fun v _ => 93 - (intOf v).toNat)
    case atStart => exact ⟨zero4, 0, 92, ScB.zero, rfl, rfl, rfl, rfl, H2.out.1, H2.out.2.1, H2.out.2.2.2⟩
    case round =>
      obtain ⟨s, n, fuel, hs, hsum, hfuel, hsr, rfl, hm, hsc, hbr⟩ := hrel
      have Hsr := Lib.hid hsr
      have Hs := Lib.hid hs
      have Hsum := Lib.hid hsum
      have R0 := Lib.hid (hkeep K0.out hbr)
      have R1 := Lib.hid (hkeep K1.out hbr)
      have R2 := Lib.hid (hkeep K2.out hbr)
      have Rm := Lib.hid hm
      have Rs := Lib.hid hsc
      have Rb := Lib.hid hbr
      have hn92 : n ≤ 92 := by omega
      have hn100 : (n : Int) < 100 := by omega
      have hzr := hlt hm
      have hzs := hsc.lt
      have hscz : (s.map (Value.int .i64)).toArray.size = 4 := by simp [hs.1]
      have Rs2 := Lib.hid (show wr.heap[w3.heap.size + 1]? = some (.cells (s.map (Value.int .i64)).toArray 67 (0, 0)) from hsc)
      have HTd := Lib.hid (HTo.out s A c wr hs (Krow.out.later hbr))
      have HBt := Lib.hid (fun W => HBi.out s A c W hs)
      have hFl := HLn.out s hs.1
      have hfz := frameA_size hFl (.slice A ts.length c)
      have hf1 := frameA_one (toldZ b g s ts) (tv := .slice A ts.length c) rfl
      have HWp := Lib.hid (fun (j : Nat) (x : Int) (hx : (toldZ b g s ts).width[j]? = some x) => frameA_width hFl (.slice A ts.length c) (j := j) (v := .int .i64 x) (by rw [List.getElem?_map]; show Option.map _ _ = _; rw [hx]; rfl))
      have HWl := Lib.hid hFl.w
      rw [show (FrameV.cells (toldZ b g s ts) (.slice A ts.length c)).toArray = frameA (toldZ b g s ts) (.slice A ts.length c) from rfl] at HTd
      have HFc := Lib.hid (show (Try.prog.info? 67).map (·.size) = some (s.map (Value.int .i64)).toArray.size by rw [hscz]; exact inf_four)
      have HCs := Lib.hid (fun (k : Nat) (x : Int) (h : s[k]? = some x) => blk_get h)
      obtain ⟨sv, hsv⟩ : ∃ sv, (s.map (Value.int .i64)).toArray = sv := ⟨_, rfl⟩
      rw [hsv] at Rs2 HTd HFc HCs
      obtain ⟨fc, hfc⟩ : ∃ fc, frameA (toldZ b g s ts) (.slice A ts.length c) = fc := ⟨_, rfl⟩
      rw [hfc] at HTd HBt hfz hf1 HWp
      have HFf := Lib.hid (show (Try.prog.info? 71).map (·.size) = some fc.size by rw [hfz]; exact inf_frame)
      have Hfz := Lib.hid hfz
      have Hf1 := Lib.hid hf1
      have Hfc := Lib.hid hfc
      obtain ⟨Z, hZ⟩ : ∃ Z, bitsZ (toldZ b g s ts) = Z := ⟨_, rfl⟩
      obtain ⟨wd, hwd⟩ : ∃ wd, (toldZ b g s ts).width = wd := ⟨_, rfl⟩
      obtain ⟨X, hX⟩ : ∃ X, nextTo wd s mk 4 = X := ⟨_, rfl⟩
      rw [hZ] at HBt
      have hXb := nextTo_bd wd s mk 4
      have hXo := nextTo_ok wd s mk 4
      rw [hX] at hXb hXo
      have HX4 := Lib.hid hX
      have hend : (Z ≤ room ∨ X < 0) → searchFrom b g room ts mk fuel s n = (toldZ b g s ts, n) := by
        intro h
        cases fuel with
        | zero => rfl
        | succ fuel =>
          unfold searchFrom
          simp only
          rw [if_pos (by rw [hZ, hwd, hX]; exact h)]
      have hgo : ¬ (Z ≤ room ∨ X < 0) → ∃ m, fuel = m + 1 ∧ searchFrom b g room ts mk fuel s n = searchFrom b g room ts mk m (s.set X.toNat (bgt s X.toNat + 1)) (n + 1) := by
        intro h
        cases fuel with
        | zero =>
          have := full_none hs (by omega) wd mk
          rw [hX] at this
          exact absurd (Or.inr this) h
        | succ fuel =>
          refine ⟨fuel, rfl, ?_⟩
          conv => lhs; unfold searchFrom
          simp only
          rw [if_neg (by rw [hZ, hwd, hX]; exact h), hwd, hX]
      rw [hsr] at hend hgo
      have Hend := Lib.hid hend
      have Hgo := Lib.hid hgo
      rw [hwd] at HWp HWl
      have HLs := Lib.hid hs.1
      have HWn := Lib.hid (show ∀ k, k < 4 → 0 ≤ bgt wd k from fun k hk => by
        rw [← hwd]
        show 0 ≤ bgt (widthsZ _) k
        rw [widths_bgt _ hk]; omega)
      clear hs hsum hsr hm hsc hbr hscz hfz hf1 hsv hfc hFl hZ hX hend hgo hwd
      go_wp2_with (first | (go_at_call 58; fail) | (refine wpList_load_row_w rfl 66 (.tmp 4) rfl w.heap.size rfl _ bv _ _ R0.out Try.underlying66 rfl HFb.out ?_) | (refine wpList_load_row_w rfl 67 (.tmp 5) rfl (w.heap.size + 1) rfl _ gv _ _ R1.out Try.underlying67 rfl HFg.out ?_) | (refine wpList_load_row_w rfl 67 (.tmp 12) rfl (w3.heap.size + 1) rfl _ sv _ _ Rs2.out Try.underlying67 rfl HFc.out ?_))
      refine HTd.out.mono ?_
      rintro e w4 ⟨rfl, hb4⟩
      have hb5 := bnext hb4 (bnew w4 (.cells fc 71))
      have HFr := Lib.hid (heap_alloc_new w4 (.cells fc 71))
      have Q2 := Lib.hid (hkeep R2.out hb5)
      have Qm := Lib.hid (hkeep Rm.out hb5)
      have Qs := Lib.hid (Rs.out.below hb5 hzs)
      have Qs2 := Lib.hid (hkeep Rs2.out hb5)
      have Qb := Lib.hid (btail Rb.out (Nat.le_refl _) hb5)
      have Qrow := Lib.hid (Krow.out.later Qb.out)
      have hz4 := hb4.size
      clear hb4 hb5 R0 R1 R2 Rm Rs Rb Rs2
      go_wp2_with (first | (refine wpList_store_row_w rfl 71 (.tmp 14) (.tmp 32) rfl w4.heap.size rfl _ _ fc rfl (heap_alloc_new w4 _) HFf.out (by rw [Hfz.out]; rfl) Hf1.out ?_; rw [World.setRow_alloc_new]))
      obtain ⟨WI, hWI⟩ : ∃ WI, w4.alloc (.cells fc 71) = WI := ⟨_, rfl⟩
      have hzI : w4.heap.size < WI.heap.size := by rw [← hWI]; simp
      rw [hWI] at HFr Q2 Qm Qs Qs2 Qb Qrow ⊢
      clear hWI
      go_loopw [15, 16] (fun bst i wr => ∃ (k : Nat), k ≤ 4 ∧ i = .int .i64 k ∧ bst = .int .i64 (nextTo wd s mk k) ∧ Below WI.heap.size WI wr) (fun _ i _ => 4 - (intOf i).toNat)
      case atStart => exact ⟨0, by omega, rfl, rfl, Below.refl _ _⟩
      case round =>
        obtain ⟨k, hk, rfl, rfl, hbk⟩ := hrel
        have Hbk := Lib.hid hbk
        have F5 := Lib.hid (hkeep HFr.out hbk)
        have M5 := Lib.hid (hkeep Qm.out hbk)
        have S5 := Lib.hid (hkeep Qs2.out hbk)
        have HN := Lib.hid (nextTo_step wd s mk k)
        have hbd := nextTo_bd wd s mk k
        clear hbk
        by_cases hlk : k < 4
        · have t1 : (k : Int) < 4 := by omega
          obtain ⟨B, hBB⟩ : ∃ B, nextTo wd s mk k = B := ⟨_, rfl⟩
          rw [hBB] at hbd HN ⊢
          obtain ⟨W, hW⟩ := list_get (k := k) HWl.out hlk
          obtain ⟨S, hS⟩ := list_get (k := k) HLs.out hlk
          obtain ⟨M, hMk⟩ := list_get (k := k) HMl.out hlk
          have hW0 := HWn.out k hlk
          have hSb := Hs.out.2 k hlk
          have hMb := HMid.out k M hMk
          have hcW := HWp.out k W hW
          have hcS := HCs.out k S hS
          have hcM := HCm.out k M hMk
          rw [bgt_get hW] at hW0
          rw [bgt_get hS] at hSb
          rw [bgt_get hW, bgt_get hS, bgt_get hMk] at HN
          have x5 := gw_cells F5.out
          have y5 := gw_cells M5.out
          have z5 := gw_cells S5.out
          clear hW hS hMk hBB
          by_cases h0 : 0 < W
          · have e0 : decide (0 < W) = true := decide_eq_true h0
            have H0 := Lib.hid h0
            clear h0
            by_cases h1 : S < 23
            · have e1 : decide (S < 23) = true := decide_eq_true h1
              have hw1 : IntKind.i64.wrap (M - S) = M - S := IntWalk.i64_in _ (by omega)
              by_cases h2 : B < 0
              · have e2 : decide (B < 0) = true := decide_eq_true h2
                have HK := Lib.hid (show nextTo wd s mk (k + 1) = (k : Int) by rw [HN.out, if_pos ⟨H0.out, h1, .inl h2⟩])
                go_wp2_with fail
                refine wp_region_calm (by kernel_rfl) (by kernel_rfl) ?_
                repeat (go_big_quiet_step (fail))
                refine wpQuiet_nil ?_
                intro w5 hw'
                have hb5 := gw_below hw'
                have B5 := Lib.hid (bnext Hbk.out hb5)
                clear hw' hb5 x5 y5 z5
                go_wp2
                go_roundw
                case rel => exact ⟨k + 1, by omega, by go_num, val_int HK.out.symm, B5.out⟩
                case measure => simp [intOf]; omega
              · obtain ⟨b2, hb2⟩ := Int.eq_ofNat_of_zero_le (show 0 ≤ B by omega)
                subst hb2
                have hb4 : b2 < 4 := by omega
                have e2 : decide ((b2 : Int) < 0) = false := decide_eq_false h2
                obtain ⟨Sb, hSb2⟩ := list_get (k := b2) HLs.out hb4
                obtain ⟨Mb, hMb2⟩ := list_get (k := b2) HMl.out hb4
                have hSbb := Hs.out.2 b2 hb4
                rw [bgt_get hSb2] at hSbb
                have hMbb := HMid.out b2 Mb hMb2
                have hcSb := HCs.out _ _ hSb2
                have hcMb := HCm.out b2 Mb hMb2
                have hw2 : IntKind.i64.wrap (Mb - Sb) = Mb - Sb := IntWalk.i64_in _ (by omega)
                have tb : (b2 : Int) < 4 := by omega
                rw [Int.toNat_natCast, bgt_get hSb2, bgt_get hMb2] at HN
                clear hSb2 hMb2
                by_cases h3 : Mb - Sb < M - S
                · have HK := Lib.hid (show nextTo wd s mk (k + 1) = (k : Int) by rw [HN.out, if_pos ⟨H0.out, h1, .inr h3⟩])
                  have e3 : decide (Mb - Sb < M - S) = true := decide_eq_true h3
                  go_wp2_with fail
                  refine wp_region_calm (by kernel_rfl) (by kernel_rfl) ?_
                  repeat (go_big_quiet_step (fail))
                  refine wpQuiet_nil ?_
                  intro w5 hw'
                  have hb5 := gw_below hw'
                  have B5 := Lib.hid (bnext Hbk.out hb5)
                  clear hw' hb5 x5 y5 z5
                  go_wp2
                  go_roundw
                  case rel => exact ⟨k + 1, by omega, by go_num, val_int HK.out.symm, B5.out⟩
                  case measure => simp [intOf]; omega
                · have HK := Lib.hid (show nextTo wd s mk (k + 1) = (b2 : Int) by rw [HN.out, if_neg (fun hh => by rcases hh.2.2 with x | x; exact h2 x; exact h3 x)])
                  have e3 : decide (Mb - Sb < M - S) = false := decide_eq_false h3
                  go_wp2_with fail
                  refine wp_region_calm (by kernel_rfl) (by kernel_rfl) ?_
                  repeat (go_big_quiet_step (fail))
                  refine wpQuiet_nil ?_
                  intro w5 hw'
                  have hb5 := gw_below hw'
                  have B5 := Lib.hid (bnext Hbk.out hb5)
                  clear hw' hb5 x5 y5 z5
                  go_wp2
                  go_roundw
                  case rel => exact ⟨k + 1, by omega, by go_num, val_int HK.out.symm, B5.out⟩
                  case measure => simp [intOf]; omega
            · have e1 : decide (S < 23) = false := decide_eq_false h1
              have HK := Lib.hid (show nextTo wd s mk (k + 1) = B by rw [HN.out, if_neg (fun hh => h1 hh.2.1)])
              go_wp2_with fail
              refine wp_region_calm (by kernel_rfl) (by kernel_rfl) ?_
              repeat (go_big_quiet_step (fail))
              refine wpQuiet_nil ?_
              intro w5 hw'
              have hb5 := gw_below hw'
              have B5 := Lib.hid (bnext Hbk.out hb5)
              clear hw' hb5 x5 y5 z5
              go_wp2
              go_roundw
              case rel => exact ⟨k + 1, by omega, by go_num, val_int HK.out.symm, B5.out⟩
              case measure => simp [intOf]; omega
          · have e0 : decide (0 < W) = false := decide_eq_false h0
            have HK := Lib.hid (show nextTo wd s mk (k + 1) = B by rw [HN.out, if_neg (fun hh => h0 hh.1)])
            have H0 := Lib.hid h0
            clear h0
            go_wp2_with fail
            refine wp_region_calm (by kernel_rfl) (by kernel_rfl) ?_
            repeat (go_big_quiet_step (fail))
            refine wpQuiet_nil ?_
            intro w5 hw'
            have hb5 := gw_below hw'
            have B5 := Lib.hid (bnext Hbk.out hb5)
            clear hw' hb5 x5 y5 z5
            go_wp2
            go_roundw
            case rel => exact ⟨k + 1, by omega, by go_num, val_int HK.out.symm, B5.out⟩
            case measure => simp [intOf]; omega
        · have hk4 : k = 4 := by omega
          subst hk4
          have t1 : ¬ (((4 : Nat) : Int) < 4) := by omega
          rw [HX4.out]
          have P2 := Lib.hid (hkeep Q2.out Hbk.out)
          have Ps := Lib.hid (Qs.out.below Hbk.out Qs.out.lt)
          have Pb := Lib.hid (btail Qb.out (Nat.le_refl _) Hbk.out)
          have Prow := Lib.hid (Krow.out.later Pb.out)
          have hzb := Hbk.out.size
          clear HN hbd Q2 Qs Qb Qrow Hbk
          go_wp2_with (first | (go_at_call 100; fail) | (refine wpList_load_row_w rfl 71 (.tmp 14) rfl w4.heap.size rfl _ fc _ _ F5.out Try.underlying71 rfl HFf.out ?_))
          refine (HBt.out _).mono ?_
          rintro e w6 ⟨rfl, hb6⟩
          have HFr6 := Lib.hid (hkeep F5.out hb6)
          have P26 := Lib.hid (hkeep P2.out hb6)
          have Pm6 := Lib.hid (hkeep M5.out hb6)
          have Ps6 := Lib.hid (Ps.out.below hb6 Ps.out.lt)
          have Pb6 := Lib.hid (btail Pb.out (Nat.le_refl _) hb6)
          have Prow6 := Lib.hid (Krow.out.later Pb6.out)
          have hz6 := hb6.size
          clear hb6 F5 M5 S5 P2 Ps Pb Prow
          by_cases hbits : Z ≤ room ∨ X < 0
          · have He := Lib.hid (Hend.out hbits)
            clear hXo
            have ee : decide (Z ≤ room) = true ∨ (decide (Z ≤ room) = false ∧ decide (X < 0) = true) := by
              by_cases h : Z ≤ room
              · exact .inl (decide_eq_true h)
              · exact .inr ⟨decide_eq_false h, decide_eq_true (by omega)⟩
            clear hbits
            rcases ee with e1 | ⟨e1, e2⟩
            all_goals
              go_wp2_with (first | (refine wpList_load_row_w rfl 71 (.tmp 14) rfl w4.heap.size rfl _ fc _ _ HFr6.out Try.underlying71 rfl HFf.out ?_) | (refine wpList_store_row_w rfl 71 (.tmp 8) (.tmp 78) rfl (w.heap.size + 1 + 1) rfl _ _ fc rfl P26.out HFf.out (by rw [Hfz.out]; rfl) Hf1.out ?_))
              refine bodyPost_ret (v := .tuple #[.agg fc, .int .i64 n]) (results_cell_tmp Try.results36 _ _ (w.heap.size + 1 + 1) 71 fc (0, 0) _ _ rfl rfl (setRow_at w6 _ _ _ fc P26.out) Try.underlying71 rfl HFf.out) rfl ?_
              rw [He.out]
              refine ⟨A, c, by rw [← Hfc.out]; rfl, hlc, hc63, ?_, HNil.out, row_setRow Hfr.out (by omega) fc Prow6.out, setRow_below (btail KB.out (by omega) Pb6.out) _ (by omega) _⟩
              rcases Hfr.out with h | ⟨g, h1, h2⟩
              · exact .inl h
              · exact .inr ⟨g, h1, by omega⟩
          · have e1 : decide (Z ≤ room) = false := decide_eq_false (fun h => hbits (.inl h))
            have e2 : decide (X < 0) = false := decide_eq_false (fun h => hbits (.inr h))
            obtain ⟨j, hj⟩ := Int.eq_ofNat_of_zero_le (show 0 ≤ X from Int.not_lt.1 (fun h => hbits (.inr h)))
            subst hj
            have hj4 : j < 4 := by omega
            obtain ⟨m, hm1, hm2⟩ := Hgo.out hbits
            have ho := hXo (by omega)
            rw [Int.toNat_natCast] at hm2 ho
            have hs := Hs.out
            obtain ⟨S, hS⟩ := list_get (k := j) hs.1 hj4
            rw [bgt_get hS] at ho hm2
            have hsb := hs.2 j hj4
            rw [bgt_get hS] at hsb
            have hss := sumS_set hs hj4 (S + 1)
            rw [bgt_get hS] at hss
            have hsi := hs.inc hj4 (by rw [bgt_get hS]; exact ho.2)
            rw [bgt_get hS] at hsi
            have Hsi := Lib.hid hsi
            have Hss := Lib.hid hss
            have Hm2 := Lib.hid hm2
            have hj4i : (j : Int) < 4 := by omega
            have hj0i : (0 : Int) ≤ (j : Int) := by omega
            have ce : w6.cell? ⟨w3.heap.size + 1, j, none⟩ = some (.int .i64 S) := by rw [Ps6.out.cell, List.getElem?_map, hS]; rfl
            have fz := Ps6.out.frozen j
            have hwr : IntKind.i64.wrap (S + 1) = S + 1 := IntWalk.i64_in _ (by omega)
            clear hXo ho hs hss hsi hm2 hS hbits
            go_wp2_with (refine wpList_load_row_w rfl 71 (.tmp 14) rfl w4.heap.size rfl _ fc _ _ HFr6.out Try.underlying71 rfl HFf.out ?_)
            go_roundw
            case rel =>
              refine ⟨s.set j (S + 1), n + 1, m, Hsi.out, by have := Hss.out; have := Hsum.out; omega, by omega, Hm2.out.symm, by go_num, (Below.heap_setCell w6 _ _ _ (by simp)).trans Pm6.out, ?_, Pb6.out.setCell (by simp) _⟩
              rw [List.map_set]
              exact Ps6.out.set_ j _
            case measure => simp [intOf]; omega
end Go.Proofs.Ytibegmjkiceiiaa
