/- The law FitExact; conditions: as each theorem states. -/
import Derived.Test.YtibegmjkiceiiaaFitR
namespace Go.Proofs.Ytibegmjkiceiiaa
open Go.RowKit

theorem near_qb {b : List Int} (h : b.all nearI = true) : QB b := fun k x hx => by
  have := List.all_eq_true.1 h x (List.mem_of_getElem? hx)
  simp [nearI] at this
  omega

set_option maxRecDepth 100000 in
set_option maxHeartbeats 16000000 in
theorem FitExact_walk (b g : List Int) (size : Int) (w : World) (hb : b.length = 16) (hg : g.length = 4) :
    Calls Try.prog 7 #[blockV b, blockV g, .int .i64 size] w fun e w' => e = .returned (.bool true) ∧ Below w.heap.size w w' := by
  have HN := Lib.hid (fun W => near12_any b W hb)
  obtain ⟨N, hN⟩ : ∃ N, b.all nearI = N := ⟨_, rfl⟩
  rw [hN] at HN
  have H1 := Lib.hid (fun (h : N = true) W => Frame_any b g size W hb (near_big (hN.trans h)) hg)
  have H2 := Lib.hid (fun (h : N = true) W => lawwide_any b W hb (near_big (hN.trans h)))
  have H3 := Lib.hid (fun W => lawright_any g W hg)
  have H4 := Lib.hid (fun (h : N = true) W => Exact_any b W hb (near_big (hN.trans h)))
  have HQb := Lib.hid (fun (h : N = true) => And.intro (near_qb (hN.trans h)) (near_big (hN.trans h)))
  have Hb := Lib.hid hb
  have Hg := Lib.hid hg
  have HC := Lib.hid (fun (k : Nat) (x : Int) (h : b[k]? = some x) => blk_get h)
  have HSL := Lib.hid (fun (h : b.all slimI = true) => And.intro (exact_right hb h) (And.intro (exact_spec hb (low23 hb h).bd) (off_exact hb (low23 hb h).bd)))
  have HFF := Lib.hid (show fitF b g size = if fitErr b g size = 0 then (if 55 ≤ size then exactZ b else (searchZ b g (8 * size) true).1) else zeroFr from rfl)
  have HEr := Lib.hid (show fitErr b g size = if size < 24 ∨ 96 < size then 12 else if (b.all slimI && gainOk g) = true then 0 else 5 from rfl)
  have HFR := Lib.hid (fun (h : fitErr b g size = 0) => fit_right hb hg h)
  obtain ⟨SL, hSL⟩ : ∃ SL, b.all slimI = SL := ⟨_, rfl⟩
  rw [hSL] at H2 HEr HSL
  generalize gainOk g = GO at *
  have hbz : (b.map (Value.int .i64)).toArray.size = 16 := by simp [hb]
  have hgz : (g.map (Value.int .i64)).toArray.size = 4 := by simp [hg]
  obtain ⟨bv, hbv⟩ : ∃ bv, (b.map (Value.int .i64)).toArray = bv := ⟨_, rfl⟩
  have HBv := Lib.hid (show blockV b = .agg bv by rw [← hbv]; rfl)
  obtain ⟨gv, hgv⟩ : ∃ gv, (g.map (Value.int .i64)).toArray = gv := ⟨_, rfl⟩
  have HGv := Lib.hid (show blockV g = .agg gv by rw [← hgv]; rfl)
  rw [hbv] at hbz HC
  rw [hgv] at hgz
  rw [HBv.out, HGv.out]
  rw [HBv.out] at HN H2 H4
  rw [HGv.out] at H3
  rw [HBv.out, HGv.out] at H1
  have HFb := Lib.hid (show (Try.prog.info? 66).map (·.size) = some bv.size by rw [hbz]; exact inf_block)
  have HFg := Lib.hid (show (Try.prog.info? 67).map (·.size) = some gv.size by rw [hgz]; exact inf_four)
  have M2 := Lib.hid (heap2 w (.cells bv 66) (.cells gv 67))
  clear hN hb hg hbz hgz hbv hgv hSL
  cases N
  · clear H1 H2 H4
    go_enter Try.func7, Try.ntmps7
    go_wp2_with (first | (go_at_call 33; refine (HN.out _).mono ?_; rintro e w1 ⟨rfl, hb1⟩) | (go_at_call 34; refine (awake12_any _).mono ?_; rintro e wa ⟨rfl, hba⟩) | (refine wpList_load_row_w rfl 66 (.tmp 3) rfl w.heap.size rfl _ bv _ _ M2.out.1 Try.underlying66 rfl HFb.out ?_))
    go_ret
    exact ⟨rfl, btail M2.out.2.2.2 (by have := M2.out.2.2.1; omega) (bnext hb1 hba)⟩
  · have G1 := Lib.hid (H1.out rfl)
    have G2 := Lib.hid (H2.out rfl)
    have G4 := Lib.hid (H4.out rfl)
    clear H1 H2 H4
    go_enter Try.func7, Try.ntmps7
    go_wp2_with (first | (go_at_call 33; fail) | (refine wpList_load_row_w rfl 66 (.tmp 3) rfl w.heap.size rfl _ bv _ _ M2.out.1 Try.underlying66 rfl HFb.out ?_))
    refine (HN.out _).mono ?_
    rintro e w1 ⟨rfl, hb1⟩
    have B01 := Lib.hid (hkeep M2.out.1 hb1)
    have B11 := Lib.hid (hkeep M2.out.2.1 hb1)
    have BB1 := Lib.hid (btail M2.out.2.2.2 (by have := M2.out.2.2.1; omega) hb1)
    have z1 := Nat.le_trans (Nat.le_of_eq M2.out.2.2.1.symm) hb1.size
    clear hb1 M2
    go_wp2_with (first | (go_at_call 40; fail) | (refine wpList_load_row_w rfl 66 (.tmp 3) rfl w.heap.size rfl _ bv _ _ B01.out Try.underlying66 rfl HFb.out ?_))
    refine (G2.out _).mono ?_
    rintro e w2 ⟨rfl, hb2⟩
    have B02 := Lib.hid (hkeep B01.out hb2)
    have B12 := Lib.hid (hkeep B11.out hb2)
    have BB2 := Lib.hid (btail BB1.out (Nat.le_refl _) hb2)
    have z2 := Nat.le_trans z1 hb2.size
    clear hb2 B01 B11 BB1
    cases SL
    · go_wp2_with (go_at_call 34; refine (awake12_any _).mono ?_; rintro e wa ⟨rfl, hba⟩)
      go_ret
      exact ⟨rfl, btail BB2.out (Nat.le_refl _) hba⟩
    go_wp2_with (first | (go_at_call 41; fail) | (refine wpList_load_row_w rfl 67 (.tmp 4) rfl (w.heap.size + 1) rfl _ gv _ _ B12.out Try.underlying67 rfl HFg.out ?_))
    refine (H3.out _).mono ?_
    rintro e w3 ⟨rfl, hb3⟩
    have B03 := Lib.hid (hkeep B02.out hb3)
    have B13 := Lib.hid (hkeep B12.out hb3)
    have BB3 := Lib.hid (btail BB2.out (Nat.le_refl _) hb3)
    have z3 := Nat.le_trans z2 hb3.size
    clear hb3 B02 B12 BB2
    cases GO
    · go_wp2_with (go_at_call 34; refine (awake12_any _).mono ?_; rintro e wa ⟨rfl, hba⟩)
      go_ret
      exact ⟨rfl, btail BB3.out (Nat.le_refl _) hba⟩
    by_cases hsz : size < 24 ∨ 96 < size
    · have hsd : decide (size < 24) = true ∨ (decide (size < 24) = false ∧ decide (96 < size) = true) := by
        by_cases h : size < 24
        · exact .inl (decide_eq_true h)
        · exact .inr ⟨decide_eq_false h, decide_eq_true (by omega)⟩
      clear hsz HEr HFF HFR
      rcases hsd with e1 | ⟨e1, e2⟩
      all_goals
        go_wp2_with (go_at_call 34; refine (awake12_any _).mono ?_; rintro e wa ⟨rfl, hba⟩)
        go_ret
        exact ⟨rfl, btail BB3.out (Nat.le_refl _) hba⟩
    have s1 : decide (size < 24) = false := decide_eq_false (by omega)
    have s2 : decide (96 < size) = false := decide_eq_false (by omega)
    have he : fitErr b g size = 0 := by rw [HEr.out, if_neg hsz]; rfl
    have hR := (HFR.out he).1
    have hFF := HFF.out
    rw [he] at G1 hFF
    rw [if_pos rfl] at hFF
    obtain ⟨hXR, hXs, hXo⟩ := HSL.out trivial
    obtain ⟨hqb, hbig⟩ := HQb.out trivial
    have HYb := Lib.hid hqb
    have hfo := far_off (f := fitF b g size) hbig Hb.out
    have hF55 := Lib.hid (show 55 ≤ size → fitF b g size = exactZ b from fun h => by rw [hFF, if_pos h])
    have HOff := Lib.hid (fun F (h : RightF F) A c W r => Off_any b F A c W Hb.out hqb h r)
    rw [HBv.out] at HOff
    have HXt := Lib.hid (show (exactZ b).tones = [] from rfl)
    clear hFF hsz HEr HFF HFR hqb hbig he
    generalize fitF b g size = F at *
    generalize exactZ b = X at *
    have HXr := Lib.hid hXR
    have HRr := Lib.hid hR
    have hXz := Lib.hid (frameA_size hXR.len (.slice none 0 0))
    have hX1 := Lib.hid (frameA_one X (tv := .slice none 0 0) rfl)
    have HSX := Lib.hid (show ∀ W, Calls Try.prog 44 #[.agg (frameA X (.slice none 0 0))] W fun e w' => e = .returned (.agg bv) ∧ Below W.heap.size W w' from fun W => by
      have := Spectrum_any X none 0 W hXR (by rw [HXt.out]; exact Row.none_ _ _ _)
      rw [show X.tones.length = 0 by rw [HXt.out]; rfl, hXs, HBv.out] at this
      exact this)
    have HOX := Lib.hid (show ∀ W, Calls Try.prog 46 #[.agg bv, .agg (frameA X (.slice none 0 0))] W fun e w' => e = .returned (.int .i64 0) ∧ Below W.heap.size W w' from fun W => by
      have := HOff.out X hXR none 0 W (by rw [HXt.out]; exact Row.none_ _ _ _)
      rw [show X.tones.length = 0 by rw [HXt.out]; rfl, hXo] at this
      exact this)
    have HSmX := Lib.hid (fun (h : F = X) A c W (r : Row W W.heap.size A (toneCells F.tones)) => (show Calls Try.prog 39 #[.agg (frameA F (.slice A F.tones.length c)), .agg (frameA X (.slice none 0 0))] W fun e w' => e = .returned (.bool true) ∧ Below W.heap.size W w' from by
      subst h
      have := Same_one F A none c 0 W HRr.out.len r (by rw [HXt.out]; exact Row.none_ _ _ _) (by rw [HXt.out]; exact Nat.zero_le _)
      rw [show F.tones.length = 0 by rw [HXt.out]; rfl] at this ⊢
      exact this))
    have HZl := Lib.hid (specZ_len F)
    have HZX := Lib.hid (show 55 ≤ size → specZ F = b from fun h => by rw [hF55.out h, hXs])
    have HCz := Lib.hid (fun (k : Nat) (x : Int) (h : (specZ F)[k]? = some x) => blk_get h)
    have HZb := Lib.hid (fun k (hk : k < 16) => specZ_bd F hk)
    have HSpF := Lib.hid (fun A c W r => Spectrum_any F A c W hR r)
    have HOF := Lib.hid (fun A c W r => HOff.out F hR A c W r)
    have hzz : ((specZ F).map (Value.int .i64)).toArray.size = 16 := by simp [HZl.out]
    have hz1 := Lib.hid (ints_one (specZ F))
    rw [← hfo] at HOF
    generalize specZ F = Z at *
    obtain ⟨D, hD⟩ : ∃ D, farTo Z b 16 = D := ⟨_, rfl⟩
    rw [hD] at HOF
    have HD := Lib.hid hD
    obtain ⟨fx, hfx⟩ : ∃ fx, frameA X (.slice none 0 0) = fx := ⟨_, rfl⟩
    rw [hfx] at G4 hXz hX1 HSX HOX HSmX
    have HFfx := Lib.hid (show (Try.prog.info? 71).map (·.size) = some fx.size by rw [hXz.out]; exact inf_frame)
    clear hR hXR hXs hXo hfo HOff HSL HQb hD hfx
    go_wp2_with (first | (go_at_call 42; fail) | (refine wpList_load_row_w rfl 66 (.tmp 3) rfl w.heap.size rfl _ bv _ _ B03.out Try.underlying66 rfl HFb.out ?_))
    refine (G4.out _).mono ?_
    rintro e w4 ⟨rfl, hb4⟩
    have hb5 := bnext hb4 (bnew w4 (.cells fx 71))
    have B04 := Lib.hid (hkeep B03.out hb5)
    have B14 := Lib.hid (hkeep B13.out hb5)
    have Bx := Lib.hid (heap_alloc_new w4 (.cells fx 71))
    have BB4 := Lib.hid (btail BB3.out (Nat.le_refl _) hb5)
    have z4 := Nat.le_trans z3 hb5.size
    clear hb4 hb5 B03 B13 BB3
    go_wp2_with (first | (go_at_call 43; fail) | (refine wpList_store_row_w rfl 71 (.tmp 7) (.tmp 36) rfl w4.heap.size rfl _ _ fx rfl (heap_alloc_new w4 _) HFfx.out (by rw [hXz.out]; rfl) hX1.out ?_; rw [World.setRow_alloc_new]) | (refine wpList_load_row_w rfl 66 (.tmp 3) rfl w.heap.size rfl _ bv _ _ B04.out Try.underlying66 rfl HFb.out ?_) | (refine wpList_load_row_w rfl 67 (.tmp 4) rfl (w.heap.size + 1) rfl _ gv _ _ B14.out Try.underlying67 rfl HFg.out ?_))
    refine (G1.out _).mono ?_
    rintro e w5 ⟨A1, c1, rfl, _, _, _, hrow1, hb5⟩
    have Hfz1 := Lib.hid (frameA_size HRr.out.len (.slice A1 F.tones.length c1))
    have Hf11 := Lib.hid (frameA_one F (tv := .slice A1 F.tones.length c1) rfl)
    have HSp := Lib.hid (HSpF.out A1 c1)
    have HO1 := Lib.hid (HOF.out A1 c1)
    have HSm := Lib.hid (fun h => HSmX.out h A1 c1)
    obtain ⟨f1, hf1⟩ : ∃ f1, frameA F (.slice A1 F.tones.length c1) = f1 := ⟨_, rfl⟩
    rw [hf1] at Hfz1 Hf11 HSp HO1 HSm ⊢
    have HFf1 := Lib.hid (show (Try.prog.info? 71).map (·.size) = some f1.size by rw [Hfz1.out]; exact inf_frame)
    have hb6 := bnext hb5 (bnew w5 (.cells f1 71))
    have B05 := Lib.hid (hkeep B04.out hb6)
    have Bx5 := Lib.hid (hkeep Bx.out hb6)
    have Bf := Lib.hid (heap_alloc_new w5 (.cells f1 71))
    have R1 := Lib.hid (hrow1.later (bnew w5 (.cells f1 71)))
    have BB5 := Lib.hid (btail BB4.out (Nat.le_refl _) hb6)
    clear hb5 hb6 hrow1 hf1 B04 B14 Bx BB4 HSpF HOF HSmX
    go_wp2_with (first | (go_at_call 44; fail) | (refine wpList_store_row_w rfl 71 (.tmp 8) (.tmp 42) rfl w5.heap.size rfl _ _ f1 rfl (heap_alloc_new w5 _) HFf1.out (by rw [Hfz1.out]; rfl) Hf11.out ?_; rw [World.setRow_alloc_new]) | (refine wpList_load_row_w rfl 71 (.tmp 8) rfl w5.heap.size rfl _ f1 _ _ Bf.out Try.underlying71 rfl HFf1.out ?_))
    refine (HSp.out _ R1.out).mono ?_
    rintro e w6 ⟨rfl, hb6⟩
    unfold blockV
    obtain ⟨zv, hzv⟩ : ∃ zv, (Z.map (Value.int .i64)).toArray = zv := ⟨_, rfl⟩
    rw [hzv] at hzz hz1 HCz ⊢
    have HZv := Lib.hid (show blockV Z = .agg zv by rw [← hzv]; rfl)
    have HFz := Lib.hid (show (Try.prog.info? 66).map (·.size) = some zv.size by rw [hzz]; exact inf_block)
    have Hzz := Lib.hid hzz
    have hb7 := bnext hb6 (bnew w6 (.cells zv 66))
    have B06 := Lib.hid (hkeep B05.out hb7)
    have Bx6 := Lib.hid (hkeep Bx5.out hb7)
    have Bf6 := Lib.hid (hkeep Bf.out hb7)
    have R16 := Lib.hid (R1.out.later hb7)
    have Bz := Lib.hid (heap_alloc_new w6 (.cells zv 66))
    have BB6 := Lib.hid (btail BB5.out (Nat.le_refl _) hb7)
    clear hb6 hb7 hzv hzz B05 Bx5 Bf R1 BB5 HSp
    go_wp2_with (refine wpList_store_row_w rfl 66 (.tmp 10) (.tmp 45) rfl w6.heap.size rfl _ _ zv rfl (heap_alloc_new w6 _) HFz.out (by rw [Hzz.out]; rfl) hz1.out ?_; rw [World.setRow_alloc_new])
    obtain ⟨W7, hW7⟩ : ∃ W7, w6.alloc (.cells zv 66) = W7 := ⟨_, rfl⟩
    rw [hW7] at B06 Bx6 Bf6 R16 Bz BB6 ⊢
    clear hW7
    go_loopw [11, 12] (fun fr i wr => ∃ (m : Nat), m ≤ 16 ∧ i = .int .i64 m ∧ fr = .int .i64 (farTo Z b m) ∧ Below W7.heap.size W7 wr) (fun _ i _ => 16 - (intOf i).toNat)
    case atStart => exact ⟨0, by omega, rfl, rfl, Below.refl _ _⟩
    case round =>
      obtain ⟨m, hm, rfl, rfl, hbel⟩ := hrel
      have Hbel := Lib.hid hbel
      have C0 := Lib.hid (hkeep B06.out hbel)
      have Cz := Lib.hid (hkeep Bz.out hbel)
      clear hbel
      by_cases hlk : m < 16
      · have t1 : (m : Int) < 16 := by omega
        obtain ⟨x, hx⟩ := list_get (k := m) HZl.out hlk
        obtain ⟨y, hy⟩ := list_get (k := m) Hb.out hlk
        have hxb := HZb.out m hlk
        rw [bgt_get hx] at hxb
        have hyb := HYb.out m y hy
        have HS := Lib.hid (farTo_succ Z b m)
        rw [bgt_get hx, bgt_get hy] at HS
        have hcx := HCz.out _ _ hx
        have hcy := HC.out _ _ hy
        have x5 := gw_cells Cz.out
        have y5 := gw_cells C0.out
        have hwr : IntKind.i64.wrap (x - y) = x - y := IntWalk.i64_in _ (by omega)
        have HA := Lib.hid (fun W => Abs_any (x - y) W (by omega) (by omega))
        generalize absZ (x - y) = ax at *
        generalize farTo Z b m = fa at *
        clear hx hy
        go_wp2_with fail
        refine wp_region_calm (by kernel_rfl) (by kernel_rfl) ?_
        repeat (go_big_quiet_step ((go_at_call 45; exact calm_same (HA.out _))))
        refine wpQuiet_nil ?_
        intro w8 hw'
        have hb8 := gw_below hw'
        have B8 := Lib.hid (bnext Hbel.out hb8)
        clear hw' hb8 x5 y5
        by_cases hf : fa < ax
        · have e1 : decide (fa < ax) = true := decide_eq_true hf
          have HK := Lib.hid (show farTo Z b (m + 1) = ax by rw [HS.out, if_pos hf])
          go_wp2
          go_roundw
          case rel => exact ⟨m + 1, by omega, by go_num, val_int HK.out.symm, B8.out⟩
          case measure => simp [intOf]; omega
        · have e1 : decide (fa < ax) = false := decide_eq_false hf
          have HK := Lib.hid (show farTo Z b (m + 1) = fa by rw [HS.out, if_neg hf])
          go_wp2
          go_roundw
          case rel => exact ⟨m + 1, by omega, by go_num, val_int HK.out.symm, B8.out⟩
          case measure => simp [intOf]; omega
      · have hm16 : m = 16 := by omega
        subst hm16
        have t1 : ¬ (((16 : Nat) : Int) < 16) := by omega
        rw [HD.out]
        have P0 := gw_heap C0.out
        have Pz := gw_heap Cz.out
        have Px := gw_heap (hkeep Bx6.out Hbel.out)
        have Pf := gw_heap (hkeep Bf6.out Hbel.out)
        have PR := Lib.hid (R16.out.later Hbel.out)
        have PB := Lib.hid (btail BB6.out (Nat.le_refl _) Hbel.out)
        have HO := Lib.hid (fun (x : GW wr) => HO1.out x.1 (PR.out.later x.2))
        have q1 : ∀ W, (Op.equalIn 10000 66 (.agg bv) (.agg bv)).run Try.prog W = .ok true W := by
          intro W
          have := eq_block b b Hb.out Hb.out W
          rw [HBv.out] at this
          exact this.trans (by rw [decide_eq_true rfl])
        go_wp2_with fail
        by_cases h55 : 55 ≤ size
        · have e5 : decide (size < 55) = false := decide_eq_false (by omega)
          have hzb : zv = bv := by
            have h1 := HZv.out
            rw [HZX.out h55, HBv.out] at h1
            injection h1 with h1
            exact h1.symm
          subst hzb
          have HSg := Lib.hid (fun (x : GW wr) => HSm.out (hF55.out h55) x.1 (PR.out.later x.2))
          refine wp_region_calm (by kernel_rfl) (by kernel_rfl) ?_
          repeat (first | (go_big_quiet_want; refine quiet_load_row 66 (.tmp 3) rfl w.heap.size rfl _ zv _ _ P0 Try.underlying66 rfl HFb.out ?_; go_simp; go_big_quiet_on) | (go_big_quiet_want; refine quiet_load_row 66 (.tmp 10) rfl w6.heap.size rfl _ zv _ _ Pz Try.underlying66 rfl HFb.out ?_; go_simp; go_big_quiet_on) | (go_big_quiet_want; refine quiet_load_row 71 (.tmp 8) rfl w5.heap.size rfl _ f1 _ _ Pf Try.underlying71 rfl HFf1.out ?_; go_simp; go_big_quiet_on) | (go_big_quiet_want; refine quiet_load_row 71 (.tmp 7) rfl w4.heap.size rfl _ fx _ _ Px Try.underlying71 rfl HFfx.out ?_; go_simp; go_big_quiet_on) | go_big_quiet_step ((first | (go_at_call 46; first | exact calm_call (HO.out _) | exact calm_call (HOX.out _)) | (go_at_call 39; exact calm_call (HSg.out _)) | (go_at_call 44; exact calm_call (HSX.out _)) | (go_at_call 34; exact calm_call (awake12_any _)))))
          refine wpQuiet_nil ?_
          intro w8 hw'
          have hb8 := gw_below hw'
          go_wp2
          go_ret
          exact ⟨rfl, btail PB.out (Nat.le_refl _) hb8⟩
        · have e5 : decide (size < 55) = true := decide_eq_true (by omega)
          refine wp_region_calm (by kernel_rfl) (by kernel_rfl) ?_
          repeat (first | (go_big_quiet_want; refine quiet_load_row 66 (.tmp 3) rfl w.heap.size rfl _ bv _ _ P0 Try.underlying66 rfl HFb.out ?_; go_simp; go_big_quiet_on) | (go_big_quiet_want; refine quiet_load_row 71 (.tmp 8) rfl w5.heap.size rfl _ f1 _ _ Pf Try.underlying71 rfl HFf1.out ?_; go_simp; go_big_quiet_on) | (go_big_quiet_want; refine quiet_load_row 71 (.tmp 7) rfl w4.heap.size rfl _ fx _ _ Px Try.underlying71 rfl HFfx.out ?_; go_simp; go_big_quiet_on) | go_big_quiet_step ((first | (go_at_call 46; first | exact calm_call (HO.out _) | exact calm_call (HOX.out _)) | (go_at_call 44; exact calm_call (HSX.out _)) | (go_at_call 34; exact calm_call (awake12_any _)))))
          refine wpQuiet_nil ?_
          intro w8 hw'
          have hb8 := gw_below hw'
          go_wp2
          go_ret
          exact ⟨rfl, btail PB.out (Nat.le_refl _) hb8⟩
theorem FitExact_law (W : World) (v0 v1 v2 : Value) (a0 : Arg W (tyRep (.int .i64) 1 16) v0) (a1 : Arg W (tyRep (.int .i64) 1 4) v1) (a2 : Arg W (.int .i64) v2) :
    Calls Try.prog 7 #[v0, v1, v2] W fun e w' => e = .returned (.bool true) ∧ Below W.heap.size W w' := by
  obtain ⟨b, hb, rfl, _⟩ := arr_arg a0
  obtain ⟨g, hg, rfl, _⟩ := arr_arg a1
  obtain ⟨size, ha, _, _⟩ := a2
  obtain rfl : v2 = .int .i64 size := by simpa using ha
  exact FitExact_walk b g size W hb hg
end Go.Proofs.Ytibegmjkiceiiaa
