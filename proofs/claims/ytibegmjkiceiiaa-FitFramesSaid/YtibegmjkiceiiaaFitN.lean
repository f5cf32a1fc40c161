/- The law FitFrames; conditions: as each theorem states. -/
import Derived.Test.YtibegmjkiceiiaaFitM
import Derived.Test.YtibegmjkiceiiaaWrE
namespace Go.Proofs.Ytibegmjkiceiiaa
open Go.RowKit

theorem gain_of {g : List Int} (hg : g.length = 4) (h : gainOk g = true) : g.length = 4 ∧ ∀ i, i < 4 → 0 ≤ bgt g i ∧ bgt g i ≤ 3 := ⟨hg, fun i hi => by
  obtain ⟨x, hx⟩ := list_get (k := i) hg hi
  have := List.all_eq_true.1 h x (List.mem_of_getElem? hx)
  unfold inB at this
  rw [bgt_get hx]
  simpa using this⟩
theorem low_tones {b : List Int} (hb : b.length = 16) (hl : Low23 b) (tones : Bool) : (tonesFor b tones).length ≤ 2 ∧ (∀ t ∈ tonesFor b tones, 0 ≤ t.idx ∧ t.idx < 16 ∧ -8388608 ≤ t.val ∧ t.val < 8388608) ∧ ((tonesFor b tones).Pairwise fun x y => x.idx < y.idx) ∧ Low23 (outT b (tonesFor b tones)) := by
  have hbig : BigB b := fun k x hx => by
    have hk : k < 16 := by have := (List.getElem?_eq_some_iff.1 hx).1; omega
    have := hl k hk
    rw [bgt_get hx] at this
    omega
  cases tones
  · exact ⟨by simp [tonesFor], fun t ht => by simp [tonesFor] at ht, by simp [tonesFor], by simpa [tonesFor, outT] using hl⟩
  · simp only [tonesFor, if_true]
    refine ⟨findT_len2 hb hbig, fun t ht => ?_, findT_inc b, fun i hi => ?_⟩
    · rw [find_idxs] at ht
      obtain ⟨k, hk, rfl⟩ := List.mem_map.1 ht
      have h16 := idxs_lt b k hk
      have := hl k h16
      unfold toneAt
      simp only
      omega
    · rw [find_idxs, outT_get b i _ b hb (idxs_nodup b) (idxs_lt b)]
      have := hl i hi
      split <;> omega
theorem search_right {b g : List Int} {room : Int} {tones : Bool} (hb : b.length = 16) (hs : b.all slimI = true) (hg : g.length = 4) (hgo : gainOk g = true) : RightF (searchZ b g room tones).1 := by
  obtain ⟨s, n, h, hsc, _⟩ := search_ends b g room tones
  obtain ⟨h1, h2, h3, h4⟩ := low_tones hb (low23 hb hs) tones
  rw [h]
  exact told_right (gain_of hg hgo) h1 h2 h3 hsc h4
theorem search_room {b g : List Int} {room : Int} {tones : Bool} (hb : b.length = 16) (hs : b.all slimI = true) (hr : 192 ≤ room) : bitsZ (searchZ b g room tones).1 ≤ room := by
  obtain ⟨s, n, h, hsc, he⟩ := search_ends b g room tones
  obtain ⟨h1, _, _, h4⟩ := low_tones hb (low23 hb hs) tones
  rw [h]
  rcases he with he | he
  · exact he
  · have := told_room h1 hsc h4 he
    show bitsZ (toldZ b g s (tonesFor b tones)) ≤ room
    omega
theorem fit_right {b g : List Int} {size : Int} (hb : b.length = 16) (hg : g.length = 4) (he : fitErr b g size = 0) : RightF (fitF b g size) ∧ bitsZ (fitF b g size) ≤ 8 * size ∧ 24 ≤ size ∧ size ≤ 96 := by
  have he2 := he
  unfold fitErr at he
  split at he
  · cases he
  · split at he
    · rename_i h1 h2
      rw [Bool.and_eq_true] at h2
      unfold fitF
      rw [he2, if_pos rfl]
      split
      · have hR := exact_right hb h2.1
        have hbz := frameB_most hR
        refine ⟨hR, ?_, by omega, by omega⟩
        have hw := fun i hi => hR.width i hi
        have w0 := hw 0 (by omega)
        have w1 := hw 1 (by omega)
        have w2 := hw 2 (by omega)
        have w3 := hw 3 (by omega)
        have ht : (exactZ b).tones.length = 0 := rfl
        unfold bitsZ
        omega
      · exact ⟨search_right hb h2.1 hg h2.2, search_room hb h2.1 (by omega), by omega, by omega⟩
    · cases he

set_option maxRecDepth 100000 in
set_option maxHeartbeats 16000000 in
theorem FitFrames_walk (b g : List Int) (size : Int) (w : World) (hb : b.length = 16) (hg : g.length = 4) :
    Calls Try.prog 9 #[blockV b, blockV g, .int .i64 size] w fun e w' => e = .returned (.bool true) ∧ Below w.heap.size w w' := by
  have HN := Lib.hid (fun W => near12_any b W hb)
  obtain ⟨N, hN⟩ : ∃ N, b.all nearI = N := ⟨_, rfl⟩
  rw [hN] at HN
  have H1 := Lib.hid (fun (h : N = true) W => Frame_any b g size W hb (near_big (hN.trans h)) hg)
  have H2 := Lib.hid (fun (h : N = true) W => lawwide_any b W hb (near_big (hN.trans h)))
  have H3 := Lib.hid (fun W => lawright_any g W hg)
  have H4 := Lib.hid (fun (h : N = true) W => lawtold_any b zero4 zero4 [] none 0 W hb rfl ScB.zero (tones_ok hb (near_big (hN.trans h)) false) (Row.none_ _ _ _))
  have H5 := Lib.hid (fun (h : N = true) W => lawsearch_any b g (8 * size) true W hb (near_big (hN.trans h)) hg)
  have HFR := Lib.hid (fun (h : fitErr b g size = 0) => fit_right hb hg h)
  have HFF := Lib.hid (show fitF b g size = if fitErr b g size = 0 then (if 55 ≤ size then exactZ b else (searchZ b g (8 * size) true).1) else zeroFr from rfl)
  have HEr := Lib.hid (show fitErr b g size = if size < 24 ∨ 96 < size then 12 else if (b.all slimI && gainOk g) = true then 0 else 5 from rfl)
  have HXl := Lib.hid (exact_len (b := b))
  have HXt := Lib.hid (show (exactZ b).tones = [] from rfl)
  have HSl := Lib.hid (searchZ_len (b := b) (room := 8 * size) (tones := true) hg)
  have hbz : (b.map (Value.int .i64)).toArray.size = 16 := by simp [hb]
  have hgz : (g.map (Value.int .i64)).toArray.size = 4 := by simp [hg]
  have H4' := Lib.hid (show ∀ (h : N = true) W, Calls Try.prog 58 #[blockV b, .agg #[.int .i64 0, .int .i64 0, .int .i64 0, .int .i64 0], .agg #[.int .i64 0, .int .i64 0, .int .i64 0, .int .i64 0], .slice none 0 0] W fun e w' => e = .returned (.agg (frameA (exactZ b) (.slice none 0 0))) ∧ Below W.heap.size W w' from H4.out)
  clear H4
  generalize fitErr b g size = er at *
  generalize fitF b g size = F at *
  generalize exactZ b = X at *
  generalize searchZ b g (8 * size) true = S at *
  obtain ⟨S, sn⟩ := S
  simp only at HSl HFF
  generalize b.all slimI = SL at *
  generalize gainOk g = GO at *
  unfold blockV at *
  generalize (b.map (Value.int .i64)).toArray = bv at *
  generalize (g.map (Value.int .i64)).toArray = gv at *
  have HFb := Lib.hid (show (Try.prog.info? 66).map (·.size) = some bv.size by rw [hbz]; exact inf_block)
  have HFg := Lib.hid (show (Try.prog.info? 67).map (·.size) = some gv.size by rw [hgz]; exact inf_four)
  have M2 := Lib.hid (heap2 w (.cells bv 66) (.cells gv 67))
  clear hN hb hg hbz hgz
  cases N
  · clear H1 H2 H4' H5
    go_enter Try.func9, Try.ntmps9
    go_wp2_with (first | (go_at_call 33; refine (HN.out _).mono ?_; rintro e w1 ⟨rfl, hb1⟩) | (go_at_call 34; refine (awake12_any _).mono ?_; rintro e w2 ⟨rfl, hb2⟩) | (refine wpList_load_row_w rfl 66 (.tmp 3) rfl w.heap.size rfl _ bv _ _ M2.out.1 Try.underlying66 rfl HFb.out ?_))
    go_ret
    exact ⟨rfl, btail M2.out.2.2.2 (by have := M2.out.2.2.1; omega) (bnext hb1 hb2)⟩
  · have G1 := Lib.hid (H1.out rfl)
    have G2 := Lib.hid (H2.out rfl)
    have G4 := Lib.hid (H4'.out rfl)
    have G5 := Lib.hid (H5.out rfl)
    clear H1 H2 H4' H5
    go_enter Try.func9, Try.ntmps9
    go_wp2_with (first | (go_at_call 33; fail) | (refine wpList_load_row_w rfl 66 (.tmp 3) rfl w.heap.size rfl _ bv _ _ M2.out.1 Try.underlying66 rfl HFb.out ?_))
    refine (HN.out _).mono ?_
    rintro e w1 ⟨rfl, hb1⟩
    have K0 := Lib.hid (hkeep M2.out.1 hb1)
    have K1 := Lib.hid (hkeep M2.out.2.1 hb1)
    have KB := Lib.hid (btail M2.out.2.2.2 (by have := M2.out.2.2.1; omega) hb1)
    have z1 := Nat.le_trans (Nat.le_of_eq M2.out.2.2.1.symm) hb1.size
    clear hb1 M2
    go_wp2_with (first | (go_at_call 43; fail) | (refine wpList_load_row_w rfl 66 (.tmp 3) rfl w.heap.size rfl _ bv _ _ K0.out Try.underlying66 rfl HFb.out ?_) | (refine wpList_load_row_w rfl 67 (.tmp 4) rfl (w.heap.size + 1) rfl _ gv _ _ K1.out Try.underlying67 rfl HFg.out ?_))
    refine (G1.out _).mono ?_
    rintro e w2 ⟨A1, c1, rfl, _, _, _, hrow1, hb2⟩
    have HFl : F.Len := by
      by_cases he : er = 0
      · exact (HFR.out he).1.len
      · rw [HFF.out, if_neg he]; exact ⟨rfl, rfl, rfl, rfl⟩
    have hFt : F.tones.length ≤ 1000000 := by
      by_cases he : er = 0
      · have := (HFR.out he).1.tlen; omega
      · rw [HFF.out, if_neg he]; exact Nat.zero_le _
    have Hfz1 := Lib.hid (frameA_size HFl (.slice A1 F.tones.length c1))
    have Hf11 := Lib.hid (frameA_one F (tv := .slice A1 F.tones.length c1) rfl)
    have HSm0 := Lib.hid (fun A2 c2 W r1 r2 => Same_one F A1 A2 c1 c2 W HFl r1 r2 hFt)
    have HRt := Lib.hid (fun (he : er = 0) W r => Right_ok F A1 c1 W (HFR.out he).1 r)
    have HBy := Lib.hid (fun (he : er = 0) (sz : Nat) (hs : size = sz) W r => FBytes_ok F A1 c1 sz W (HFR.out he).1 r (by have := (HFR.out he).2.1; omega) (by have := (HFR.out he).2.2.2; omega))
    obtain ⟨f1, hf1⟩ : ∃ f1, frameA F (.slice A1 F.tones.length c1) = f1 := ⟨_, rfl⟩
    rw [hf1] at Hfz1 Hf11 HSm0 HRt HBy ⊢
    have HE1 := Lib.hid hf1
    have HFf1 := Lib.hid (show (Try.prog.info? 71).map (·.size) = some f1.size by rw [Hfz1.out]; exact inf_frame)
    have hb3 := bnext hb2 (bnew w2 (.cells f1 71))
    have B0 := Lib.hid (hkeep K0.out hb3)
    have B1 := Lib.hid (hkeep K1.out hb3)
    have BB := Lib.hid (btail KB.out (Nat.le_refl _) hb3)
    have Bf := Lib.hid (heap_alloc_new w2 (.cells f1 71))
    have HRow1 := Lib.hid hrow1
    have C := Lib.hid (bnew w2 (.cells f1 71))
    have R1 := Lib.hid (HRow1.out.later C.out)
    have z := Nat.le_trans z1 hb3.size
    clear hb2 hb3 hrow1 hf1 K0 K1 KB HFl hFt z1
    by_cases hsz : size < 24 ∨ 96 < size
    · have he : er = 12 := by rw [HEr.out, if_pos hsz]
      have hF : F = zeroFr := by rw [HFF.out, he]; rfl
      subst he hF
      have HSm := Lib.hid (show ∀ W, Row W W.heap.size A1 (toneCells zeroFr.tones) → Row W W.heap.size none (toneCells zeroFr.tones) → Calls Try.prog 39 #[.agg f1, .agg zeroF] W fun e w' => e = .returned (.bool true) ∧ Below W.heap.size W w' from HSm0.out none 0)
      have hsd : decide (size < 24) = true ∨ (decide (size < 24) = false ∧ decide (96 < size) = true) := by
        by_cases h : size < 24
        · exact .inl (decide_eq_true h)
        · exact .inr ⟨decide_eq_false h, decide_eq_true (by omega)⟩
      clear hsz HFF HEr HFR HRt HBy HSm0
      rcases hsd with e1 | ⟨e1, e2⟩
      all_goals
        go_wp2_with (first | (go_at_call 39; fail) | (refine wpList_store_row_w rfl 71 (.tmp 7) (.tmp 23) rfl w2.heap.size rfl _ _ f1 rfl (heap_alloc_new w2 _) HFf1.out (by rw [Hfz1.out]; rfl) Hf11.out ?_; rw [World.setRow_alloc_new]) | (refine wpList_load_row_w rfl 71 (.tmp 7) rfl w2.heap.size rfl _ f1 _ _ Bf.out Try.underlying71 rfl HFf1.out ?_))
        refine (HSm.out _ R1.out (Row.none_ _ _ _)).mono ?_
        rintro e w3 ⟨rfl, hb3⟩
        go_wp2_with (go_at_call 34; refine (awake12_any _).mono ?_; rintro e w4 ⟨rfl, hb4⟩)
        go_ret
        exact ⟨rfl, btail BB.out (Nat.le_refl _) (bnext hb3 hb4)⟩
    have s1 : decide (size < 24) = false := decide_eq_false (by omega)
    have s2 : decide (96 < size) = false := decide_eq_false (by omega)
    by_cases hok : SL = true ∧ GO = true
    · obtain ⟨rfl, rfl⟩ := hok
      have he : er = 0 := by rw [HEr.out, if_neg hsz]; rfl
      subst he
      obtain ⟨sz, hszn⟩ : ∃ sz : Nat, size = sz := Int.eq_ofNat_of_zero_le (by omega)
      subst hszn
      have HRs := Lib.hid (HRt.out rfl)
      have HBz := Lib.hid (HBy.out rfl sz rfl)
      have hw8 : IntKind.i64.wrap (8 * (sz : Int)) = 8 * (sz : Int) := IntWalk.i64_in _ (by omega)
      have HFG := Lib.hid (show F = if 55 ≤ (sz : Int) then X else S from by rw [HFF.out]; exact if_pos rfl)
      clear hsz HEr HFR HRt HBy HFF
      go_wp2_with (first | (go_at_call 40; fail) | (refine wpList_store_row_w rfl 71 (.tmp 7) (.tmp 23) rfl w2.heap.size rfl _ _ f1 rfl (heap_alloc_new w2 _) HFf1.out (by rw [Hfz1.out]; rfl) Hf11.out ?_; rw [World.setRow_alloc_new]) | (refine wpList_load_row_w rfl 66 (.tmp 3) rfl w.heap.size rfl _ bv _ _ B0.out Try.underlying66 rfl HFb.out ?_))
      refine (G2.out _).mono ?_
      rintro e w3 ⟨rfl, hb3⟩
      have B03 := Lib.hid (hkeep B0.out hb3)
      have B13 := Lib.hid (hkeep B1.out hb3)
      have Bf3 := Lib.hid (hkeep Bf.out hb3)
      have C3 := Lib.hid (btail C.out (Nat.le_refl _) hb3)
      have R13 := Lib.hid (R1.out.later hb3)
      have BB3 := Lib.hid (btail BB.out (Nat.le_refl _) hb3)
      have z3 := Nat.le_trans z hb3.size
      clear hb3 B0 B1 Bf R1 BB
      go_wp2_with (first | (go_at_call 41; fail) | (refine wpList_load_row_w rfl 67 (.tmp 4) rfl (w.heap.size + 1) rfl _ gv _ _ B13.out Try.underlying67 rfl HFg.out ?_))
      refine (H3.out _).mono ?_
      rintro e w4 ⟨rfl, hb4⟩
      have B04 := Lib.hid (hkeep B03.out hb4)
      have B14 := Lib.hid (hkeep B13.out hb4)
      have Bf4 := Lib.hid (hkeep Bf3.out hb4)
      have C4 := Lib.hid (btail C3.out (Nat.le_refl _) hb4)
      have R14 := Lib.hid (R13.out.later hb4)
      have BB4 := Lib.hid (btail BB3.out (Nat.le_refl _) hb4)
      have z4 := Nat.le_trans z3 hb4.size
      clear hb4 B03 B13 Bf3 R13 BB3
      go_wp2_with (first | (go_at_call 58; fail) | (refine wpList_load_row_w rfl 66 (.tmp 3) rfl w.heap.size rfl _ bv _ _ B04.out Try.underlying66 rfl HFb.out ?_))
      refine (G4.out _).mono ?_
      rintro e w5 ⟨rfl, hb5⟩
      have Hxz := Lib.hid (frameA_size HXl.out (.slice none 0 0))
      have Hx1 := Lib.hid (frameA_one X (tv := .slice none 0 0) rfl)
      obtain ⟨fx, hfx⟩ : ∃ fx, frameA X (.slice none 0 0) = fx := ⟨_, rfl⟩
      rw [hfx] at Hxz Hx1 ⊢
      have HXe := Lib.hid hfx
      have HFfx := Lib.hid (show (Try.prog.info? 71).map (·.size) = some fx.size by rw [Hxz.out]; exact inf_frame)
      have zf := Nat.lt_of_lt_of_le (hlt Bf4.out) hb5.size
      have zw := Nat.le_trans z4 hb5.size
      have hb6 := bnext hb5 (bnew w5 (.cells fx 71))
      have B05 := Lib.hid (hkeep B04.out hb6)
      have B15 := Lib.hid (hkeep B14.out hb6)
      have Bf5 := Lib.hid (hkeep Bf4.out hb6)
      have C5 := Lib.hid (btail C4.out (Nat.le_refl _) hb6)
      have R15 := Lib.hid (R14.out.later hb6)
      have BB5 := Lib.hid (btail BB4.out (Nat.le_refl _) hb6)
      have z5 := Nat.le_trans z4 hb6.size
      have N5 := Lib.hid (heap_alloc_new w5 (.cells fx 71))
      clear hb5 hb6 hfx B04 B14 Bf4 R14 BB4
      by_cases h55 : 55 ≤ (sz : Int)
      · have hF : F = X := by rw [HFG.out, if_pos h55]
        have t55 : ¬ ((sz : Int) < 55) := by omega
        subst hF
        have g9e := True.intro
        have N9 := N5
        have R9 := Lib.hid (show Row (w5.alloc (.cells fx 71)) (w5.alloc (.cells fx 71)).heap.size none (toneCells F.tones) by rw [HXt.out]; exact Row.none_ _ _ _)
        have HSm := Lib.hid (show ∀ W, Row W W.heap.size A1 (toneCells F.tones) → Row W W.heap.size none (toneCells F.tones) → Calls Try.prog 39 #[.agg f1, .agg fx] W fun e w' => e = .returned (.bool true) ∧ Below W.heap.size W w' from fun W r1 r2 => by
          have := HSm0.out none 0 W r1 r2
          rw [show F.tones.length = 0 by rw [HXt.out]; rfl, HXe.out] at this
          exact this)
        clear HSm0 HFG h55
        go_wp2_with (first | (go_at_call 59; fail) | (refine wpList_store_row_w rfl 71 (.tmp 9) (.tmp 61) rfl w5.heap.size rfl _ _ fx rfl (heap_alloc_new w5 _) HFfx.out (by rw [Hxz.out]; rfl) Hx1.out ?_; rw [World.setRow_alloc_new]) | (refine wpList_load_row_w rfl 71 (.tmp 7) rfl w2.heap.size rfl _ f1 _ _ Bf5.out Try.underlying71 rfl HFf1.out ?_))
        refine (HBz.out _ R15.out).mono ?_
        rintro e wb ⟨gb, rfl, _, _, hbb⟩
        have B7 := Lib.hid (hkeep Bf5.out hbb)
        have B9 := Lib.hid (hkeep N9.out hbb)
        have R1b := Lib.hid (R15.out.later hbb)
        have R9b := Lib.hid (R9.out.later hbb)
        have BBb := Lib.hid (btail BB5.out (Nat.le_refl _) hbb)
        clear hbb
        go_wp2_with (first | (go_at_call 39; fail) | (refine wpList_load_row_w rfl 71 (.tmp 7) rfl w2.heap.size rfl _ f1 _ _ B7.out Try.underlying71 rfl HFf1.out ?_) | (refine wpList_load_row_w rfl 71 (.tmp 9) rfl w5.heap.size rfl _ fx _ _ B9.out Try.underlying71 rfl HFfx.out ?_))
        refine (HSm.out _ R1b.out R9b.out).mono ?_
        rintro e wc ⟨rfl, hbc⟩
        have B7c := Lib.hid (hkeep B7.out hbc)
        have R1c := Lib.hid (R1b.out.later hbc)
        have BBc := Lib.hid (btail BBb.out (Nat.le_refl _) hbc)
        clear hbc
        go_wp2_with (first | (go_at_call 60; fail) | (refine wpList_load_row_w rfl 71 (.tmp 7) rfl w2.heap.size rfl _ f1 _ _ B7c.out Try.underlying71 rfl HFf1.out ?_))
        refine (HRs.out _ R1c.out).mono ?_
        rintro e wd ⟨rfl, hbd⟩
        have BBd := Lib.hid (btail BBc.out (Nat.le_refl _) hbd)
        clear hbd
        go_wp2_with (go_at_call 34; refine (awake12_any _).mono ?_; rintro e we ⟨rfl, hbe⟩)
        go_ret
        exact ⟨rfl, btail BBd.out (Nat.le_refl _) hbe⟩
      · have hF : F = S := by rw [HFG.out, if_neg h55]
        have t55 : (sz : Int) < 55 := by omega
        subst hF
        clear HFG h55
        go_wp2_with (first | (go_at_call 36; fail) | (refine wpList_store_row_w rfl 71 (.tmp 9) (.tmp 61) rfl w5.heap.size rfl _ _ fx rfl (heap_alloc_new w5 _) HFfx.out (by rw [Hxz.out]; rfl) Hx1.out ?_; rw [World.setRow_alloc_new]) | (refine wpList_load_row_w rfl 66 (.tmp 3) rfl w.heap.size rfl _ bv _ _ B05.out Try.underlying66 rfl HFb.out ?_) | (refine wpList_load_row_w rfl 67 (.tmp 4) rfl (w.heap.size + 1) rfl _ gv _ _ B15.out Try.underlying67 rfl HFg.out ?_))
        refine (G5.out _).mono ?_
        rintro e w6 ⟨A6, c6, rfl, _, _, hfr6, _, hrow6, hb6⟩
        simp only at hfr6 hrow6 ⊢
        have Hyz := Lib.hid (frameA_size HSl.out (.slice A6 F.tones.length c6))
        have Hy1 := Lib.hid (frameA_one F (tv := .slice A6 F.tones.length c6) rfl)
        have HSm := Lib.hid (HSm0.out A6 c6)
        obtain ⟨fy, hfy⟩ : ∃ fy, frameA F (.slice A6 F.tones.length c6) = fy := ⟨_, rfl⟩
        rw [hfy] at Hyz Hy1 HSm ⊢
        have HFfy := Lib.hid (show (Try.prog.info? 71).map (·.size) = some fy.size by rw [Hyz.out]; exact inf_frame)
        have hb7 := bnext hb6 (bnew w6 (.cells fy 71))
        have B06 := Lib.hid (hkeep B05.out hb7)
        have B16 := Lib.hid (hkeep B15.out hb7)
        have Bf6 := Lib.hid (hkeep Bf5.out hb7)
        have C6 := Lib.hid (btail C5.out (Nat.le_refl _) hb7)
        have R16 := Lib.hid (R15.out.later hb7)
        have BB6 := Lib.hid (btail BB5.out (Nat.le_refl _) hb7)
        have z6 := Nat.le_trans z5 hb7.size
        have N6 := Lib.hid (heap_alloc_new w6 (.cells fy 71))
        have N56 := Lib.hid (hkeep N5.out hb7)
        have R6 := Lib.hid (hrow6.later (bnew w6 (.cells fy 71)))
        have z56 := hlt N5.out
        have hz7 := hb7.size
        have Hfr6 := Lib.hid hfr6
        clear hb6 hb7 hfy hrow6 hfr6 HSm0 B05 B15 Bf5 R15 BB5 N5
        obtain ⟨WY, hWY⟩ : ∃ WY, (w6.alloc (.cells fy 71)).setRow w5.heap.size fy = WY := ⟨_, rfl⟩
        have N9 := Lib.hid (show WY.heap[w5.heap.size]? = some (.cells fy 71 (0, 0)) by rw [← hWY]; exact setRow_at _ _ _ _ fy N56.out)
        have Bf7 := Lib.hid (show WY.heap[w2.heap.size]? = some (.cells f1 71 (0, 0)) by rw [← hWY]; exact (setRow_other _ _ _ fy (by omega)).trans Bf6.out)
        have BB7 := Lib.hid (show Below w.heap.size w WY by rw [← hWY]; exact setRow_below BB6.out _ (by omega) _)
        have R9 := Lib.hid (show Row WY WY.heap.size A6 (toneCells F.tones) by rw [← hWY]; exact row_setRow Hfr6.out z56 fy R6.out)
        have R17 := Lib.hid (show Row WY WY.heap.size A1 (toneCells F.tones) by rw [← hWY]; exact HRow1.out.later (setRow_below C6.out _ (by omega) _))
        go_wp2_with (first | (refine wpList_store_row_w rfl 71 (.tmp 10) (.tmp 70) rfl w6.heap.size rfl _ _ fy rfl (heap_alloc_new w6 _) HFfy.out (by rw [Hyz.out]; rfl) Hy1.out ?_; rw [World.setRow_alloc_new]) | (refine wpList_load_row_w rfl 71 (.tmp 10) rfl w6.heap.size rfl _ fy _ _ N6.out Try.underlying71 rfl HFfy.out ?_) | (refine wpList_store_row_w rfl 71 (.tmp 9) (.tmp 72) rfl w5.heap.size rfl _ _ fy rfl N56.out HFfy.out (by rw [Hyz.out, ← Hxz.out]) Hy1.out ?_; rw [hWY]) | (go_at_call 59; fail) | (refine wpList_load_row_w rfl 71 (.tmp 7) rfl w2.heap.size rfl _ f1 _ _ Bf7.out Try.underlying71 rfl HFf1.out ?_))
        refine (HBz.out _ R17.out).mono ?_
        rintro e wb ⟨gb, rfl, _, _, hbb⟩
        have B7 := Lib.hid (hkeep Bf7.out hbb)
        have B9 := Lib.hid (hkeep N9.out hbb)
        have R1b := Lib.hid (R17.out.later hbb)
        have R9b := Lib.hid (R9.out.later hbb)
        have BBb := Lib.hid (btail BB7.out (Nat.le_refl _) hbb)
        clear hbb
        go_wp2_with (first | (go_at_call 39; fail) | (refine wpList_load_row_w rfl 71 (.tmp 7) rfl w2.heap.size rfl _ f1 _ _ B7.out Try.underlying71 rfl HFf1.out ?_) | (refine wpList_load_row_w rfl 71 (.tmp 9) rfl w5.heap.size rfl _ fy _ _ B9.out Try.underlying71 rfl HFfy.out ?_))
        refine (HSm.out _ R1b.out R9b.out).mono ?_
        rintro e wc ⟨rfl, hbc⟩
        have B7c := Lib.hid (hkeep B7.out hbc)
        have R1c := Lib.hid (R1b.out.later hbc)
        have BBc := Lib.hid (btail BBb.out (Nat.le_refl _) hbc)
        clear hbc
        go_wp2_with (first | (go_at_call 60; fail) | (refine wpList_load_row_w rfl 71 (.tmp 7) rfl w2.heap.size rfl _ f1 _ _ B7c.out Try.underlying71 rfl HFf1.out ?_))
        refine (HRs.out _ R1c.out).mono ?_
        rintro e wd ⟨rfl, hbd⟩
        have BBd := Lib.hid (btail BBc.out (Nat.le_refl _) hbd)
        clear hbd
        go_wp2_with (go_at_call 34; refine (awake12_any _).mono ?_; rintro e we ⟨rfl, hbe⟩)
        go_ret
        exact ⟨rfl, btail BBd.out (Nat.le_refl _) hbe⟩
    · have he : er = 5 := by rw [HEr.out, if_neg hsz, if_neg (by rw [Bool.and_eq_true]; exact hok)]
      have hF : F = zeroFr := by rw [HFF.out, he]; rfl
      subst he hF
      have HSm := Lib.hid (show ∀ W, Row W W.heap.size A1 (toneCells zeroFr.tones) → Row W W.heap.size none (toneCells zeroFr.tones) → Calls Try.prog 39 #[.agg f1, .agg zeroF] W fun e w' => e = .returned (.bool true) ∧ Below W.heap.size W w' from HSm0.out none 0)
      clear hsz HFF HEr HFR HRt HBy HSm0
      go_wp2_with (first | (go_at_call 40; fail) | (refine wpList_store_row_w rfl 71 (.tmp 7) (.tmp 23) rfl w2.heap.size rfl _ _ f1 rfl (heap_alloc_new w2 _) HFf1.out (by rw [Hfz1.out]; rfl) Hf11.out ?_; rw [World.setRow_alloc_new]) | (refine wpList_load_row_w rfl 66 (.tmp 3) rfl w.heap.size rfl _ bv _ _ B0.out Try.underlying66 rfl HFb.out ?_))
      refine (G2.out _).mono ?_
      rintro e w3 ⟨rfl, hb3⟩
      have B13 := Lib.hid (hkeep B1.out hb3)
      have Bf3 := Lib.hid (hkeep Bf.out hb3)
      have R13 := Lib.hid (R1.out.later hb3)
      have BB3 := Lib.hid (btail BB.out (Nat.le_refl _) hb3)
      clear hb3 B0 B1 Bf R1 BB
      cases SL
      · go_wp2_with (first | (go_at_call 39; fail) | (refine wpList_load_row_w rfl 71 (.tmp 7) rfl w2.heap.size rfl _ f1 _ _ Bf3.out Try.underlying71 rfl HFf1.out ?_))
        refine (HSm.out _ R13.out (Row.none_ _ _ _)).mono ?_
        rintro e w4 ⟨rfl, hb4⟩
        go_wp2_with (go_at_call 34; refine (awake12_any _).mono ?_; rintro e w5 ⟨rfl, hb5⟩)
        go_ret
        exact ⟨rfl, btail BB3.out (Nat.le_refl _) (bnext hb4 hb5)⟩
      · cases GO
        · go_wp2_with (first | (go_at_call 41; fail) | (refine wpList_load_row_w rfl 67 (.tmp 4) rfl (w.heap.size + 1) rfl _ gv _ _ B13.out Try.underlying67 rfl HFg.out ?_))
          refine (H3.out _).mono ?_
          rintro e w4 ⟨rfl, hb4⟩
          have Bf4 := Lib.hid (hkeep Bf3.out hb4)
          have R14 := Lib.hid (R13.out.later hb4)
          have BB4 := Lib.hid (btail BB3.out (Nat.le_refl _) hb4)
          clear hb4
          go_wp2_with (first | (go_at_call 39; fail) | (refine wpList_load_row_w rfl 71 (.tmp 7) rfl w2.heap.size rfl _ f1 _ _ Bf4.out Try.underlying71 rfl HFf1.out ?_))
          refine (HSm.out _ R14.out (Row.none_ _ _ _)).mono ?_
          rintro e w5 ⟨rfl, hb5⟩
          go_wp2_with (go_at_call 34; refine (awake12_any _).mono ?_; rintro e w6 ⟨rfl, hb6⟩)
          go_ret
          exact ⟨rfl, btail BB4.out (Nat.le_refl _) (bnext hb5 hb6)⟩
        · exact absurd ⟨rfl, rfl⟩ hok
theorem FitFrames_law (W : World) (v0 v1 v2 : Value) (a0 : Arg W (tyRep (.int .i64) 1 16) v0) (a1 : Arg W (tyRep (.int .i64) 1 4) v1) (a2 : Arg W (.int .i64) v2) :
    Calls Try.prog 9 #[v0, v1, v2] W fun e w' => e = .returned (.bool true) ∧ Below W.heap.size W w' := by
  obtain ⟨b, hb, rfl, _⟩ := arr_arg a0
  obtain ⟨g, hg, rfl, _⟩ := arr_arg a1
  obtain ⟨size, ha, _, _⟩ := a2
  obtain rfl : v2 = .int .i64 size := by simpa using ha
  exact FitFrames_walk b g size W hb hg
end Go.Proofs.Ytibegmjkiceiiaa
