/- LawBB. Conditions: as each theorem states. -/
import Derived.Test.YtgcfkblmnpnogaaGreatDoorPg44
import Derived.Test.YtgcfkblmnpnogaaGreatDoorPgxBldArg
import Derived.Test.YtgcfkblmnpnogaaGreatDoorPgxLawBP

namespace Go.Proofs.YtgcfkblmnpnogaaGreatDoor
open Go.RowKit Go.Lib

theorem goodL_of {x : MetaV} (h : x.right = true) : GoodL x := by
  obtain ⟨l1, l2, l3, l4, l5⟩ := right_bds h
  exact ⟨by omega, by omega, by omega, by omega, by omega, name_size (right_name h)⟩
theorem share3 {Goal : Prop} {P : Nat → Nat → World → Prop} (G : Nat → Nat → World → Prop) (h2 : (∀ a b c, P a b c → G a b c) → Goal) (h1 : ∀ a b c, P a b c → G a b c) : Goal := h2 h1
set_option maxRecDepth 100000 in
set_option maxHeartbeats 16000000 in
theorem BankBuilds_walk (size : Int) (D : List MetaV) (A : Option Addr) (capD : Nat) (FR : List (List Nat)) (Af : Option Addr) (capF : Nat) (w : World) (hfc : FR.length ≤ capF) (hcm : capF ≤ 9223372036854775807)
    (hr : Row w w.heap.size A (metaCells D)) (h64 : ∀ x ∈ D, M64 x) (hf : BRows w w.heap.size Af FR) (hbt : ∀ f ∈ FR, Byt f) :
    Calls Tryz.prog 3 #[.int .i64 size, .slice A D.length capD, .slice Af FR.length capF] w fun e w' => e = .returned (.bool true) ∧ Below w.heap.size w w' := by
  have HAw := Lib.hid (fun W => awake15_any W)
  by_cases hbig : 8 < D.length ∨ 100 < FR.length
  · generalize D.length = nD at *
    generalize FR.length = nf at *
    clear hr hf hbt h64
    by_cases h8 : 8 < nD
    · have t1 : (8 : Int) < (nD : Int) := by omega
      go_enter Tryz.func3, Tryz.ntmps3
      go_wp2_with (go_at_call 15; refine (HAw.out _).mono ?_; rintro e w9 ⟨rfl, hb9⟩)
      go_ret
      exact ⟨rfl, hb9⟩
    · have t1 : ¬ (8 : Int) < (nD : Int) := by omega
      have t2 : (100 : Int) < (nf : Int) := by omega
      go_enter Tryz.func3, Tryz.ntmps3
      go_wp2_with (go_at_call 15; refine (HAw.out _).mono ?_; rintro e w9 ⟨rfl, hb9⟩)
      go_ret
      exact ⟨rfl, hb9⟩
  obtain ⟨vs, hvl, hvr, hvf⟩ := hf.at_
  have hd8 : D.length ≤ 8 := by omega
  have hf100 : FR.length ≤ 100 := by omega
  have HOk0 := Lib.hid (fun x h => bldOk_zero (D := D) (x := x) h)
  have HOkS := Lib.hid (fun m x y h k => bldOk_succ (D := D) (m := m) (x := x) (y := y) h k)
  have HOkL := Lib.hid (fun (m : Nat) (h : bldOk D m = false) => bldOk_le h (m + 1) (Nat.le_succ m))
  have HkS := Lib.hid (fun (m : Nat) x h => kOf_succ (D := D) (m := m) (x := x) h)
  have HLnS := Lib.hid (fun (m : Nat) f h => lensOk_succ (size := size) (FR := FR) (m := m) (f := f) h)
  have HL0 := Lib.hid (show lensOk size FR 0 = true from rfl)
  have HBd := Lib.hid (fun (sz : Nat) W (h1 : 24 ≤ sz) (h2 : sz ≤ 96) (hW : Below w.heap.size w W) => Build_any sz D A capD FR Af capF W h1 h2 (by omega) (hr.later hW) (by
    obtain ⟨vs', q1, q2, q3⟩ := hf.at_
    refine ⟨vs', q1, q2.later hW, fun j v f hv hf' => ?_⟩
    obtain ⟨a, c, r1, r2, r3, r4⟩ := q3 j v f hv hf'
    exact ⟨a, c, r1, r2, r3, r4.later hW⟩) (by omega) hfc hcm hbt)
  unfold BuildP at HBd
  have HCok := Lib.hid (fun (sz : Nat) (h : CanB sz D FR) => (show bldOk D D.length = true ∧ kOf D D.length = FR.length ∧ lensOk sz FR FR.length = true from ⟨bldOk_of h.right h.asc _, h.cnt, lensOk_of h.len _⟩))
  have HIm := Lib.hid (fun (sz : Nat) (h : CanB sz D FR) W (hW : Below w.heap.size w W) => (show Calls Tryz.prog 20 #[.int .i64 sz, .slice A D.length capD, .slice Af FR.length capF] W (BytP W (bldZ sz D FR)) from by
    have := limage_any sz D A capD FR Af capF W h.lo h.hi h.many (fun x hx => goodL_of (h.right x hx)) (hr.later hW) (by
      obtain ⟨vs', q1, q2, q3⟩ := hf.at_
      refine ⟨vs', q1, q2.later hW, fun j v f hv hf' => ?_⟩
      obtain ⟨a, c, r1, r2, r3, r4⟩ := q3 j v f hv hf'
      exact ⟨a, c, r1, r2, r3, r4.later hW⟩) (by omega) h.len (by have := (h.bd D.length (Nat.le_refl _)).2; omega)
    rw [show lawZ sz (mixTo sz D D.length) FR (upZ (atTo sz D D.length) 64).toNat = bldZ sz D FR from h.law_eq] at this
    exact this))
  have Hr := Lib.hid hr
  have H64 := Lib.hid h64
  have HVr := Lib.hid hvr
  have HVf := Lib.hid hvf
  obtain ⟨nD, hnD⟩ : ∃ n, D.length = n := ⟨_, rfl⟩
  obtain ⟨nf, hnf⟩ : ∃ n, FR.length = n := ⟨_, rfl⟩
  have Hvl := Lib.hid hvl
  rw [hnD] at hd8 HBd HCok HIm ⊢
  rw [hnf] at hf100 hfc Hvl HBd HCok HIm ⊢
  have HnD := Lib.hid hnD
  have Hnf := Lib.hid hnf
  have s1 : ¬ (8 : Int) < (nD : Int) := by omega
  have s2 : ¬ (100 : Int) < (nf : Int) := by omega
  clear hr h64 hf hvl hvr hvf hbt hnD hnf hbig
  go_enter Tryz.func3, Tryz.ntmps3
  go_wp2_with fail
  go_loopw [7, 8, 9] (fun wv rv i wr => ∃ (m V : Nat), m ≤ nD ∧ i = .int .i64 m ∧ wv = .int .i64 V ∧ V ≤ 131072 * m ∧ rv = .bool (bldOk D m) ∧ (bldOk D m = true → V = kOf D m) ∧ Below w.heap.size w wr) (fun _ _ i _ => nD - (intOf i).toNat)
  case atStart => exact ⟨0, 0, by omega, rfl, rfl, by omega, rfl, fun _ => rfl, Below.refl _ _⟩
  case round =>
    obtain ⟨m, V, hm, rfl, rfl, hV, rfl, hVk, hbel⟩ := hrel
    have Hbel := Lib.hid hbel
    clear hbel
    by_cases hlt : m < nD
    · have t1 : (m : Int) < (nD : Int) := by omega
      have t2 : (0 : Int) ≤ (m : Int) := by omega
      obtain ⟨x, hx⟩ := list_get (k := m) HnD.out hlt
      have hb64 := H64.out x (List.mem_of_getElem? hx)
      obtain ⟨b, off, rfl, hbl, hcl⟩ := meta_at (Hr.out.later Hbel.out) hx
      have Hx := Lib.hid hx
      have HkS1 := Lib.hid (HkS.out m x hx)
      obtain ⟨rb, hrb⟩ : ∃ rb, x.right = rb := ⟨_, rfl⟩
      have HG1 := Lib.hid (fun (h : x.right = true) => genM_right h)
      have HFr := Lib.hid (fun W (h : x.right = true) => bankFrames_any x W (by have := (genM_right h).len; omega) (by have := (genM_right h).ch; omega))
      have HXz := Lib.hid (fun (z : GW wr) j v (hv : x.cells[j]? = some v) => (z.2.cell (p := ⟨b, off + m * 9 + j, none⟩) hbl).trans (hcl j v hv))
      have HFl := Lib.hid (show (Tryz.prog.info? 27).map (·.size) = some x.cells.length from (show (Tryz.prog.info? 27).map (·.size) = some 9 by kernel_rfl))
      have HP := Lib.hid (fun (r : Nat) (pv : MetaV) (h : D[r]? = some pv) => (show ∀ (z : GW wr), z.1.cell? ⟨b, off + r * 9, none⟩ = some (.string pv.name) from by
        obtain ⟨b', off', hA', _, hcl'⟩ := meta_at (Hr.out.later Hbel.out) h
        injection hA' with hA'
        injection hA' with e1 e2
        subst e1 e2
        intro z
        have := (z.2.cell (p := ⟨b, off + r * 9 + 0, none⟩) hbl).trans (hcl' 0 _ rfl)
        rwa [Nat.add_zero] at this))
      obtain ⟨nm, len, rate, ch, lp, f, t, sums, first⟩ := x
      obtain ⟨hb1, hb2, _⟩ := hb64
      simp only at hb1 hb2
      have HRm := Lib.hid (fun W => RightMeta_any nm len rate ch lp f t sums first W)
      rw [hrb] at HRm
      have Hrb := Lib.hid hrb
      have xn : ∀ (z : GW wr), z.1.cell? ⟨b, off + m * 9, none⟩ = some (.string nm) := HP.out m _ hx
      go_wp2_with fail
      obtain ⟨ok, hok⟩ : ∃ ok, bldOk D m = ok := ⟨_, rfl⟩
      rw [hok] at hVk ⊢
      clear hcl hx hrb
      cases ok with
      | false =>
        have Hgd := Lib.hid (HOkL.out m hok)
        clear hVk
        refine wp_region_calm (by kernel_rfl) (by kernel_rfl) ?_
        repeat (first | (go_big_quiet_want; refine quiet_load_part 27 (.tmp 41) rfl b (off + m * 9) rfl (MetaV.cells ⟨nm, len, rate, ch, lp, f, t, sums, first⟩) _ (by rintro _ ⟨z, rfl⟩; exact HXz.out z) Tryz.underlying27 rfl HFl.out ?_; go_simp; go_big_quiet_on) | go_big_quiet_step ((go_at_call 16; exact calm_call (HRm.out _))))
        refine wpQuiet_nil ?_
        intro w6 hw'
        have B6 := Lib.hid (gw_below hw')
        clear hw' xn
        have E6 := Lib.hid (bnext Hbel.out B6.out)
        have HX6 := Lib.hid (fun j v (hv : (MetaV.cells ⟨nm, len, rate, ch, lp, f, t, sums, first⟩)[j]? = some v) => HXz.out ⟨w6, B6.out⟩ j v hv)
        have k1 := HX6.out 1 _ rfl
        have k3 := HX6.out 3 _ rfl
        by_cases g1 : (300 : Int) < len
        · go_wp2_with (go_at_call 15; refine (HAw.out _).mono ?_; rintro e w9 ⟨rfl, hb9⟩)
          go_ret
          exact ⟨rfl, bnext E6.out hb9⟩
        by_cases g2 : (2 : Int) < ch
        · go_wp2_with (go_at_call 15; refine (HAw.out _).mono ?_; rintro e w9 ⟨rfl, hb9⟩)
          go_ret
          exact ⟨rfl, bnext E6.out hb9⟩
        go_wp2
        go_roundw
        case rel => exact ⟨m + 1, V, by omega, by go_num, rfl, by omega, by rw [Hgd.out], fun h => (by rw [Hgd.out] at h; cases h), E6.out⟩
        case measure => first | (simp [intOf]; done) | (simp [intOf]; omega)
      | true =>
        have HVe := Lib.hid (hVk rfl)
        clear hVk
        cases rb with
        | false =>
          have Hgd := Lib.hid (show bldOk D (m + 1) = false from by
            cases m with
            | zero => rw [HOk0.out _ Hx.out, Hrb.out]
            | succ r =>
              obtain ⟨y, hy⟩ := list_get (k := r) HnD.out (by omega)
              rw [HOkS.out r _ y Hx.out hy, Hrb.out]
              simp)
          refine wp_region_calm (by kernel_rfl) (by kernel_rfl) ?_
          repeat (first | (go_big_quiet_want; refine quiet_load_part 27 (.tmp 41) rfl b (off + m * 9) rfl (MetaV.cells ⟨nm, len, rate, ch, lp, f, t, sums, first⟩) _ (by rintro _ ⟨z, rfl⟩; exact HXz.out z) Tryz.underlying27 rfl HFl.out ?_; go_simp; go_big_quiet_on) | go_big_quiet_step ((go_at_call 16; exact calm_call (HRm.out _))))
          refine wpQuiet_nil ?_
          intro w6 hw'
          have B6 := Lib.hid (gw_below hw')
          clear hw' xn
          have E6 := Lib.hid (bnext Hbel.out B6.out)
          have HX6 := Lib.hid (fun j v (hv : (MetaV.cells ⟨nm, len, rate, ch, lp, f, t, sums, first⟩)[j]? = some v) => HXz.out ⟨w6, B6.out⟩ j v hv)
          have k1 := HX6.out 1 _ rfl
          have k3 := HX6.out 3 _ rfl
          by_cases g1 : (300 : Int) < len
          · go_wp2_with (go_at_call 15; refine (HAw.out _).mono ?_; rintro e w9 ⟨rfl, hb9⟩)
            go_ret
            exact ⟨rfl, bnext E6.out hb9⟩
          by_cases g2 : (2 : Int) < ch
          · go_wp2_with (go_at_call 15; refine (HAw.out _).mono ?_; rintro e w9 ⟨rfl, hb9⟩)
            go_ret
            exact ⟨rfl, bnext E6.out hb9⟩
          go_wp2
          go_roundw
          case rel => exact ⟨m + 1, V, by omega, by go_num, rfl, by omega, by rw [Hgd.out], fun h => (by rw [Hgd.out] at h; cases h), E6.out⟩
          case measure => first | (simp [intOf]; done) | (simp [intOf]; omega)
        | true =>
          by_cases hm0 : m = 0
          · have Hgd := Lib.hid (show bldOk D (m + 1) = true by
              subst hm0
              rw [HOk0.out _ Hx.out, Hrb.out])
            have v1 : ((m : Int) == 0) = true := by simp [hm0]
            clear hm0
            refine wp_region_calm (by kernel_rfl) (by kernel_rfl) ?_
            repeat (first | (go_big_quiet_want; refine quiet_load_part 27 (.tmp 41) rfl b (off + m * 9) rfl (MetaV.cells ⟨nm, len, rate, ch, lp, f, t, sums, first⟩) _ (by rintro _ ⟨z, rfl⟩; exact HXz.out z) Tryz.underlying27 rfl HFl.out ?_; go_simp; go_big_quiet_on) | go_big_quiet_step ((go_at_call 16; exact calm_call (HRm.out _))))
            refine wpQuiet_nil ?_
            intro w6 hw'
            have B6 := Lib.hid (gw_below hw')
            clear hw' xn
            have E6 := Lib.hid (bnext Hbel.out B6.out)
            have HX6 := Lib.hid (fun j v (hv : (MetaV.cells ⟨nm, len, rate, ch, lp, f, t, sums, first⟩)[j]? = some v) => HXz.out ⟨w6, B6.out⟩ j v hv)
            have k1 := HX6.out 1 _ rfl
            have k3 := HX6.out 3 _ rfl
            by_cases g1 : (300 : Int) < len
            · go_wp2_with (go_at_call 15; refine (HAw.out _).mono ?_; rintro e w9 ⟨rfl, hb9⟩)
              go_ret
              exact ⟨rfl, bnext E6.out hb9⟩
            by_cases g2 : (2 : Int) < ch
            · go_wp2_with (go_at_call 15; refine (HAw.out _).mono ?_; rintro e w9 ⟨rfl, hb9⟩)
              go_ret
              exact ⟨rfl, bnext E6.out hb9⟩
            have hfr := (HG1.out Hrb.out).fr
            have HFr1 := Lib.hid (fun W => HFr.out W Hrb.out)
            obtain ⟨F, hF⟩ := Int.eq_ofNat_of_zero_le hfr.1
            rw [hF] at hfr HFr1
            have HkS2 := Lib.hid (show kOf D (m + 1) = V + F by rw [HkS1.out, hF, Int.toNat_natCast, HVe.out])
            clear hF
            go_wp2_with (first | (refine wpList_load_part_w rfl 27 (.tmp 82) rfl b (off + m * 9) rfl (MetaV.cells ⟨nm, len, rate, ch, lp, f, t, sums, first⟩) _ HX6.out Tryz.underlying27 rfl HFl.out ?_) | (go_at_call 17; fail))
            refine (HFr1.out _).mono ?_
            rintro e w7 ⟨rfl, hb7⟩
            have E7 := Lib.hid (bnext E6.out hb7)
            clear hb7 k1 k3
            go_wp2
            go_roundw
            case rel => exact ⟨m + 1, V + F, by omega, by go_num, congrArg (Value.int .i64) (by push_cast; rfl), by omega, by rw [Hgd.out], fun _ => HkS2.out.symm, E7.out⟩
            case measure => first | (simp [intOf]; done) | (simp [intOf]; omega)
          · have v1 : ((m : Int) == 0) = false := beq_eq_false_iff_ne.2 (by omega)
            obtain ⟨r, hrm⟩ : ∃ r, m = r + 1 := ⟨m - 1, by omega⟩
            have hmr : (m : Int) - 1 = (r : Int) := by omega
            have v3 : (r : Int) < (nD : Int) := by omega
            have v4 : (0 : Int) ≤ (r : Int) := by omega
            obtain ⟨pv, hpr⟩ := list_get (k := r) HnD.out (by omega)
            have xp := HP.out r pv hpr
            have hbl := bytesLess_nm pv.name nm
            have HOk1 := Lib.hid (show bldOk D (m + 1) = nameLt pv.name nm by
              have hok' := hok
              subst hrm
              rw [HOkS.out r _ pv Hx.out hpr, Hrb.out, hok']
              simp)
            clear hpr hm0 hrm
            obtain ⟨lb, hlb⟩ : ∃ lb, nameLt pv.name nm = lb := ⟨_, rfl⟩
            rw [hlb] at hbl HOk1
            have Hgd := HOk1
            clear hlb
            cases lb with
            | false =>
              refine wp_region_calm (by kernel_rfl) (by kernel_rfl) ?_
              repeat (first | (go_big_quiet_want; refine quiet_load_part 27 (.tmp 41) rfl b (off + m * 9) rfl (MetaV.cells ⟨nm, len, rate, ch, lp, f, t, sums, first⟩) _ (by rintro _ ⟨z, rfl⟩; exact HXz.out z) Tryz.underlying27 rfl HFl.out ?_; go_simp; go_big_quiet_on) | go_big_quiet_step ((go_at_call 16; exact calm_call (HRm.out _))))
              refine wpQuiet_nil ?_
              intro w6 hw'
              have B6 := Lib.hid (gw_below hw')
              clear hw' xn xp hbl v3 v4 hmr
              have E6 := Lib.hid (bnext Hbel.out B6.out)
              have HX6 := Lib.hid (fun j v (hv : (MetaV.cells ⟨nm, len, rate, ch, lp, f, t, sums, first⟩)[j]? = some v) => HXz.out ⟨w6, B6.out⟩ j v hv)
              have k1 := HX6.out 1 _ rfl
              have k3 := HX6.out 3 _ rfl
              by_cases g1 : (300 : Int) < len
              · go_wp2_with (go_at_call 15; refine (HAw.out _).mono ?_; rintro e w9 ⟨rfl, hb9⟩)
                go_ret
                exact ⟨rfl, bnext E6.out hb9⟩
              by_cases g2 : (2 : Int) < ch
              · go_wp2_with (go_at_call 15; refine (HAw.out _).mono ?_; rintro e w9 ⟨rfl, hb9⟩)
                go_ret
                exact ⟨rfl, bnext E6.out hb9⟩
              go_wp2
              go_roundw
              case rel => exact ⟨m + 1, V, by omega, by go_num, rfl, by omega, by rw [Hgd.out], fun h => (by rw [Hgd.out] at h; cases h), E6.out⟩
              case measure => first | (simp [intOf]; done) | (simp [intOf]; omega)
            | true =>
              refine wp_region_calm (by kernel_rfl) (by kernel_rfl) ?_
              repeat (first | (go_big_quiet_want; refine quiet_load_part 27 (.tmp 41) rfl b (off + m * 9) rfl (MetaV.cells ⟨nm, len, rate, ch, lp, f, t, sums, first⟩) _ (by rintro _ ⟨z, rfl⟩; exact HXz.out z) Tryz.underlying27 rfl HFl.out ?_; go_simp; go_big_quiet_on) | go_big_quiet_step ((go_at_call 16; exact calm_call (HRm.out _))))
              refine wpQuiet_nil ?_
              intro w6 hw'
              have B6 := Lib.hid (gw_below hw')
              clear hw' xn xp hbl v3 v4 hmr
              have E6 := Lib.hid (bnext Hbel.out B6.out)
              have HX6 := Lib.hid (fun j v (hv : (MetaV.cells ⟨nm, len, rate, ch, lp, f, t, sums, first⟩)[j]? = some v) => HXz.out ⟨w6, B6.out⟩ j v hv)
              have k1 := HX6.out 1 _ rfl
              have k3 := HX6.out 3 _ rfl
              by_cases g1 : (300 : Int) < len
              · go_wp2_with (go_at_call 15; refine (HAw.out _).mono ?_; rintro e w9 ⟨rfl, hb9⟩)
                go_ret
                exact ⟨rfl, bnext E6.out hb9⟩
              by_cases g2 : (2 : Int) < ch
              · go_wp2_with (go_at_call 15; refine (HAw.out _).mono ?_; rintro e w9 ⟨rfl, hb9⟩)
                go_ret
                exact ⟨rfl, bnext E6.out hb9⟩
              have hfr := (HG1.out Hrb.out).fr
              have HFr1 := Lib.hid (fun W => HFr.out W Hrb.out)
              obtain ⟨F, hF⟩ := Int.eq_ofNat_of_zero_le hfr.1
              rw [hF] at hfr HFr1
              have HkS2 := Lib.hid (show kOf D (m + 1) = V + F by rw [HkS1.out, hF, Int.toNat_natCast, HVe.out])
              clear hF
              go_wp2_with (first | (refine wpList_load_part_w rfl 27 (.tmp 82) rfl b (off + m * 9) rfl (MetaV.cells ⟨nm, len, rate, ch, lp, f, t, sums, first⟩) _ HX6.out Tryz.underlying27 rfl HFl.out ?_) | (go_at_call 17; fail))
              refine (HFr1.out _).mono ?_
              rintro e w7 ⟨rfl, hb7⟩
              have E7 := Lib.hid (bnext E6.out hb7)
              clear hb7 k1 k3
              go_wp2
              go_roundw
              case rel => exact ⟨m + 1, V + F, by omega, by go_num, congrArg (Value.int .i64) (by push_cast; rfl), by omega, by rw [Hgd.out], fun _ => HkS2.out.symm, E7.out⟩
              case measure => first | (simp [intOf]; done) | (simp [intOf]; omega)
    · have hmn : m = nD := by omega
      subst hmn
      have t1 : ¬ ((m : Int) < (m : Int)) := by omega
      obtain ⟨wb, rfl⟩ : ∃ wb, wb = wr := ⟨_, rfl⟩
      obtain ⟨rb, hrb⟩ : ∃ rb, bldOk D m = rb := ⟨_, rfl⟩
      rw [hrb] at hVk ⊢
      obtain ⟨sb, hsb⟩ : ∃ sb, ((V : Int) == (nf : Int)) = sb := ⟨_, rfl⟩
      have Hrb := Lib.hid hrb
      have Hsb := Lib.hid hsb
      have HVk := Lib.hid hVk
      clear hrb hVk
      go_wp2_with fail
      go_loopw [10, 11] (fun sv i wx => ∃ q : Nat, q ≤ nf ∧ i = .int .i64 q ∧ sv = .bool (sb && lensOk size FR q) ∧ Below w.heap.size w wx) (fun _ i _ => nf - (intOf i).toNat)
      case atStart => exact ⟨0, by omega, rfl, by rw [HL0.out, Bool.and_true], Hbel.out⟩
      case round =>
        obtain ⟨q, hq, rfl, rfl, hbel2⟩ := hrel
        have Hb2 := Lib.hid hbel2
        clear hbel2 hsb
        obtain ⟨cur, hcur⟩ : ∃ c, (sb && lensOk size FR q) = c := ⟨_, rfl⟩
        rw [hcur]
        have Hcur := Lib.hid hcur
        clear hcur
        by_cases hlq : q < nf
        · have t3 : (q : Int) < (nf : Int) := by omega
          have t4 : (0 : Int) ≤ (q : Int) := by omega
          obtain ⟨f, hf⟩ := list_get (k := q) Hnf.out hlq
          obtain ⟨v, hv⟩ := list_get (k := q) Hvl.out hlq
          obtain ⟨a, c, rfl, _, _, _⟩ := HVf.out q v f hv hf
          obtain ⟨bf, of_, rfl, hbf, hcf'⟩ := HVr.out q _ hv
          have c5 := (Hb2.out.cell (p := ⟨bf, of_ + q, none⟩) hbf).trans hcf'
          have hLs := HLnS.out q f hf
          obtain ⟨fl, hfl'⟩ : ∃ n, f.length = n := ⟨_, rfl⟩
          rw [hfl'] at c5 hLs
          obtain ⟨tb, htb⟩ : ∃ tb, ((fl : Int) == size) = tb := ⟨_, rfl⟩
          have HLs := Lib.hid (show (sb && lensOk size FR (q + 1)) = (cur && tb) by
            rw [hLs, ← Bool.and_assoc, Hcur.out, ← htb]
            rfl)
          clear hf hv hbf hcf' hfl' hLs
          cases cur with
          | false =>
            clear htb c5
            go_wp2
            go_roundw
            case rel => exact ⟨q + 1, by omega, by go_num, by rw [HLs.out]; rfl, Hb2.out⟩
            case measure => first | (simp [intOf]; done) | (simp [intOf]; omega)
          | true =>
            go_wp2
            go_roundw
            case rel => exact ⟨q + 1, by omega, by go_num, by rw [HLs.out]; rfl, Hb2.out⟩
            case measure => first | (simp [intOf]; done) | (simp [intOf]; omega)
        · have hqn : q = nf := by omega
          subst hqn
          have t3 : ¬ ((q : Int) < (q : Int)) := by omega
          by_cases hsz : size < 24 ∨ 96 < size
          · have HBs := Lib.hid (fun W => Build_size size A Af m capD q capF W hsz)
            clear HBd HIm HCok HkS HOk0 HOkS HOkL HLnS
            go_wp2_with (go_at_call 18; fail)
            refine (HBs.out _).mono ?_
            rintro e w2 ⟨rfl, rfl⟩
            by_cases h24 : size < 24
            · go_wp2_with (go_at_call 15; refine (HAw.out _).mono ?_; rintro e w9 ⟨rfl, hb9⟩)
              go_ret
              exact ⟨rfl, bnext Hb2.out hb9⟩
            · have h96 : 96 < size := by omega
              go_wp2_with (go_at_call 15; refine (HAw.out _).mono ?_; rintro e w9 ⟨rfl, hb9⟩)
              go_ret
              exact ⟨rfl, bnext Hb2.out hb9⟩
          obtain ⟨sz, rfl⟩ := Int.eq_ofNat_of_zero_le (show 0 ≤ size by omega)
          have z1 : 24 ≤ sz := by omega
          have z2 : sz ≤ 96 := by omega
          have z3 : ¬ (sz : Int) < 24 := by omega
          have z4 : ¬ (96 : Int) < (sz : Int) := by omega
          have HB := Lib.hid (HBd.out sz _ z1 z2 Hb2.out)
          clear hsz HBd HOk0 HOkS HOkL HLnS HkS HL0
          go_wp2_with (go_at_call 18; fail)
          refine HB.out.mono ?_
          rintro e w2 ⟨hb2, h | h | h⟩
          · obtain ⟨h1, rfl⟩ := h
            rw [Hrb.out] at h1
            subst h1
            go_wp2_with (go_at_call 15; refine (HAw.out _).mono ?_; rintro e w9 ⟨rfl, hb9⟩)
            go_ret
            exact ⟨rfl, bnext (bnext Hb2.out hb2) hb9⟩
          · obtain ⟨h1, h2, rfl⟩ := h
            rw [Hrb.out] at h1
            subst h1
            have hc : cur = false := by
              rw [← Hcur.out]
              have hv := HVk.out rfl
              rcases h2 with h2 | h2
              · have : sb = false := by rw [← Hsb.out, hv]; exact beq_eq_false_iff_ne.2 (by omega)
                rw [this]; rfl
              · rw [h2, Bool.and_false]
            subst hc
            go_wp2_with (go_at_call 15; refine (HAw.out _).mono ?_; rintro e w9 ⟨rfl, hb9⟩)
            go_ret
            exact ⟨rfl, bnext (bnext Hb2.out hb2) hb9⟩
          · obtain ⟨hC, g, rfl, hg, hy⟩ := h
            obtain ⟨o1, o2, o3⟩ := HCok.out sz hC
            rw [Hrb.out] at o1
            subst o1
            have hc : cur = true := by
              rw [← Hcur.out, o3, ← Hsb.out, HVk.out rfl, o2]
              simp
            subst hc
            have B2 := Lib.hid (bnext Hb2.out hb2)
            have HPa := Lib.hid (Parse_built hC g w2 hy)
            have Hy2 := Lib.hid hy
            have hlen := bldZ_len hC
            have hNb := hC.len_bd
            have HIm2 := Lib.hid (fun W hW => HIm.out sz hC W hW)
            have HFit := Lib.hid hC.fit
            have HAs := Lib.hid (fun (m n c ch cz : Nat) (y : MetaV) a1 a2 a3 a4 a5 => hC.asked (m := m) (n := n) (c := c) (ch := ch) (cz := cz) (y := y) a1 a2 a3 a4 a5)
            have HRt := Lib.hid (fun x (hx : x ∈ D) => hC.right x hx)
            have HcN := Lib.hid o2
            obtain ⟨PM, hPM⟩ : ∃ PM, bldDir sz D = PM := ⟨_, rfl⟩
            rw [hPM] at HPa HFit HAs
            have HK0 := Lib.hid (show kOf D 0 = 0 from rfl)
            have HKs := Lib.hid (fun m (h : m ≤ D.length) => kOf_mono D h)
            obtain ⟨Z, hZ⟩ : ∃ Z, bldZ sz D FR = Z := ⟨_, rfl⟩
            rw [hZ] at HPa Hy2 hlen HIm2 HFit HAs
            obtain ⟨N, hN⟩ : ∃ N, bldN sz D = N := ⟨_, rfl⟩
            rw [hN] at HPa hlen hNb ⊢
            have hNb2 : 20 ≤ N ∧ N ≤ 4000000 := by omega
            have Hlen := Lib.hid hlen
            unfold BytP at HIm2
            rw [hlen] at HIm2
            clear hC hPM hZ hN hNb hlen hy hg hb2 HB HIm HCok HVk o2 o3
            go_wp2_with (go_at_call 19; fail)
            refine HPa.out.mono ?_
            rintro e w3 ⟨g1, rfl, _, hB3, hb3⟩
            have B3 := Lib.hid (bnext B2.out hb3)
            have HB3 := Lib.hid hB3
            have Hy3 := Lib.hid (Hy2.out.below hb3 Hy2.out.lt)
            clear hb3 hB3 HPa
            go_wp2_with fail
            obtain ⟨S, hS⟩ : ∃ S, strOfNums (Z.map fun (x : Nat) => (x : Int)) = S := ⟨_, rfl⟩
            have HS := Lib.hid hS
            have CVb := Lib.hid (fun W (hW : Below w3.heap.size w3 W) => (show (convert 29 9 (.slice (some ⟨g, 0, none⟩) N N)).run Tryz.prog W = .ok (.string S) W from by
              rw [← HS.out]
              exact conv_row Hlen.out (bytes_at_row (Hy3.out.below hW Hy3.out.lt))))
            have cv0 := CVb.out w3.drew (below_drew1 w3)
            clear hS
            refine share3 (P := fun _ _ w6 => Below w3.heap.size w3 w6) ?G (fun KEY => ?main) ?rest
            case main =>
              refine wp_region_any (by kernel_rfl) ?_
              change wpAny _ _ _ _ _ _ _ (World.drew _)
              refine wpAny_take (i := 0) (v := ?_) rfl (by kernel_rfl) (by kernel_rfl) (by kernel_rfl) (fun _ _ _ h => h) (Or.inl ⟨by rfl, ?_⟩) ?_
              rotate_left
              · intro w; go_simp; try (with_reducible rfl)
              simp only [Act.put, List.getElem_toArray, List.getElem_cons_zero, List.setIfInBounds_toArray, List.set_cons_succ, List.set_cons_zero]
              refine wpAny_take (i := 1) (v := ?_) rfl (by kernel_rfl) (by kernel_rfl) (by kernel_rfl) (fun _ _ _ h => h) (Or.inl ⟨by rfl, ?_⟩) ?_
              rotate_left
              · intro w; go_simp; try (with_reducible rfl)
              simp only [Act.put, List.getElem_toArray, List.getElem_cons_succ, List.getElem_cons_zero, List.setIfInBounds_toArray, List.set_cons_succ, List.set_cons_zero]
              refine wpAny_take (i := 2) (v := ?_) rfl (by kernel_rfl) (by kernel_rfl) (by kernel_rfl) (fun _ _ _ h => h) (Or.inl ⟨by rfl, ?_⟩) ?_
              rotate_left
              · intro w; go_simp; try (with_reducible rfl)
              simp only [Act.put, List.getElem_toArray, List.getElem_cons_succ, List.getElem_cons_zero, List.setIfInBounds_toArray, List.set_cons_succ, List.set_cons_zero]
              refine wpAny_take (i := 3) (v := ?_) rfl (by kernel_rfl) (by kernel_rfl) (by kernel_rfl) (fun _ _ _ h => h) (Or.inl ⟨by rfl, ?_⟩) ?_
              rotate_left
              · intro w; go_simp; try (with_reducible rfl)
              simp only [Act.put, List.getElem_toArray, List.getElem_cons_succ, List.getElem_cons_zero, List.setIfInBounds_toArray, List.set_cons_succ, List.set_cons_zero]
              refine wpAny_take (i := 4) (v := ?_) rfl (by kernel_rfl) (by kernel_rfl) (by kernel_rfl) (fun _ _ _ h => h) (Or.inl ⟨by rfl, ?_⟩) ?_
              rotate_left
              · intro w; go_simp; try (with_reducible rfl)
              simp only [Act.put, List.getElem_toArray, List.getElem_cons_succ, List.getElem_cons_zero, List.setIfInBounds_toArray, List.set_cons_succ, List.set_cons_zero]
              refine wpAny_take (i := 5) (v := ?_) rfl (by kernel_rfl) (by kernel_rfl) (by kernel_rfl) (fun _ _ _ h => h) (Or.inl ⟨by rfl, ?_⟩) ?_
              rotate_left
              · intro w; go_simp; try (with_reducible rfl)
              simp only [Act.put, List.getElem_toArray, List.getElem_cons_succ, List.getElem_cons_zero, List.setIfInBounds_toArray, List.set_cons_succ, List.set_cons_zero]
              refine wpAny_take (i := 6) (v := ?_) rfl (by kernel_rfl) (by kernel_rfl) (by kernel_rfl) (fun _ _ _ h => h) (Or.inl ⟨by rfl, ?_⟩) ?_
              rotate_left
              · intro w; go_simp; try (with_reducible rfl)
              simp only [Act.put, List.getElem_toArray, List.getElem_cons_succ, List.getElem_cons_zero, List.setIfInBounds_toArray, List.set_cons_succ, List.set_cons_zero]
              refine wpAny_take (i := 7) (v := ?_) rfl (by kernel_rfl) (by kernel_rfl) (by kernel_rfl) (fun _ _ _ h => h) (Or.inl ⟨by rfl, ?_⟩) ?_
              rotate_left
              · intro w; go_simp; try (with_reducible rfl)
              simp only [Act.put, List.getElem_toArray, List.getElem_cons_succ, List.getElem_cons_zero, List.setIfInBounds_toArray, List.set_cons_succ, List.set_cons_zero]
              refine wpAny_take (i := 9) (v := ?_) rfl (by kernel_rfl) (by kernel_rfl) (by kernel_rfl) (fun _ _ _ h => h) (Or.inl ⟨by rfl, ?_⟩) ?_
              rotate_left
              · intro w; go_simp; try (with_reducible rfl)
              simp only [Act.put, List.getElem_toArray, List.getElem_cons_succ, List.getElem_cons_zero, List.setIfInBounds_toArray, List.set_cons_succ, List.set_cons_zero]
              refine wpAny_take (i := 10) (v := ?_) rfl (by kernel_rfl) (by kernel_rfl) (by kernel_rfl) (fun _ _ _ h => h) (Or.inl ⟨by rfl, ?_⟩) ?_
              rotate_left
              · intro w; go_simp; try (with_reducible rfl)
              simp only [Act.put, List.getElem_toArray, List.getElem_cons_succ, List.getElem_cons_zero, List.setIfInBounds_toArray, List.set_cons_succ, List.set_cons_zero]
              refine wpAny_take (i := 11) (v := ?_) rfl (by kernel_rfl) (by kernel_rfl) (by kernel_rfl) (fun _ _ _ h => h) (Or.inl ⟨by rfl, ?_⟩) ?_
              rotate_left
              · intro w; go_simp; try (with_reducible rfl)
              simp only [Act.put, List.getElem_toArray, List.getElem_cons_succ, List.getElem_cons_zero, List.setIfInBounds_toArray, List.set_cons_succ, List.set_cons_zero]
              refine wpAny_ready (rs := [8, 12]) (by kernel_rfl) (by simp) ?_
              refine AllReady.cons rfl (fun K hK => ?_) (AllReady.cons rfl (fun K hK => ?_) AllReady.nil)
              · go_simp
                refine hK _ _ ?_
                clear hK K
                refine wpAny_ready (rs := [12]) (by kernel_rfl) (by simp) ?_
                refine AllReady.cons rfl (fun K hK => ?_) AllReady.nil
                go_simp
                go_wp2_with (go_at_call 20; refine (HIm2.out _ (bnext B3.out (below_drew1 w3))).mono ?_; rintro e w6 ⟨gy, cy, rfl, hcy1, hcy2, _, hRy, hb6⟩; have E6 := Lib.hid (bnext (below_drew1 w3) hb6); have cva := conv_row (c := cy) Hlen.out hRy; rw [HS.out] at cva; have cvb := CVb.out w6 E6.out; clear hRy hb6 hcy1 hcy2)
                refine wpAny_ready (rs := [13]) (by kernel_rfl) (by simp) ?_
                refine AllReady.cons rfl (fun K hK => ?_) AllReady.nil
                go_simp
                refine hK _ _ ?_
                clear hK K
                refine wpAny_take (i := 14) (v := ?_) rfl (by kernel_rfl) (by kernel_rfl) (by kernel_rfl) (fun _ _ _ h => h) (Or.inl ⟨by rfl, ?_⟩) ?_
                rotate_left
                · intro w; go_simp; try (with_reducible rfl)
                simp only [Act.put, List.getElem_toArray, List.getElem_cons_succ, List.getElem_cons_zero, List.setIfInBounds_toArray, List.set_cons_succ, List.set_cons_zero]
                refine wpAny_take (i := 15) (v := ?_) rfl (by kernel_rfl) (by kernel_rfl) (by kernel_rfl) (fun _ _ _ h => h) (Or.inl ⟨by rfl, ?_⟩) ?_
                rotate_left
                · intro w; go_simp; try (with_reducible rfl)
                simp only [Act.put, List.getElem_toArray, List.getElem_cons_succ, List.getElem_cons_zero, List.setIfInBounds_toArray, List.set_cons_succ, List.set_cons_zero]
                refine wpAny_done (by kernel_rfl) ?_ _
                exact KEY gy cy w6 E6.out
              · go_simp
                go_wp2_with (go_at_call 20; refine (HIm2.out _ (bnext B3.out (below_drew1 w3))).mono ?_; rintro e w6 ⟨gy, cy, rfl, hcy1, hcy2, _, hRy, hb6⟩; have E6 := Lib.hid (bnext (below_drew1 w3) hb6); have cva := conv_row (c := cy) Hlen.out hRy; rw [HS.out] at cva; have cvb := CVb.out w6 E6.out; clear hRy hb6 hcy1 hcy2)
                refine wpAny_ready (rs := [8, 13]) (by kernel_rfl) (by simp) ?_
                refine AllReady.cons rfl (fun K hK => ?_) (AllReady.cons rfl (fun K hK => ?_) AllReady.nil)
                · go_simp
                  refine hK _ _ ?_
                  clear hK K
                  refine wpAny_ready (rs := [13]) (by kernel_rfl) (by simp) ?_
                  refine AllReady.cons rfl (fun K hK => ?_) AllReady.nil
                  go_simp
                  refine hK _ _ ?_
                  clear hK K
                  refine wpAny_take (i := 14) (v := ?_) rfl (by kernel_rfl) (by kernel_rfl) (by kernel_rfl) (fun _ _ _ h => h) (Or.inl ⟨by rfl, ?_⟩) ?_
                  rotate_left
                  · intro w; go_simp; try (with_reducible rfl)
                  simp only [Act.put, List.getElem_toArray, List.getElem_cons_succ, List.getElem_cons_zero, List.setIfInBounds_toArray, List.set_cons_succ, List.set_cons_zero]
                  refine wpAny_take (i := 15) (v := ?_) rfl (by kernel_rfl) (by kernel_rfl) (by kernel_rfl) (fun _ _ _ h => h) (Or.inl ⟨by rfl, ?_⟩) ?_
                  rotate_left
                  · intro w; go_simp; try (with_reducible rfl)
                  simp only [Act.put, List.getElem_toArray, List.getElem_cons_succ, List.getElem_cons_zero, List.setIfInBounds_toArray, List.set_cons_succ, List.set_cons_zero]
                  refine wpAny_done (by kernel_rfl) ?_ _
                  exact KEY gy cy w6 E6.out
                · go_simp
                  refine hK _ _ ?_
                  clear hK K
                  refine wpAny_ready (rs := [8]) (by kernel_rfl) (by simp) ?_
                  refine AllReady.cons rfl (fun K hK => ?_) AllReady.nil
                  go_simp
                  refine hK _ _ ?_
                  clear hK K
                  refine wpAny_take (i := 14) (v := ?_) rfl (by kernel_rfl) (by kernel_rfl) (by kernel_rfl) (fun _ _ _ h => h) (Or.inl ⟨by rfl, ?_⟩) ?_
                  rotate_left
                  · intro w; go_simp; try (with_reducible rfl)
                  simp only [Act.put, List.getElem_toArray, List.getElem_cons_succ, List.getElem_cons_zero, List.setIfInBounds_toArray, List.set_cons_succ, List.set_cons_zero]
                  refine wpAny_take (i := 15) (v := ?_) rfl (by kernel_rfl) (by kernel_rfl) (by kernel_rfl) (fun _ _ _ h => h) (Or.inl ⟨by rfl, ?_⟩) ?_
                  rotate_left
                  · intro w; go_simp; try (with_reducible rfl)
                  simp only [Act.put, List.getElem_toArray, List.getElem_cons_succ, List.getElem_cons_zero, List.setIfInBounds_toArray, List.set_cons_succ, List.set_cons_zero]
                  refine wpAny_done (by kernel_rfl) ?_ _
                  exact KEY gy cy w6 E6.out
            case rest =>
              intro gy cy w6 e6
              have E6 := Lib.hid e6
              clear e6
              have B6 := Lib.hid (bnext B3.out E6.out)
              have HB6 := Lib.hid (HB3.out.later E6.out)
              clear cv0 CVb HIm2 HB3 E6 Hy3 Hy2 HS
              go_wp2_with fail
              go_loopw [16, 17] (fun kv i wr => ∃ p : Nat, p ≤ m ∧ i = .int .i64 p ∧ kv = .int .i64 (kOf D p) ∧ Below w6.heap.size w6 wr) (fun _ i _ => m - (intOf i).toNat)
              case atStart => exact ⟨0, by omega, rfl, by rw [HK0.out]; rfl, Below.refl _ _⟩
              case round =>
                obtain ⟨p, hp, rfl, rfl, hbel⟩ := hrel
                have Hbel := Lib.hid hbel
                clear hbel
                by_cases hlp : p < m
                · have t5 : (p : Int) < (m : Int) := by omega
                  have t6 : (0 : Int) ≤ (p : Int) := by omega
                  obtain ⟨y, hy⟩ := list_get (k := p) HnD.out hlp
                  obtain ⟨b, off, rfl, hbl, hcl⟩ := meta_at Hr.out hy
                  have hrt := HRt.out y (List.mem_of_getElem? hy)
                  obtain ⟨⟨l1, l2⟩, _, ⟨l3, l4⟩, _, _⟩ := right_bds hrt
                  have HAy := Lib.hid (fun (n c ch cz : Nat) a2 a3 a4 a5 => HAs.out p n c ch cz y hy a2 a3 a4 a5)
                  obtain ⟨ch, hch⟩ := Int.eq_ofNat_of_zero_le (show 0 ≤ y.channels by omega)
                  have hczb : 1 ≤ countZ y.length ∧ countZ y.length ≤ 65536 := by unfold countZ; split <;> omega
                  obtain ⟨cz, hcz⟩ := Int.eq_ofNat_of_zero_le (show 0 ≤ countZ y.length by omega)
                  have hqu := quo_any (n := y.length) (by omega)
                  rw [hcz] at hqu hczb
                  rw [hch] at l3 l4
                  have HA2 := Lib.hid (fun (n c : Nat) (hn : n < cz) (hc : c < ch) => HAy.out n c ch cz hch hcz hn hc)
                  have HX1 := Lib.hid (fun W (hW : Below w.heap.size w W) => (show W.cell? ⟨b, off + p * 9 + 1, none⟩ = some (.int .i64 y.length) from (hW.cell (p := ⟨b, off + p * 9 + 1, none⟩) hbl).trans (hcl 1 _ rfl)))
                  have HX3 := Lib.hid (fun W (hW : Below w.heap.size w W) => (show W.cell? ⟨b, off + p * 9 + 3, none⟩ = some (.int .i64 ch) from (hW.cell (p := ⟨b, off + p * 9 + 3, none⟩) hbl).trans (by rw [← hch]; exact hcl 3 _ rfl)))
                  have hwq : IntKind.i64.wrap (cz : Int) = (cz : Int) := IntWalk.i64_in _ (by omega)
                  obtain ⟨⟨_, hk1, hk2, _⟩⟩ := (show Nonempty _ from ⟨HA2.out 0 0 (by omega) (by omega)⟩)
                  obtain ⟨K, hK⟩ : ∃ K, kOf D p = K := ⟨_, rfl⟩
                  rw [hK] at HA2 hk1 hk2 ⊢
                  rw [Hnf.out] at hk2
                  generalize y.length = len at *
                  have HkS := Lib.hid hk1
                  clear hcl hbl hrt hy hch hcz HAy hk1 hK
                  obtain ⟨wd, rfl⟩ : ∃ wd, wd = wr := ⟨_, rfl⟩
                  go_wp2_with fail
                  go_loopw [16, 18] (fun kv i wr => ∃ n : Nat, n ≤ cz ∧ i = .int .i64 n ∧ kv = .int .i64 ((K + n * ch : Nat) : Int) ∧ Below w6.heap.size w6 wr) (fun _ i _ => cz - (intOf i).toNat)
                  case atStart => exact ⟨0, by omega, rfl, by rw [Nat.zero_mul, Nat.add_zero], Hbel.out⟩
                  case round =>
                    obtain ⟨n, hn, rfl, rfl, hbel⟩ := hrel
                    have Hbel4 := Lib.hid hbel
                    clear hbel
                    have k1 := HX1.out wr (bnext B6.out Hbel4.out)
                    by_cases hln : n < cz
                    · have t7 : (n : Int) < (cz : Int) := by omega
                      obtain ⟨J0, hJ0⟩ : ∃ J0, n * ch = J0 := ⟨_, rfl⟩
                      rw [hJ0] at ⊢
                      have hJs : (n + 1) * ch = J0 + ch := by rw [Nat.succ_mul, hJ0]
                      obtain ⟨we, rfl⟩ : ∃ we, we = wr := ⟨_, rfl⟩
                      go_wp2_with fail
                      go_loopw [16, 19] (fun kv i wr => ∃ c : Nat, c ≤ ch ∧ i = .int .i64 c ∧ kv = .int .i64 ((K + (J0 + c) : Nat) : Int) ∧ Below w6.heap.size w6 wr) (fun _ i _ => ch - (intOf i).toNat)
                      case atStart => exact ⟨0, by omega, rfl, by rw [Nat.add_zero], Hbel4.out⟩
                      case round =>
                        obtain ⟨c, hc, rfl, rfl, hbel⟩ := hrel
                        have Hbel5 := Lib.hid hbel
                        clear hbel k1
                        have k3 := HX3.out wr (bnext B6.out Hbel5.out)
                        by_cases hlc : c < ch
                        · have t8 : (c : Int) < (ch : Int) := by omega
                          obtain ⟨hE, _, _, hj, f, hf, hfl, hsub, _⟩ := HA2.out n c hln hlc
                          rw [hJ0] at hj hf
                          have HBy := Lib.hid (Bytes_any g1 sz Z PM p c n wr (HB6.out.later Hbel5.out) HFit.out)
                          unfold BytesP at HBy
                          rw [hE, hsub] at HBy
                          obtain ⟨J, hJ⟩ : ∃ J, K + (J0 + c) = J := ⟨_, rfl⟩
                          rw [hJ] at hf ⊢
                          have hJn : J < q := by omega
                          obtain ⟨v, hv⟩ := list_get (k := J) Hvl.out hJn
                          obtain ⟨a, ca, rfl, _, _, hrow⟩ := HVf.out J v f hv hf
                          obtain ⟨bf, of_, rfl, hbf, hcf'⟩ := HVr.out J _ hv
                          rw [hfl] at hcf'
                          obtain ⟨y0, hy0⟩ := list_get (k := 0) hfl (by omega)
                          obtain ⟨bt, ot, rfl, hbt, _⟩ := hrow 0 _ (u8s_get hy0)
                          have Hf0 := Lib.hid hy0
                          have Hfl := Lib.hid hfl
                          have HCl := Lib.hid (fun W (hW : Below w.heap.size w W) => (hW.cell (p := ⟨bf, of_ + J, none⟩) hbf).trans hcf')
                          have HRl := Lib.hid (fun W (hW : Below w.heap.size w W) => hrow.later hW)
                          clear hE hsub hf hv hrow hbf hcf' hy0 hbt hfl
                          go_wp2_with (go_at_call 21; fail)
                          refine HBy.out.mono ?_
                          rintro e w7 ⟨hb7, ⟨h, _⟩ | ⟨_, Ab, cb, rfl, _, _, _, hrb⟩⟩
                          · exact absurd rfl h
                          obtain ⟨bb, ob, rfl, _, _⟩ := hrb 0 _ (u8s_get Hf0.out)
                          have E7 := Lib.hid (bnext Hbel5.out hb7)
                          obtain ⟨S2, hS2⟩ : ∃ S, strOfNums (f.map fun (x : Nat) => (x : Int)) = S := ⟨_, rfl⟩
                          have cvy := fun (z : GW w7) => (show (convert 29 9 (.slice (some ⟨bb, ob, none⟩) sz cb)).run Tryz.prog z.1 = .ok (.string S2) z.1 from by
                            rw [← hS2]
                            exact conv_row Hfl.out (hrb.later z.2))
                          have cvl := fun (z : GW w7) => (show (convert 29 9 (.slice (some ⟨bt, ot, none⟩) sz ca)).run Tryz.prog z.1 = .ok (.string S2) z.1 from by
                            rw [← hS2]
                            exact conv_row Hfl.out (HRl.out z.1 (bnext (bnext B6.out E7.out) z.2)))
                          have xc := fun (z : GW w7) => HCl.out z.1 (bnext (bnext B6.out E7.out) z.2)
                          have t9 : decide ((q : Int) ≤ (J : Int)) = false := decide_eq_false (by omega)
                          have t9n : decide (q ≤ J) = false := decide_eq_false (by omega)
                          have t10 : (J : Int) < (q : Int) := by omega
                          have t11 : (0 : Int) ≤ (J : Int) := by omega
                          clear hb7 hrb hS2 k3 HBy
                          go_wp2_with fail
                          refine wp_region_calm (by kernel_rfl) (by kernel_rfl) ?_
                          repeat (go_big_quiet_step (fail))
                          refine wpQuiet_nil ?_
                          intro w8 hw'
                          have E8 := Lib.hid (bnext E7.out (gw_below hw'))
                          clear hw' cvy cvl xc t9 t9n
                          go_wp2
                          go_roundw
                          case rel => exact ⟨c + 1, by omega, by go_num, congrArg (Value.int .i64) (by omega), E8.out⟩
                          case measure => first | (simp [intOf]; done) | (simp [intOf]; omega)
                        · have hcc : c = ch := by omega
                          subst hcc
                          have t8 : ¬ ((c : Int) < (c : Int)) := by omega
                          go_wp2
                          go_roundw
                          case rel => exact ⟨n + 1, by omega, by go_num, by rw [hJs], Hbel5.out⟩
                          case measure => first | (simp [intOf]; done) | (simp [intOf]; omega)
                    · have hnc : n = cz := by omega
                      subst hnc
                      have t7 : ¬ ((n : Int) < (n : Int)) := by omega
                      go_wp2
                      go_roundw
                      case rel => exact ⟨p + 1, by omega, by go_num, by rw [HkS.out], Hbel4.out⟩
                      case measure => first | (simp [intOf]; done) | (simp [intOf]; omega)
                · have hpm : p = m := by omega
                  subst hpm
                  have t5 : ¬ ((p : Int) < (p : Int)) := by omega
                  rw [HcN.out]
                  go_wp2_with (go_at_call 15; refine (HAw.out _).mono ?_; rintro e w9 ⟨rfl, hb9⟩)
                  go_ret
                  exact ⟨rfl, bnext (bnext B6.out Hbel.out) hb9⟩
theorem BankBuilds_law (W : World) (v0 v1 v2 : Value) (a0 : Arg W (.int .i64) v0) (a1 : Arg W (.slice 9 metaTy) v1) (a2 : Arg W (.slice 1 (.slice 1 (.int .u8))) v2) :
    Calls Tryz.prog 3 #[v0, v1, v2] W fun e w' => e = .returned (.bool true) ∧ Below W.heap.size W w' := by
  obtain ⟨n, h0, _, _⟩ := a0
  obtain rfl : v0 = .int .i64 n := by simpa using h0
  obtain ⟨D, A, capD, rfl, _, _, _, hr, h64⟩ := metas_arg a1
  obtain ⟨FR, Af, capF, rfl, h1, h2, _, h3, h4⟩ := brows_arg a2
  exact BankBuilds_walk n D A capD FR Af capF W h1 h2 hr h64 h4 h3
end Go.Proofs.YtgcfkblmnpnogaaGreatDoor
