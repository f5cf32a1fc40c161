/- BldD, BldE, EdA, EdB, EdC. Conditions: as each theorem states. -/
import Derived.Test.YtgcfkblmnpnogaaGreatDoorPk48
import Derived.Test.YtgcfkblmnpnogaaGreatDoorPk04
import Derived.Test.YtgcfkblmnpnogaaGreatDoorPk41
import Derived.Test.YtgcfkblmnpnogaaGreatDoorPk47
import Derived.Test.YtgcfkblmnpnogaaGreatDoorPk35

namespace Go.Proofs.YtgcfkblmnpnogaaGreatDoor
open Go.RowKit Go.Lib

/-- what Build leaves -/
def BuildP (w : World) (size : Nat) (D : List MetaV) (FR : List (List Nat)) (e : Ending) (w' : World) : Prop :=
  Below w.heap.size w w' ∧ ((bldOk D D.length = false ∧ e = .returned (.tuple #[.slice none 0 0, .int .i64 4])) ∨ (bldOk D D.length = true ∧ (kOf D D.length ≠ FR.length ∨ lensOk size FR FR.length = false) ∧ e = .returned (.tuple #[.slice none 0 0, .int .i64 1])) ∨
    (CanB size D FR ∧ ∃ g, e = .returned (.tuple #[.slice (some ⟨g, 0, none⟩) (bldN size D) (bldN size D), .int .i64 0]) ∧ w.heap.size ≤ g ∧ BytesAt w' g (bldZ size D FR)))
set_option maxRecDepth 100000 in
set_option maxHeartbeats 16000000 in
theorem Build_any (size : Nat) (D : List MetaV) (A : Option Addr) (capD : Nat) (FR : List (List Nat)) (Af : Option Addr) (capF : Nat) (w : World) (h1 : 24 ≤ size) (h2 : size ≤ 96) (hD : D.length ≤ 64)
    (hr : Row w w.heap.size A (metaCells D)) (hf : BRows w w.heap.size Af FR) (hfl : FR.length ≤ 30000) (hcf : FR.length ≤ capF) (hcm : capF ≤ 9223372036854775807) (hbt : ∀ f ∈ FR, Byt f) :
    Calls Tryz.prog 18 #[.int .i64 size, .slice A D.length capD, .slice Af FR.length capF] w (BuildP w size D FR) := by
  obtain ⟨i0, hi, ⟨z0, hz0, hz0s⟩, hi1, hi2⟩ := meta_info
  obtain ⟨iB, hiB, hzB0, hzB1, hzB2⟩ := info_parts inf_u8
  obtain ⟨vs, hvl, hvr, hvf⟩ := hf.at_
  have HCan := Lib.hid (fun h4 h5 h6 => canB_of (size := size) (D := D) (FR := FR) h1 h2 hD h4 h5 h6 hbt hfl)
  have HOk0 := Lib.hid (fun x h => bldOk_zero (D := D) (x := x) h)
  have HOkS := Lib.hid (fun m x y h k => bldOk_succ (D := D) (m := m) (x := x) (y := y) h k)
  have HOkL := Lib.hid (fun (m : Nat) (h : bldOk D m = false) (hm : m ≤ D.length) => bldOk_le h D.length hm)
  have HkB := Lib.hid (fun (m : Nat) (h : bldOk D m = true) => kOf_bd hD m h)
  have HkS := Lib.hid (fun (m : Nat) x h => kOf_succ (D := D) (m := m) (x := x) h)
  have HLnS := Lib.hid (fun (m : Nat) f h => lensOk_succ (size := (size : Int)) (FR := FR) (m := m) (f := f) h)
  have HLnL := Lib.hid (fun (m : Nat) (h : lensOk size FR m = false) (hm : m ≤ FR.length) => lensOk_le h FR.length hm)
  have HkF := Lib.hid (show ∀ m, kOf D m = kOf D m from fun _ => rfl)
  have HG := Lib.hid (fun (h : bldOk D D.length = true) x (hx : x ∈ D) => genM_right (bldOk_right h x hx))
  have HZ := Lib.hid (show bldZ size D FR = withHead (lays (List.replicate (bldN size D) 0) (bldFs size (bldDir size D) FR D.length)) (bldDir size D) size from rfl)
  have HNe := Lib.hid (fun (h : CanB size D FR) => h.len_eq)
  have HPd := Lib.hid (show mixTo size D D.length = bldDir size D from rfl)
  have HPl := Lib.hid (bldDir_len size D)
  have Hr := Lib.hid hr
  have HVr := Lib.hid hvr
  have HVf := Lib.hid hvf
  have Hone := Lib.hid (metas_one D)
  have Hml := Lib.hid (metaCells_len D)
  have Hvl := Lib.hid hvl
  have HFit := Lib.hid (fun (h : CanB size D FR) m (hm : m ≤ D.length) => h.fits_to hm)
  obtain ⟨nD, hnD⟩ : ∃ n, D.length = n := ⟨_, rfl⟩
  obtain ⟨nf, hnf⟩ : ∃ n, FR.length = n := ⟨_, rfl⟩
  rw [hnD] at hD HCan HOkL HG HZ HNe HPd HPl Hml HFit ⊢
  rw [hnf] at hfl hcf HCan HLnL Hvl ⊢
  have HnD := Lib.hid hnD
  have Hnf := Lib.hid hnf
  clear hr hf hvl hvr hvf hbt hnD hnf
  have s1 : ¬ (size : Int) < 24 := by omega
  have s2 : ¬ (96 : Int) < (size : Int) := by omega
  have s3 : ¬ (64 : Int) < (nD : Int) := by omega
  go_enter Tryz.func18, Tryz.ntmps18
  go_wp2_with fail
  go_loopw [8, 30] (fun v i wr => ∃ m : Nat, m ≤ nD ∧ i = .int .i64 m ∧ v = .int .i64 (kOf D m) ∧ bldOk D m = true ∧ Below w.heap.size w wr) (fun _ i _ => nD - (intOf i).toNat)
  case atStart => exact ⟨0, by omega, rfl, rfl, rfl, Below.refl _ _⟩
  case round =>
    obtain ⟨m, hm, rfl, rfl, hok, hbel⟩ := hrel
    have Hbel := Lib.hid hbel
    have Hok := Lib.hid hok
    clear hbel hok
    by_cases hlt : m < nD
    · have t1 : (m : Int) < (nD : Int) := by omega
      have t2 : (0 : Int) ≤ (m : Int) := by omega
      obtain ⟨x, hx⟩ := list_get (k := m) HnD.out hlt
      obtain ⟨b, off, rfl, hbl, hcl⟩ := meta_at (Hr.out.later Hbel.out) hx
      have Hx := Lib.hid hx
      have HkS1 := Lib.hid (HkS.out m x hx)
      have hkB := HkB.out m Hok.out
      obtain ⟨rb, hrb⟩ : ∃ rb, x.right = rb := ⟨_, rfl⟩
      have HG1 := Lib.hid (fun (h : x.right = true) => genM_right h)
      have HFr := Lib.hid (fun W (h : x.right = true) => bankFrames_any x W (by have := (genM_right h).len; omega) (by have := (genM_right h).ch; omega))
      obtain ⟨nm, len, rate, ch, lp, f, t, sums, first⟩ := x
      have k0 := hcl 0 _ rfl
      have k1 := hcl 1 _ rfl
      have k2 := hcl 2 _ rfl
      have k3 := hcl 3 _ rfl
      have k4 := hcl 4 _ rfl
      have k5 := hcl 5 _ rfl
      have k6 := hcl 6 _ rfl
      have k7 := hcl 7 _ rfl
      have k8 := hcl 8 _ rfl
      rw [Nat.add_zero] at k0
      have HRm := Lib.hid (fun W => RightMeta_any nm len rate ch lp f t sums first W)
      rw [hrb] at HRm
      have Hrb := Lib.hid hrb
      have HP := Lib.hid (fun (r : Nat) (pv : MetaV) (h : D[r]? = some pv) => (show wr.cell? ⟨b, off + r * 9, none⟩ = some (.string pv.name) from by
        obtain ⟨b', off', hA', _, hcl'⟩ := meta_at (Hr.out.later Hbel.out) h
        injection hA' with hA'
        injection hA' with e1 e2
        subst e1 e2
        have := hcl' 0 _ rfl
        rwa [Nat.add_zero] at this))
      have Hbl := Lib.hid hbl
      clear hcl hx hbl hrb
      go_wp2_with fail
      clear k0 k1 k2 k3 k4 k5 k6 k7 k8
      obtain ⟨w5, hw5⟩ : ∃ w5, wr.alloc (.cells #[.string nm, .int .i64 len, .int .i64 rate, .int .i64 ch, .bool lp, .int .i64 f, .int .i64 t, .int .i64 sums, .int .i64 first] 27) = w5 := ⟨_, rfl⟩
      rw [hw5]
      have Hx5 := Lib.hid (show Blk w5 wr.heap.size 27 (MetaV.cells ⟨nm, len, rate, ch, lp, f, t, sums, first⟩) by rw [← hw5]; exact Blk.new wr _ (MetaV.cells ⟨nm, len, rate, ch, lp, f, t, sums, first⟩))
      have B5 := Lib.hid (show Below wr.heap.size wr w5 by rw [← hw5]; exact bnew wr _)
      obtain ⟨gm, hgm⟩ : ∃ gm, wr.heap.size = gm := ⟨_, rfl⟩
      rw [hgm] at Hx5 ⊢
      clear hw5 hgm
      have x5 := fun (z : GW w5) => (z.2.block gm Hx5.out.lt).trans Hx5.out
      have xn : ∀ (z : GW w5), z.1.cell? ⟨gm, 0, none⟩ = some (.string nm) := fun z => (z.2.cell (p := ⟨gm, 0, none⟩) Hx5.out.lt).trans (Hx5.out.cell 0)
      have HFm := Lib.hid (show (Tryz.prog.info? 27).map (·.size) = some 9 by kernel_rfl)
      have E5 := Lib.hid (bnext Hbel.out B5.out)
      cases rb with
      | false =>
        have hbad : bldOk D (m + 1) = false := by
          cases m with
          | zero => rw [HOk0.out _ Hx.out, Hrb.out]
          | succ r =>
            obtain ⟨y, hy⟩ := list_get (k := r) HnD.out (by omega)
            rw [HOkS.out r _ y Hx.out hy, Hrb.out]
            simp
        have hE := HOkL.out _ hbad (by omega)
        have v1 : decide ((0 : Int) < (m : Int)) = decide ((0 : Int) < (m : Int)) := rfl
        clear hbad v1 xn
        refine wp_region_calm (by kernel_rfl) (by kernel_rfl) ?_
        repeat (first | (go_big_quiet_want; refine quiet_load_row 27 (.tmp 10) rfl gm rfl _ (MetaV.cells ⟨nm, len, rate, ch, lp, f, t, sums, first⟩).toArray _ _ (by rintro _ ⟨x, rfl⟩; exact x5 x) Tryz.underlying27 rfl HFm.out ?_; go_simp; go_big_quiet_on) | go_big_quiet_step ((go_at_call 16; exact calm_call (HRm.out _))))
        refine wpQuiet_nil ?_
        intro w6 hw'
        have B6 := Lib.hid (gw_below hw')
        clear hw' x5
        go_wp2
        refine bodyPost_ret (results_tmp2 Tryz.results18 _ _ _) rfl ?_
        unfold BuildP
        rw [HnD.out, Hnf.out]
        exact ⟨bnext E5.out B6.out, .inl ⟨hE, rfl⟩⟩
      | true =>
        have hfr := (HG1.out Hrb.out).fr
        have HFr1 := Lib.hid (fun W => HFr.out W Hrb.out)
        obtain ⟨F, hF⟩ := Int.eq_ofNat_of_zero_le hfr.1
        rw [hF] at hfr HFr1
        have HkS2 := Lib.hid (show kOf D (m + 1) = kOf D m + F by rw [HkS1.out, hF, Int.toNat_natCast])
        clear hF
        by_cases hm0 : m = 0
        · have hgood : bldOk D (m + 1) = true := by
            subst hm0
            rw [HOk0.out _ Hx.out, Hrb.out]
          have Hgd := Lib.hid hgood
          have v1 : decide ((0 : Int) < (m : Int)) = false := decide_eq_false (by omega)
          have v2 : decide (0 < m) = false := decide_eq_false (by omega)
          clear hgood hm0 xn
          refine wp_region_calm (by kernel_rfl) (by kernel_rfl) ?_
          repeat (first | (go_big_quiet_want; refine quiet_load_row 27 (.tmp 10) rfl gm rfl _ (MetaV.cells ⟨nm, len, rate, ch, lp, f, t, sums, first⟩).toArray _ _ (by rintro _ ⟨x, rfl⟩; exact x5 x) Tryz.underlying27 rfl HFm.out ?_; go_simp; go_big_quiet_on) | go_big_quiet_step ((go_at_call 16; exact calm_call (HRm.out _))))
          refine wpQuiet_nil ?_
          intro w6 hw'
          have B6 := Lib.hid (gw_below hw')
          clear hw' x5 v1 v2
          have E6 := Lib.hid (bnext E5.out B6.out)
          have Y6 := Lib.hid (Hx5.out.below B6.out Hx5.out.lt)
          go_wp2_with (first | (refine wpList_load_row_w rfl 27 (.tmp 10) rfl gm rfl _ (MetaV.cells ⟨nm, len, rate, ch, lp, f, t, sums, first⟩).toArray _ _ Y6.out Tryz.underlying27 rfl HFm.out ?_) | (go_at_call 17; fail))
          refine (HFr1.out _).mono ?_
          rintro e w7 ⟨rfl, hb7⟩
          have E7 := Lib.hid (bnext E6.out hb7)
          clear hb7
          go_wp2
          go_roundw
          case rel => exact ⟨m + 1, by omega, by go_num, by rw [HkS2.out]; exact congrArg (Value.int .i64) (by push_cast; rfl), Hgd.out, E7.out⟩
          case measure => first | (simp [intOf]; done) | (simp [intOf]; omega)
        · have v1 : decide ((0 : Int) < (m : Int)) = true := decide_eq_true (by omega)
          have v2 : 0 < m := by omega
          obtain ⟨r, hrm⟩ : ∃ r, m = r + 1 := ⟨m - 1, by omega⟩
          have hmr : (m : Int) - 1 = (r : Int) := by omega
          have v3 : (r : Int) < (nD : Int) := by omega
          have v4 : (0 : Int) ≤ (r : Int) := by omega
          obtain ⟨pv, hpr⟩ := list_get (k := r) HnD.out (by omega)
          have xp := fun (z : GW w5) => (z.2.cell (p := ⟨b, off + r * 9, none⟩) (Nat.lt_of_lt_of_le Hbl.out B5.out.size)).trans ((B5.out.cell (p := ⟨b, off + r * 9, none⟩) Hbl.out).trans (HP.out r pv hpr))
          have hbl := bytesLess_nm pv.name nm
          have HOk1 := Lib.hid (show bldOk D (m + 1) = nameLt pv.name nm by
            subst hrm
            rw [HOkS.out r _ pv Hx.out hpr, Hrb.out, Hok.out]
            simp)
          clear hpr hm0 hrm
          by_cases hlss : nameLt pv.name nm = true
          · have Hgd := Lib.hid (show bldOk D (m + 1) = true by rw [HOk1.out, hlss])
            rw [hlss] at hbl
            clear hlss
            refine wp_region_calm (by kernel_rfl) (by kernel_rfl) ?_
            repeat (first | (go_big_quiet_want; refine quiet_load_row 27 (.tmp 10) rfl gm rfl _ (MetaV.cells ⟨nm, len, rate, ch, lp, f, t, sums, first⟩).toArray _ _ (by rintro _ ⟨x, rfl⟩; exact x5 x) Tryz.underlying27 rfl HFm.out ?_; go_simp; go_big_quiet_on) | go_big_quiet_step ((go_at_call 16; exact calm_call (HRm.out _))))
            refine wpQuiet_nil ?_
            intro w6 hw'
            have B6 := Lib.hid (gw_below hw')
            clear hw' x5 v1 v2 xp xn hbl v3 v4 hmr
            have E6 := Lib.hid (bnext E5.out B6.out)
            have Y6 := Lib.hid (Hx5.out.below B6.out Hx5.out.lt)
            go_wp2_with (first | (refine wpList_load_row_w rfl 27 (.tmp 10) rfl gm rfl _ (MetaV.cells ⟨nm, len, rate, ch, lp, f, t, sums, first⟩).toArray _ _ Y6.out Tryz.underlying27 rfl HFm.out ?_) | (go_at_call 17; fail))
            refine (HFr1.out _).mono ?_
            rintro e w7 ⟨rfl, hb7⟩
            have E7 := Lib.hid (bnext E6.out hb7)
            clear hb7
            go_wp2
            go_roundw
            case rel => exact ⟨m + 1, by omega, by go_num, by rw [HkS2.out]; exact congrArg (Value.int .i64) (by push_cast; rfl), Hgd.out, E7.out⟩
            case measure => first | (simp [intOf]; done) | (simp [intOf]; omega)
          · have hlf : nameLt pv.name nm = false := by simpa using hlss
            have hE := HOkL.out (m + 1) (by rw [HOk1.out, hlf]) (by omega)
            rw [hlf] at hbl
            clear hlss hlf
            refine wp_region_calm (by kernel_rfl) (by kernel_rfl) ?_
            repeat (first | (go_big_quiet_want; refine quiet_load_row 27 (.tmp 10) rfl gm rfl _ (MetaV.cells ⟨nm, len, rate, ch, lp, f, t, sums, first⟩).toArray _ _ (by rintro _ ⟨x, rfl⟩; exact x5 x) Tryz.underlying27 rfl HFm.out ?_; go_simp; go_big_quiet_on) | go_big_quiet_step ((go_at_call 16; exact calm_call (HRm.out _))))
            refine wpQuiet_nil ?_
            intro w6 hw'
            have B6 := Lib.hid (gw_below hw')
            clear hw' x5 xp xn hbl
            go_wp2
            refine bodyPost_ret (results_tmp2 Tryz.results18 _ _ _) rfl ?_
            unfold BuildP
            rw [HnD.out, Hnf.out]
            exact ⟨bnext E5.out B6.out, .inl ⟨hE, rfl⟩⟩
    · have hmn : m = nD := by omega
      subst hmn
      have t1 : ¬ ((m : Int) < (m : Int)) := by omega
      obtain ⟨kn, hkn⟩ : ∃ kn, kOf D m = kn := ⟨_, rfl⟩
      rw [hkn]
      by_cases hk : kn = nf
      rotate_left
      · have t2 : ((kn : Int) != (nf : Int)) = true := by rw [bne_iff_ne]; omega
        go_wp2
        refine bodyPost_ret (results_tmp2 Tryz.results18 _ _ _) rfl ?_
        unfold BuildP
        rw [HnD.out, Hnf.out]
        exact ⟨Hbel.out, .inr (.inl ⟨Hok.out, .inl (by rw [hkn]; exact hk), rfl⟩)⟩
      subst hk
      have t2 : ((kn : Int) != (kn : Int)) = false := by simp
      have Hkn := Lib.hid hkn
      clear hkn
      obtain ⟨wb, rfl⟩ : ∃ wb, wb = wr := ⟨_, rfl⟩
      go_wp2_with fail
      go_loopw [64] (fun i wx => ∃ q : Nat, q ≤ kn ∧ i = .int .i64 q ∧ lensOk size FR q = true ∧ Below w.heap.size w wx) (fun i _ => kn - (intOf i).toNat)
      case atStart => exact ⟨0, by omega, rfl, rfl, Hbel.out⟩
      case round =>
        obtain ⟨q, hq, rfl, hlo, hbel2⟩ := hrel
        have Hb2 := Lib.hid hbel2
        have Hlo := Lib.hid hlo
        clear hbel2 hlo
        by_cases hlq : q < kn
        · have t3 : (q : Int) < (kn : Int) := by omega
          have t4 : (0 : Int) ≤ (q : Int) := by omega
          obtain ⟨f, hf⟩ := list_get (k := q) Hnf.out hlq
          obtain ⟨v, hv⟩ := list_get (k := q) Hvl.out hlq
          obtain ⟨a, c, rfl, _, _, _⟩ := HVf.out q v f hv hf
          obtain ⟨bf, of_, rfl, hbf, hcf'⟩ := HVr.out q _ hv
          have c5 := (Hb2.out.cell (p := ⟨bf, of_ + q, none⟩) hbf).trans hcf'
          have HLs := HLnS.out q f hf
          obtain ⟨fl, hfl'⟩ : ∃ n, f.length = n := ⟨_, rfl⟩
          rw [hfl'] at c5 HLs
          have HLs := Lib.hid HLs
          clear hf hv hbf hcf' hfl'
          by_cases hs : (fl : Int) = (size : Int)
          · have t5 : ((fl : Int) != (size : Int)) = false := by simp [hs]
            have hl2 : lensOk size FR (q + 1) = true := by rw [HLs.out, Hlo.out, decide_eq_true hs]; rfl
            have Hl2 := Lib.hid hl2
            clear hl2 hs
            go_wp2
            go_roundw
            case rel => exact ⟨q + 1, by omega, by go_num, Hl2.out, Hb2.out⟩
            case measure => first | (simp [intOf]; done) | (simp [intOf]; omega)
          · have t5 : ((fl : Int) != (size : Int)) = true := by rw [bne_iff_ne]; exact hs
            have hl2 := HLnL.out (q + 1) (by rw [HLs.out, decide_eq_false hs]; simp) (by omega)
            go_wp2
            refine bodyPost_ret (results_tmp2 Tryz.results18 _ _ _) rfl ?_
            unfold BuildP
            rw [HnD.out, Hnf.out]
            exact ⟨Hb2.out, .inr (.inl ⟨Hok.out, .inr hl2, rfl⟩)⟩
        · have hqn : q = kn := by omega
          subst hqn
          have t3 : ¬ ((q : Int) < (q : Int)) := by omega
          have HC := Lib.hid (HCan.out Hok.out Hkn.out Hlo.out)
          have hlen2 := HC.out.len_bd
          have hNe := HNe.out HC.out
          have HHd := Lib.hid (fun x (h : x ∈ bldDir size D) => goodM_of (HC.out.goodE x h).1)
          have HRt := Lib.hid (fun x (h : x ∈ bldDir size D) => (HC.out.goodE x h).2)
          have HAt := Lib.hid (fun (k : Nat) x (h : (bldDir size D)[k]? = some x) => HC.out.at_ h)
          have HFa := Lib.hid (fun (m k : Nat) x (h : (bldDir size D)[m]? = some x) (hk : (k : Int) ≤ framesN x) => HC.out.fits_at h hk)
          have HFt := Lib.hid (fun m' (h : m' ≤ m) => HFit.out HC.out m' h)
          have HKm := Lib.hid (fun m' => kOf_mix (size : Int) D m m')
          have HBs := Lib.hid (fun (k : Nat) x (h : (bldDir size D)[k]? = some x) => bldFs_succ (size := size) (FR := FR) h)
          have HBf := Lib.hid (fun x (k n : Nat) f (h : FR[k + n]? = some f) => bldF_succ (size := size) (x := x) h)
          have hPd := HPd.out
          rw [hPd] at HKm
          have HGs := Lib.hid (HG.out Hok.out)
          have HPlc := Lib.hid (fun B c (A' : Option Addr) W (ho : W.ownsRow B 27 9 (.slice A' m c) m (metaCells D)) (hB : B ≤ W.heap.size) => place_gen (size : Int) m c B D A' W HnD.out hD HGs.out (by omega) (by omega) ho hB)
          rw [← hNe, hPd] at HPlc
          have HZ2 := Lib.hid HZ.out
          obtain ⟨N, hN⟩ : ∃ N, bldN size D = N := ⟨_, rfl⟩
          rw [hN] at hlen2 HAt HFa HFt HPlc HZ2
          have HNN := Lib.hid hN
          obtain ⟨PM, hPM⟩ : ∃ PM, bldDir size D = PM := ⟨_, rfl⟩
          have HPl2 := Lib.hid (show PM.length = m by rw [← hPM]; exact HPl.out)
          rw [hPM] at HHd HRt HAt HFa HFt HKm HBs HPlc HZ2
          rw [HnD.out] at hlen2
          have hlen2' : 20 + m * 64 ≤ N ∧ N ≤ 4000000 := hlen2
          clear HCan HOk0 HOkS HOkL HkB HkS HLnS HLnL HNe hNe HPd HPl hPd hPM hN HG HGs HFit HZ hlen2 HkF
          obtain ⟨wc, rfl⟩ : ∃ wc, wc = wr := ⟨_, rfl⟩
          have E1 := Lib.hid Hb2.out
          go_wp2_with (at_builtin; refine wpList_app _ rfl (.const (.slice none 0 0)) (.tmp 73) 22 rfl wc.heap.size 27 i0 z0 9 80 Tryz.underlying22 hi hz0 hi1 hi2 hz0s (by omega) (.slice none 0 0) 0 [] rfl (World.ownsRow_nil _ _ _ _) w.heap.size A m capD (metaCells D) rfl Hml.out (Hr.out.below E1.out) Hone.out (by omega) (by omega) (Nat.le_refl _) ?_; intro A2 c2 w2 hown2 hgrow hat hcc)
          rw [Nat.zero_add, List.nil_append] at hown2
          have E2 := Lib.hid (show Below wc.heap.size wc w2 from (Below.refl _ _).grown hgrow (Nat.le_refl _) (fun k hk => by cases hk))
          have HPlc2 := Lib.hid (HPlc.out wc.heap.size c2 A2 w2 hown2 E2.out.size)
          clear hown2 hgrow hat hcc HPlc
          go_wp2_with (go_at_call 69; fail)
          refine HPlc2.out.mono ?_
          rintro e w5 ⟨rfl, hown5, hb5⟩
          have u2 : ¬ ((4194304 : Int) < (N : Int)) := by omega
          have u3 : ¬ ((N : Int) < 0) := by omega
          have R5 := Lib.hid (Row.of_own hown5)
          have HA5 := Lib.hid (own_addr_lt hown5)
          have E5 := Lib.hid (show Below w.heap.size w w5 from E1.out.trans ((E2.out.trans hb5).mono E1.out.size))
          obtain ⟨mc, hmc⟩ : ∃ mc, madeCells #[Value.int .u8 0] N = mc := ⟨_, rfl⟩
          have Hms := Lib.hid (show mc = (u8s (List.replicate N 0)).toArray from by
            have h := toList_madeCells_one (Value.int .u8 0) N
            rw [hmc] at h
            have : u8s (List.replicate N 0) = List.replicate N (.int .u8 0) := by simp [u8s]
            rw [this, ← h])
          clear hown5 hb5 HPlc2
          go_wp2_with (refine wpList_make_row w5 rfl (.tmp 80) (.tmp 80) 29 rfl 5 iB (.int .u8 0) Tryz.underlying29 hiB hzB0 hzB1 rfl .i64 .i64 N rfl rfl (by rw [hzB2]; omega) (by omega) ?_; rw [hmc])
          obtain ⟨wB, hwB⟩ : ∃ wB, w5.alloc (.cells mc 5) = wB := ⟨_, rfl⟩
          rw [hwB]
          have HyB := Lib.hid (show BytesAt wB w5.heap.size (List.replicate N 0) by
            rw [← hwB, Hms.out]
            exact Blk.new w5 5 (u8s (List.replicate N 0)))
          have E5B := Lib.hid (show Below w5.heap.size w5 wB by rw [← hwB]; exact bnew w5 _)
          have RB := Lib.hid (show Row wB w5.heap.size A2 (metaCells PM) from R5.out.below E5B.out)
          have EB := Lib.hid (show Below w.heap.size w wB from bnext E5.out E5B.out)
          have H35 := Lib.hid (show w.heap.size ≤ w5.heap.size from E5.out.size)
          have HwB := Lib.hid (show w5.heap.size ≤ wB.heap.size from E5B.out.size)
          obtain ⟨gB, hgB⟩ : ∃ gB, w5.heap.size = gB := ⟨_, rfl⟩
          rw [hgB] at HyB RB H35 HwB HA5 ⊢
          have HW := Lib.hid (fun W (hW : wB.grownBy W (some gB)) => (show Below w.heap.size w W from EB.out.grown hW (Nat.le_trans H35.out HwB.out) (fun k hk => by injection hk with hk; have := H35.out; omega)))
          have HMf := Lib.hid (show (Tryz.prog.info? 27).map (·.size) = some 9 by kernel_rfl)
          clear hwB hgB hmc Hms R5 E5 E5B E2 E1
          go_wp2_with fail
          go_loopw [2, 84] (fun fr i wx => ∃ (p : Nat) (A' : Option Addr) (c' : Nat), p ≤ m ∧ i = .int .i64 p ∧ fr = .slice A' (q - kOf D p) c' ∧ q - kOf D p ≤ c' ∧ c' ≤ 9223372036854775807 ∧ Row w w.heap.size A' (vs.drop (kOf D p)) ∧ BytesAt wx gB (lays (List.replicate N 0) (bldFs size PM FR p)) ∧ wB.grownBy wx (some gB)) (fun _ i _ => m - (intOf i).toNat)
          case atStart => exact ⟨0, Af, capF, by omega, rfl, rfl, hcf, hcm, HVr.out, HyB.out, World.grownBy.refl _ _⟩
          case round =>
            obtain ⟨p, A', c', hp, rfl, rfl, hc1, hc2, hrw, hby, hgr⟩ := hrel
            obtain ⟨wx, rfl⟩ : ∃ wx, wx = wr := ⟨_, rfl⟩
            have Hrw := Lib.hid hrw
            have Hby := Lib.hid hby
            have Hgr := Lib.hid hgr
            clear hrw hby hgr
            by_cases hlp : p < m
            · have t5 : (p : Int) < (m : Int) := by omega
              have t6 : (0 : Int) ≤ (p : Int) := by omega
              obtain ⟨x, hx⟩ := list_get (k := p) HPl2.out hlp
              obtain ⟨F, S, T, hxF, hxS, hxT, h1T, hkS, hkL, hxa⟩ := HAt.out p x hx
              have hxa := Lib.hid hxa
              rw [Hnf.out] at hkL
              have HBs1 := Lib.hid (HBs.out p x hx)
              have HFa1 := Lib.hid (fun k (hk : k ≤ T) => HFa.out p k x hx (by rw [hxT]; omega))
              have HKp := Lib.hid (HKm.out p)
              rw [hxT, Int.toNat_natCast] at HBs1
              obtain ⟨bD, oD, rfl, hbD, hcD⟩ := meta_at RB.out hx
              have HXd := Lib.hid (fun (W : World) (hW : wB.grownBy W (some gB)) j v (hv : x.cells[j]? = some v) => (show W.cell? ⟨bD, oD + p * 9 + j, none⟩ = some v from (hW.cell_far ⟨bD, oD + p * 9 + j, none⟩ (Nat.lt_of_lt_of_le hbD HwB.out) (fun e => by injection e with e; simp only at e; omega)).trans (hcD j v hv)))
              have HX := Lib.hid (HXd.out wx Hgr.out)
              obtain ⟨K, hK⟩ : ∃ K, kOf D p = K := ⟨_, rfl⟩
              rw [hK] at hkS hkL hxa hc1 Hrw HKp ⊢
              have hvK : ∃ v, (vs.drop K)[0]? = some v := by
                rw [List.getElem?_drop]
                exact ⟨_, List.getElem?_eq_getElem (by rw [Hvl.out]; omega)⟩
              obtain ⟨v0, hv0⟩ := hvK
              obtain ⟨bA, oA, rfl, hbA, _⟩ := Hrw.out 0 v0 hv0
              have hxm := HRt.out x (List.mem_of_getElem? hx)
              have HFr := Lib.hid (fun W => (show Calls Tryz.prog 17 #[.agg x.cells.toArray] W (fun e w' => e = .returned (.int .i64 (T : Nat)) ∧ Below W.heap.size W w') from by
                have := bankFrames_any x W (by have := (genM_right hxm).len; omega) (by have := (genM_right hxm).ch; omega)
                rwa [hxT] at this))
              have Hx7 := Lib.hid (show x.cells[7]? = some (.int .i64 S) by rw [← hxS]; rfl)
              have Hx8 := Lib.hid (show x.cells[8]? = some (.int .i64 F) by rw [← hxF]; rfl)
              have HFn := Lib.hid (show x.first.toNat = F by rw [hxF]; exact Int.toNat_natCast F)
              have HSn := Lib.hid (show x.sums.toNat = S by rw [hxS]; exact Int.toNat_natCast S)
              have HO1 := Lib.hid (meta_all x)
              obtain ⟨xc, hxc⟩ : ∃ xc, x.cells = xc := ⟨_, rfl⟩
              have hx9 : xc.length = 9 := by rw [← hxc]; rfl
              rw [hxc] at HX Hx7 Hx8 HO1 HFr
              have HFl := Lib.hid (show (Tryz.prog.info? 27).map (·.size) = some xc.length by rw [hx9]; exact HMf.out)
              have HFz := Lib.hid (show (Tryz.prog.info? 27).map (·.size) = some xc.toArray.size by rw [List.size_toArray, hx9]; exact HMf.out)
              have Hz9 := Lib.hid (show xc.toArray.size = 9 by rw [List.size_toArray, hx9])
              rw [HKp.out] at HBs1 HFa1
              have hT1 : T ≤ q - K := by omega
              have Hxa := hxa
              clear hxm hx9 hxc hbD hcD HXd hx hv0 hxF hxS hxT hK hxa
              go_wp2_with (first | (refine wpList_load_part_w rfl 27 (.tmp 86) rfl bD (oD + p * 9) rfl xc _ HX.out Tryz.underlying27 rfl HFl.out ?_) | (refine wpList_store_row_w rfl 27 (.tmp 16) (.tmp 87) rfl wx.heap.size rfl _ _ xc.toArray rfl (heap_alloc_new wx _) HFz.out (by rw [Hz9.out]; rfl) HO1.out ?_; rw [World.setRow_alloc_new]) | (refine wpList_load_row_w rfl 27 (.tmp 16) rfl wx.heap.size rfl _ xc.toArray _ _ (heap_alloc_new wx _) Tryz.underlying27 rfl HFz.out ?_) | (go_at_call 17; fail))
              refine (HFr.out _).mono ?_
              rintro e w6 ⟨rfl, hb6⟩
              have Hgl := Lib.hid (show gB < wx.heap.size from Hby.out.lt)
              have E6 := Lib.hid (bnext (bnew wx (.cells xc.toArray 27)) hb6)
              have X6 := Lib.hid (show Blk w6 wx.heap.size 27 xc from (Blk.new wx 27 xc).below hb6 (by simp))
              have Y6 := Lib.hid (Hby.out.below E6.out Hby.out.lt)
              have G6 := Lib.hid (grownBy_below Hgr.out E6.out)
              have HY0 := Lib.hid (show BytesAt w6 gB (lays (List.replicate N 0) (bldFs size PM FR p ++ bldF size x FR K 0)) from by
                rw [show bldFs size PM FR p ++ bldF size x FR K 0 = bldFs size PM FR p by simp [bldF]]
                exact Y6.out)
              obtain ⟨gm, hgm⟩ : ∃ gm, wx.heap.size = gm := ⟨_, rfl⟩
              rw [hgm] at X6 Hgl ⊢
              have HLs := Lib.hid (fun k (hk : k ≤ T) => (show (lays (List.replicate N 0) (bldFs size PM FR p ++ bldF size x FR K k)).length = N from lays_len (by simp) (HFa1.out k hk)))
              have HBf1 := Lib.hid (fun (k : Nat) f (h : FR[K + k]? = some f) => HBf.out x K k f h)
              have HTb := Lib.hid (show T ≤ 30000 by omega)
              clear hgm hb6 Y6 HFa1 HX
              have y1 : (0 : Int) ≤ (T : Int) := by omega
              have y2 : (T : Int) ≤ (c' : Int) := by omega
              go_wp2_with fail
              go_loopw [93] (fun i wy => ∃ k : Nat, k ≤ T ∧ i = .int .i64 k ∧ BytesAt wy gB (lays (List.replicate N 0) (bldFs size PM FR p ++ bldF size x FR K k)) ∧ w6.grownBy wy (some gB)) (fun i _ => T - (intOf i).toNat)
              case atStart => exact ⟨0, by omega, rfl, HY0.out, World.grownBy.refl _ _⟩
              case round =>
                obtain ⟨k, hk, rfl, hby, hgr⟩ := hrel
                obtain ⟨wy, rfl⟩ : ∃ wy, wy = wr := ⟨_, rfl⟩
                have Hy3 := Lib.hid hby
                have Hg3 := Lib.hid hgr
                clear hby hgr
                by_cases hlk : k < T
                · have t7 : (k : Int) < (T : Int) := by omega
                  have t8 : (0 : Int) ≤ (k : Int) := by omega
                  obtain ⟨f, hf, hfl2, hfb1, hfb2⟩ := Hxa.out k hlk
                  obtain ⟨v, hv⟩ := list_get (k := K + k) Hvl.out (by omega)
                  obtain ⟨a, c, rfl, q1, q2, hrow⟩ := HVf.out (K + k) v f hv hf
                  have hcs := HBf1.out k f hf
                  rw [hfl2] at hv q1
                  have Hbw := Lib.hid (HW.out wy (grownBy_trans G6.out Hg3.out))
                  obtain ⟨b', o', hA', _, hcl⟩ := Hrw.out k _ (by rw [List.getElem?_drop]; exact hv)
                  injection hA' with hA'
                  injection hA' with e1 e2
                  subst e1 e2
                  have c5 := (Hbw.out.cell (p := ⟨bA, oA + k, none⟩) hbA).trans hcl
                  obtain ⟨y0, hy0⟩ := list_get (k := 0) hfl2 (by omega)
                  obtain ⟨bt, ot, rfl, hbt, _⟩ := hrow 0 _ (u8s_get hy0)
                  have hbg : bt ≠ gB := by have := H35.out; omega
                  have Hrt := Lib.hid (hrow.later Hbw.out)
                  have Hlb := Lib.hid hfl2
                  have X3 := Lib.hid (Blk.grown X6.out Hg3.out (fun e => by injection e with e; have := Hgl.out; omega))
                  have xm8 : wy.cell? ⟨gm, 8, none⟩ = some (.int .i64 F) := (X3.out.cell 8).trans Hx8.out
                  obtain ⟨P, hP⟩ : ∃ P, k * size = P := ⟨_, rfl⟩
                  have hmul : (k : Int) * (size : Int) = (P : Int) := by rw [← hP]; push_cast; rfl
                  rw [hP] at hfb1
                  rw [hP] at hcs
                  obtain ⟨O1, hO1⟩ : ∃ O1, F + P = O1 := ⟨_, rfl⟩
                  have hOi : (F : Int) + (P : Int) = (O1 : Int) := by omega
                  rw [hO1] at hfb1
                  obtain ⟨X0, hX0⟩ : ∃ X0, lays (List.replicate N 0) (bldFs size PM FR p ++ bldF size x FR K k) = X0 := ⟨_, rfl⟩
                  have hlen0 := HLs.out k hk
                  rw [hX0] at Hy3 hlen0
                  have Hy1 := Lib.hid (show lays (List.replicate N 0) (bldFs size PM FR p ++ bldF size x FR K (k + 1)) = putAt (putAt X0 O1 f) (S + 4 * k) (numB 4 (crcZ f).toNat) by
                    rw [hcs, HFn.out, HSn.out, hO1, ← List.append_assoc, lays_app, hX0]
                    rfl)
                  have hcp : (Builtin.copy_ #[29, 29] 3 #[.slice (some ⟨gB, O1, none⟩) (N - O1) (N - O1), .slice (some ⟨bt, ot, none⟩) size c]).run Tryz.prog wy = _ := copy_bytes wy gB O1 (N - O1) (N - O1) bt ot size c X0 f Hy3.out Hlb.out (by omega) (by omega) Hrt.out _
                  obtain ⟨w9, hw9⟩ : ∃ w9, wy.setRow gB (u8s (putAt X0 O1 f)).toArray = w9 := ⟨_, rfl⟩
                  rw [hw9] at hcp
                  have G79 := Lib.hid (show wy.grownBy w9 (some gB) by rw [← hw9]; exact grown_row2 (World.grownBy.refl _ _) _)
                  have Y9 := Lib.hid (show BytesAt w9 gB (putAt X0 O1 f) by rw [← hw9]; exact bytes_row Hy3.out)
                  have G9 := Lib.hid (grownBy_trans Hg3.out G79.out)
                  have R9 := Lib.hid ((Hrt.out.aside (Nat.le_refl _) G79.out (fun ad ha => by injection ha with ha; subst ha; intro e; injection e with e; exact hbg e.symm)).more G79.out.size)
                  have X9 := Lib.hid (Blk.grown X6.out G9.out (fun e => by injection e with e; have := Hgl.out; omega))
                  have L9 := Lib.hid (show (putAt X0 O1 f).length = N by rw [putAt_len (by rw [Hlb.out, hlen0]; omega), hlen0])
                  clear hw9 hX0 hP hO1 hcl hv hf hrow hy0 hcs hbt q1 q2 hfl2
                  have y3 : ¬ (N = O1) := by omega
                  have y4 : (0 : Int) ≤ (O1 : Int) := by omega
                  have y5 : (O1 : Int) ≤ (N : Int) := by omega
                  go_wp2_with fail
                  clear hcp xm8
                  have xm7 := fun (z : GW w9) => (show z.1.cell? ⟨gm, 7, none⟩ = some (.int .i64 S) from (z.2.cell (p := ⟨gm, 7, none⟩) X9.out.lt).trans ((X9.out.cell 7).trans Hx7.out))
                  have HCr := Lib.hid (fun (z : GW w9) => (show Calls Tryz.prog 71 #[.slice (some ⟨bt, ot, none⟩) size c] z.1 (fun e w' => e = .returned (.int .u32 (crcZ f)) ∧ z.1 = w') from by
                    have := crcSum_any f (some ⟨bt, ot, none⟩) c z.1 (by rw [Hlb.out]; omega) (R9.out.later z.2)
                    rwa [Hlb.out] at this))
                  have hcr := crcZ_bd f
                  generalize crcZ f = C at *
                  have hwC : IntKind.i64.wrap C = C := IntWalk.i64_in _ (by omega)
                  obtain ⟨AT, hAT⟩ : ∃ AT, S + 4 * k = AT := ⟨_, rfl⟩
                  have hATi : (S : Int) + 4 * (k : Int) = (AT : Int) := by omega
                  rw [hAT] at hfb2 Hy1
                  clear hAT
                  refine wp_region_calm_tail 9 (by kernel_rfl) (by kernel_rfl) ?_
                  simp only [List.take_succ_cons, List.take_zero, List.drop_succ_cons, List.drop_zero]
                  repeat (go_big_quiet_step ((go_at_call 71; exact calm_same (HCr.out _))))
                  refine wpQuiet_nil ?_
                  intro w10 hw'
                  have B10 := Lib.hid (gw_below hw')
                  clear hw' xm7 HCr
                  have Y10 := Lib.hid (Y9.out.below B10.out Y9.out.lt)
                  have HN2 := Lib.hid (show Calls Tryz.prog 70 #[.slice (some ⟨gB, 0, none⟩) N N, .int .i64 AT, .int .i64 4, .int .i64 C] w10 (LaidPost w10 gB (putAt (putAt X0 O1 f) AT (numB 4 C.toNat))) from by
                    have := number_int (putAt X0 O1 f) gB 0 N N AT 4 C w10 hcr.1 Y10.out (by rw [L9.out]; omega) (by omega) (by omega) (by omega)
                    rwa [Nat.zero_add] at this)
                  go_wp2_with (go_at_call 70; fail)
                  refine HN2.out.mono ?_
                  rintro e w11 ⟨rfl, hy11, hg11⟩
                  have Y11 := Lib.hid hy11
                  have G11 := Lib.hid (grownBy_trans (grownBy_below G9.out B10.out) hg11)
                  clear hy11 hg11
                  go_wp2
                  go_roundw
                  case rel => exact ⟨k + 1, by omega, by go_num, by rw [Hy1.out]; exact Y11.out, G11.out⟩
                  case measure => first | (simp [intOf]; done) | (simp [intOf]; omega)
                · have hkT : k = T := by omega
                  subst hkT
                  have t7 : ¬ ((k : Int) < (k : Int)) := by omega
                  have Hy4 := Lib.hid (show BytesAt wy gB (lays (List.replicate N 0) (bldFs size PM FR (p + 1))) by rw [HBs1.out]; exact Hy3.out)
                  have X3 := Lib.hid (Blk.grown X6.out Hg3.out (fun e => by injection e with e; have := Hgl.out; omega))
                  have HG3 := Lib.hid (grownBy_trans G6.out Hg3.out)
                  go_wp2_with (first | (refine wpList_load_row_w rfl 27 (.tmp 16) rfl gm rfl _ xc.toArray _ _ X3.out Tryz.underlying27 rfl HFz.out ?_) | (go_at_call 17; fail))
                  refine (HFr.out _).mono ?_
                  rintro e w7 ⟨rfl, hb7⟩
                  have Y7 := Lib.hid (Hy4.out.below hb7 Hy4.out.lt)
                  have G7 := Lib.hid (grownBy_below HG3.out hb7)
                  have Hq := Lib.hid (show q - kOf D (p + 1) = q - K - k by rw [hkS]; omega)
                  have Hrw2 := Lib.hid (show Row w w.heap.size (some ⟨bA, oA + k, none⟩) (vs.drop (kOf D (p + 1))) by
                    have h := Hrw.out.drop_ k
                    rw [List.drop_drop] at h
                    rw [hkS]
                    exact h)
                  have Hdn := Lib.hid (fun (h : q - K - k = 0) => (show vs.drop (kOf D (p + 1)) = [] from List.drop_eq_nil_of_le (by rw [Hvl.out, hkS]; omega)))
                  clear hb7 hkS Hy4 X3
                  by_cases hcc : c' = k
                  · have y3 : q - K - k = 0 := by omega
                    subst hcc
                    go_wp2_with fail
                    go_roundw
                    case rel => exact ⟨p + 1, some ⟨bA, oA, none⟩, 0, by omega, by go_num, by rw [Hq.out, y3], by rw [Hq.out]; omega, by omega, by rw [Hdn.out y3]; exact Row.none_ _ _ _, Y7.out, G7.out⟩
                    case measure => first | (simp [intOf]; done) | (simp [intOf]; omega)
                  · have y6 : ¬ (c' - k = 0) := by omega
                    go_wp2_with fail
                    go_roundw
                    case rel => exact ⟨p + 1, some ⟨bA, oA + k, none⟩, c' - k, by omega, by go_num, by rw [Hq.out], by rw [Hq.out]; omega, by omega, Hrw2.out, Y7.out, G7.out⟩
                    case measure => first | (simp [intOf]; done) | (simp [intOf]; omega)
            · have hpm : p = m := by omega
              subst hpm
              have t5 : ¬ ((p : Int) < (p : Int)) := by omega
              have hlen : (lays (List.replicate N 0) (bldFs size PM FR p)).length = N := lays_len (by simp) (HFt.out p (Nat.le_refl _))
              have HHe := Lib.hid (show Calls Tryz.prog 72 #[.slice (some ⟨gB, 0, none⟩) N N, .slice A2 p c2, .int .i64 size] wx (LaidPost wx gB (bldZ size D FR)) from by
                have hr : Row wx wx.heap.size A2 (metaCells PM) := (RB.out.under HwB.out (Nat.le_refl _) Hgr.out).more (Nat.le_of_lt Hby.out.lt)
                have := head_any (lays (List.replicate N 0) (bldFs size PM FR p)) gB N N PM A2 c2 size wx Hby.out hlen (Nat.le_refl _) (by rw [HPl2.out]; omega) (by omega) (by rw [HPl2.out]; omega) (by omega) HHd.out hr (fun ad ha => by have := HA5.out ad ha; omega)
                rw [HPl2.out] at this
                rw [HZ2.out]
                exact this)
              clear hlen
              go_wp2_with (go_at_call 72; fail)
              refine HHe.out.mono ?_
              rintro e w9 ⟨rfl, hy9, hg9⟩
              have Hy9 := Lib.hid hy9
              have Hg9 := Lib.hid (grownBy_trans Hgr.out hg9)
              clear hy9 hg9
              go_wp2
              refine bodyPost_ret (results_tmp2 Tryz.results18 _ _ _) rfl ?_
              unfold BuildP
              rw [HnD.out, Hnf.out]
              exact ⟨HW.out _ Hg9.out, .inr (.inr ⟨HC.out, gB, by rw [HNN.out]; rfl, H35.out, Hy9.out⟩)⟩
end Go.Proofs.YtgcfkblmnpnogaaGreatDoor

namespace Go.Proofs.YtgcfkblmnpnogaaGreatDoor
open Go.RowKit Go.Lib

/-- what is built is parsed -/
theorem Parse_built {size : Nat} {D : List MetaV} {FR : List (List Nat)} (h : CanB size D FR) (g : Nat) (w : World) (hb : BytesAt w g (bldZ size D FR)) :
    Calls Tryz.prog 19 #[.slice (some ⟨g, 0, none⟩) (bldN size D) (bldN size D)] w fun e w' => ∃ x, e = .returned (.tuple #[.pointer (some ⟨x, 0, none⟩), .int .i64 0]) ∧ w.heap.size ≤ x ∧ BankAt w' x (bldZ size D FR) size (bldDir size D) ∧ Below w.heap.size w w' := by
  have hl := h.len_bd
  refine (Parse_any (bldZ size D FR) (some ⟨g, 0, none⟩) (bldN size D) (bldN size D) w (bldZ_len h) (Nat.le_refl _) (by omega) (by omega) (fun h => by cases h) (bytes_at_row hb) (bldZ_byt h)).mono ?_
  rintro e w' (⟨h1, _⟩ | ⟨_, x, he, hx, hB, hbel⟩)
  · exact absurd (bldZ_parse h) h1
  · rw [bldZ_size h, bldZ_cnt h, bldZ_dir h] at hB
    exact ⟨x, he, hx, hB, hbel⟩
section
variable {size : Nat} {D : List MetaV} {FR : List (List Nat)}
theorem bldDir_at {m : Nat} {y : MetaV} (hy : D[m]? = some y) : metaI (bldDir size D) m = plc size D m y ∧ metaE (bldDir size D) m = 0 := by
  have hm := (List.getElem?_eq_some_iff.1 hy).1
  have hi : ¬ ((m : Int) < 0 ∨ ((bldDir size D).length : Int) ≤ (m : Int)) := by rw [bldDir_len]; omega
  constructor
  · unfold metaI
    rw [if_neg hi, Int.toNat_natCast, List.getD_eq_getElem?_getD, bldDir_get hy]
    rfl
  · unfold metaE
    rw [if_neg hi]
theorem bldDir_in {m : Nat} {y : MetaV} (hy : D[m]? = some y) {c b : Int} : whereE (bldDir size D) m c b = if c < 0 ∨ y.channels ≤ c ∨ b < 0 ∨ countZ y.length ≤ b then 5 else 0 := by
  obtain ⟨h1, h2⟩ := bldDir_at (size := size) hy
  unfold whereE
  rw [h1, h2, if_neg (by simp)]
  rfl
/-- a frame that is asked for -/
theorem CanB.asked (h : CanB size D FR) {m n c ch cz : Nat} {y : MetaV} (hy : D[m]? = some y) (hch : y.channels = ch) (hcz : countZ y.length = cz) (hn : n < cz) (hc : c < ch) :
    whereE (bldDir size D) m c n = 0 ∧ kOf D (m + 1) = kOf D m + cz * ch ∧ kOf D m + cz * ch ≤ FR.length ∧ n * ch + c < cz * ch ∧ ∃ f, FR[kOf D m + (n * ch + c)]? = some f ∧ f.length = size ∧ subB (bldZ size D FR) (whereAt (bldDir size D) size m c n).toNat size = f ∧ (whereSum (bldDir size D) (bldZ size D FR) m c n : Int) = crcZ f := by
  have hE : whereE (bldDir size D) m c n = 0 := by rw [bldDir_in hy, hch, hcz, if_neg (by omega)]
  have hx := bldDir_get (size := size) hy
  have hfr : framesN y = ((cz * ch : Nat) : Int) := by unfold framesN; rw [hch, hcz]; push_cast; rfl
  have hj : n * ch + c < cz * ch := by
    have := Nat.mul_le_mul_right ch (show n + 1 ≤ cz by omega)
    rw [Nat.succ_mul] at this
    omega
  have hk := kOf_succ hy
  rw [hfr, Int.toNat_natCast] at hk
  have hmo := kOf_mono D (show m + 1 ≤ D.length from (List.getElem?_eq_some_iff.1 hy).1)
  rw [h.cnt, hk] at hmo
  obtain ⟨f, hf⟩ : ∃ f, FR[kOf D m + (n * ch + c)]? = some f := ⟨_, List.getElem?_eq_getElem (by omega)⟩
  obtain ⟨h1, h2⟩ := h.frame_at hx (j := n * ch + c) (by rw [plc_frames, hfr]; omega) hf
  have hno : frameNo (bldDir size D) m c n = ((n * ch + c : Nat) : Int) := by
    unfold frameNo
    rw [(bldDir_at (size := size) hy).1]
    show (n : Int) * y.channels + (c : Int) = _
    rw [hch]
    push_cast; rfl
  have hmi := (bldDir_at (size := size) hy).1
  refine ⟨hE, hk, hmo, hj, f, hf, h.len f (List.mem_of_getElem? hf), ?_, ?_⟩
  · unfold whereAt
    rw [if_pos hE, hno, hmi]
    exact h1
  · unfold whereSum
    rw [if_pos hE, hno, hmi]
    exact h2
end
end Go.Proofs.YtgcfkblmnpnogaaGreatDoor

namespace Go.Proofs.YtgcfkblmnpnogaaGreatDoor
open Go.RowKit Go.Lib

structure RawV where
  m : MetaV
  fs : List (List Nat)
structure HRaw where
  a : Option Addr
  c : Nat
def rawC (p : HRaw × RawV) : List Value := p.2.m.cells ++ [.slice p.1.a p.2.fs.length p.1.c]
def rawsC (L : List (HRaw × RawV)) : List Value := (L.map rawC).flatten
theorem rawC_len (p : HRaw × RawV) : (rawC p).length = 10 := rfl
theorem rawsC_snoc (L : List (HRaw × RawV)) (p : HRaw × RawV) : rawsC (L ++ [p]) = rawsC L ++ rawC p := by simp [rawsC]
theorem rawsC_app (L M : List (HRaw × RawV)) : rawsC (L ++ M) = rawsC L ++ rawsC M := by simp [rawsC]
theorem rawsC_get (L : List (HRaw × RawV)) {k : Nat} {p : HRaw × RawV} (h : L[k]? = some p) (j : Nat) (hj : j < 10) : (rawsC L)[k * 10 + j]? = (rawC p)[j]? := by
  unfold rawsC
  rw [flat_get 10 (L.map rawC) (fun cs hcs => by obtain ⟨z, _, rfl⟩ := List.mem_map.1 hcs; rfl) k j hj]
  simp [h]
theorem rawsC_len (L : List (HRaw × RawV)) : (rawsC L).length = L.length * 10 := by
  induction L with
  | nil => rfl
  | cons p r ih =>
    show (rawC p ++ rawsC r).length = _
    rw [List.length_append, ih, rawC_len, List.length_cons, Nat.succ_mul, Nat.add_comm]
theorem raw_at {w : World} {B : Nat} {A : Option Addr} {L : List (HRaw × RawV)} (hr : Row w B A (rawsC L)) {k : Nat} {p : HRaw × RawV} (h : L[k]? = some p) :
    ∃ b off, A = some ⟨b, off, none⟩ ∧ b < B ∧ ∀ j v, (rawC p)[j]? = some v → w.cell? ⟨b, off + k * 10 + j, none⟩ = some v := by
  have h0 := rawsC_get L h 0 (by omega)
  obtain ⟨b, off, hA, hb, _⟩ := hr (k * 10 + 0) (.string p.2.m.name) h0
  refine ⟨b, off, hA, hb, fun j v hv => ?_⟩
  have hj : j < 10 := by have := (List.getElem?_eq_some_iff.1 hv).1; rwa [rawC_len] at this
  have h1 := rawsC_get L h j hj
  rw [hv] at h1
  obtain ⟨b', off', hA', _, hc⟩ := hr (k * 10 + j) v h1
  rw [hA] at hA'
  injection hA' with hA'
  injection hA' with e1 e2
  subst e1 e2
  rw [Nat.add_assoc]; exact hc
theorem rawC_one (p : HRaw × RawV) : ∀ u ∈ rawC p, u.oneCell' = true := by
  intro u hu
  unfold rawC at hu
  rcases List.mem_append.1 hu with h | h
  · exact meta_one p.2.m u h
  · rw [List.mem_singleton] at h; rw [h]; rfl
theorem rawsC_one (L : List (HRaw × RawV)) : ∀ u ∈ rawsC L, u.oneCell' = true := by
  intro u hu
  unfold rawsC at hu
  obtain ⟨cs, hcs, hu⟩ := List.mem_flatten.1 hu
  obtain ⟨z, _, rfl⟩ := List.mem_map.1 hcs
  exact rawC_one z u hu
theorem raw_info : ∃ i, Tryz.prog.info? 149 = some i ∧ (∃ z, i.zero = some z ∧ z.cells.size = 10) ∧ i.size = 10 ∧ i.bytes = 104 := by
  have h : (Tryz.prog.info? 149).map (fun i => (i.zero.map (fun z => z.cells.size), i.size, i.bytes)) = some (some 10, 10, 104) := by kernel_rfl
  cases hi : Tryz.prog.info? 149 with
  | none => rw [hi] at h; cases h
  | some i =>
    rw [hi] at h
    simp at h
    obtain ⟨⟨z, h1, h2⟩, h3, h4⟩ := h
    exact ⟨i, rfl, ⟨z, h1, h2⟩, h3, h4⟩
theorem inf_raw : (Tryz.prog.info? 149).map (·.size) = some 10 := by kernel_rfl
/-- rows of elements of two types do not share a block -/
theorem own_far {w : World} {base base' size size' n n' : Nat} {e e' : TypeId} {v V : Value} {xs xs' : List Value} (h : w.ownsRow base e size v n xs) (k : w.ownsRow base' e' size' V n' xs') (he : e ≠ e') : v.ownBlock = none ∨ v.ownBlock ≠ V.ownBlock := by
  rcases h.2 with ⟨rfl, _⟩ | ⟨g, cap, cur, rfl, _, hg, _⟩
  · exact .inl rfl
  · right
    have := own_ne k hg he
    exact this
theorem own_base {w : World} {base base' size n : Nat} {e : TypeId} {v : Value} {xs : List Value} (h : w.ownsRow base e size v n xs) (hb : base' ≤ base) : w.ownsRow base' e size v n xs := by
  refine ⟨h.1, ?_⟩
  rcases h.2 with h1 | ⟨g, cap, cur, h1, h2, h3⟩
  · exact .inl h1
  · exact .inr ⟨g, cap, cur, h1, Nat.le_trans hb h2, h3⟩
/-- frames as bytes, in a row -/
structure FsAt (w : World) (base : Nat) (A : Option Addr) (c : Nat) (FR : List (List Nat)) (vs : List Value) : Prop where
  len : vs.length = FR.length
  own : w.ownsRow base 29 1 (.slice A FR.length c) FR.length vs
  each : ∀ (j : Nat) v f, vs[j]? = some v → FR[j]? = some f → ∃ a k, v = .slice a f.length k ∧ f.length ≤ k ∧ k ≤ 9223372036854775807 ∧ w.ownsRow 0 5 1 (.slice a f.length k) f.length (u8s f)
theorem FsAt.nil (w : World) (base : Nat) : FsAt w base none 0 [] [] := ⟨rfl, World.ownsRow_nil _ _ _ _, fun j v f h => by simp at h⟩
theorem FsAt.below {w w' : World} {base : Nat} {A : Option Addr} {c : Nat} {FR : List (List Nat)} {vs : List Value} (h : FsAt w base A c FR vs) (hb : Below w.heap.size w w') : FsAt w' base A c FR vs :=
  ⟨h.len, own_below h.own hb, fun j v f h1 h2 => by
    obtain ⟨a, k, e, h3, h4, h5⟩ := h.each j v f h1 h2
    exact ⟨a, k, e, h3, h4, own_below h5 hb⟩⟩
theorem FsAt.far {w w' : World} {base base' size n : Nat} {A : Option Addr} {c : Nat} {FR : List (List Nat)} {vs xs : List Value} {e : TypeId} {V : Value} (h : FsAt w base A c FR vs) (k : w.ownsRow base' e size V n xs) (h1 : 29 ≠ e) (h2 : 5 ≠ e) (hg : w.grownBy w' V.ownBlock) : FsAt w' base A c FR vs :=
  ⟨h.len, h.own.kept hg (own_far h.own k h1), fun j v f q1 q2 => by
    obtain ⟨a, k', e, h3, h4, h5⟩ := h.each j v f q1 q2
    exact ⟨a, k', e, h3, h4, h5.kept hg (own_far h5 k h2)⟩⟩
theorem FsAt.push {w w' : World} {base : Nat} {A : Option Addr} {c : Nat} {FR : List (List Nat)} {vs : List Value} (h : FsAt w base A c FR vs) {f : List Nat} {a : Option Addr} {k : Nat} (h1 : f.length ≤ k) (h2 : k ≤ 9223372036854775807) (hf : w.ownsRow 0 5 1 (.slice a f.length k) f.length (u8s f)) {A' : Option Addr} {c' : Nat}
    (hown : w'.ownsRow base 29 1 (.slice A' (FR.length + 1) c') (FR.length + 1) (vs ++ [.slice a f.length k])) (hg : w.grownBy w' (Value.slice A FR.length c).ownBlock) : FsAt w' base A' c' (FR ++ [f]) (vs ++ [.slice a f.length k]) := by
  have hl : (FR ++ [f]).length = FR.length + 1 := by simp
  refine ⟨by rw [List.length_append, h.len, hl]; rfl, by rw [hl]; exact hown, fun j v g hj1 hj2 => ?_⟩
  by_cases hj : j < FR.length
  · rw [List.getElem?_append_left (by rw [h.len]; exact hj)] at hj1
    rw [List.getElem?_append_left hj] at hj2
    obtain ⟨a', k', e, h3, h4, h5⟩ := h.each j v g hj1 hj2
    exact ⟨a', k', e, h3, h4, h5.kept hg (own_far h5 h.own (by decide))⟩
  · have hj3 : j = FR.length := by
      have := (List.getElem?_eq_some_iff.1 hj2).1
      rw [hl] at this
      omega
    subst hj3
    rw [List.getElem?_append_right (by rw [h.len]; exact Nat.le_refl _), h.len, Nat.sub_self] at hj1
    rw [List.getElem?_append_right (Nat.le_refl _), Nat.sub_self] at hj2
    injection hj1 with hj1
    injection hj2 with hj2
    subst hj1 hj2
    exact ⟨a, k, rfl, h1, h2, hf.kept hg (own_far hf h.own (by decide))⟩
theorem FsAt.rows {w : World} {base : Nat} {A : Option Addr} {c : Nat} {FR : List (List Nat)} {vs : List Value} (h : FsAt w base A c FR vs) : BRows w w.heap.size A FR :=
  ⟨vs, h.len, Row.of_own h.own, fun j v f h1 h2 => by
    obtain ⟨a, k, e, h3, h4, h5⟩ := h.each j v f h1 h2
    exact ⟨a, k, e, h3, h4, Row.of_own h5⟩⟩
/-- a raw in memory -/
def RawAt (w : World) (p : HRaw × RawV) : Prop := ∃ vs, FsAt w 0 p.1.a p.1.c p.2.fs vs
theorem RawAt.below {w w' : World} {p : HRaw × RawV} (h : RawAt w p) (hb : Below w.heap.size w w') : RawAt w' p := by
  obtain ⟨vs, h⟩ := h
  exact ⟨vs, h.below hb⟩
theorem RawAt.far {w w' : World} {base size n : Nat} {p : HRaw × RawV} {xs : List Value} {e : TypeId} {V : Value} (h : RawAt w p) (k : w.ownsRow base e size V n xs) (h1 : 29 ≠ e) (h2 : 5 ≠ e) (hg : w.grownBy w' V.ownBlock) : RawAt w' p := by
  obtain ⟨vs, h⟩ := h
  exact ⟨vs, h.far k h1 h2 hg⟩
/-- raws in a row of the call's own -/
structure RawsAt (w : World) (base : Nat) (A : Option Addr) (c : Nat) (L : List (HRaw × RawV)) : Prop where
  own : w.ownsRow base 149 10 (.slice A L.length c) L.length (rawsC L)
  each : ∀ p ∈ L, RawAt w p
theorem RawsAt.below {w w' : World} {base : Nat} {A : Option Addr} {c : Nat} {L : List (HRaw × RawV)} (h : RawsAt w base A c L) (hb : Below w.heap.size w w') : RawsAt w' base A c L :=
  ⟨own_below h.own hb, fun p hp => (h.each p hp).below hb⟩
/-! The samples of a built image. -/
/-- the first samples of a built image, with their frames -/
def allZ (size : Nat) (D : List MetaV) (FR : List (List Nat)) : Nat → List RawV
  | 0 => []
  | m + 1 => allZ size D FR m ++ match (bldDir size D)[m]? with
    | some x => [⟨x, (FR.drop (kOf D m)).take (framesN x).toNat⟩]
    | none => []
theorem allZ_succ {size : Nat} {D : List MetaV} {FR : List (List Nat)} {m : Nat} {x : MetaV} (h : (bldDir size D)[m]? = some x) : allZ size D FR (m + 1) = allZ size D FR m ++ [⟨x, (FR.drop (kOf D m)).take (framesN x).toNat⟩] := by
  show allZ size D FR m ++ (match (bldDir size D)[m]? with | some x => _ | none => _) = _
  rw [h]
theorem allZ_len (size : Nat) (D : List MetaV) (FR : List (List Nat)) : ∀ m, m ≤ D.length → (allZ size D FR m).length = m
  | 0, _ => rfl
  | m + 1, hm => by
    obtain ⟨x, hx⟩ : ∃ x, (bldDir size D)[m]? = some x := ⟨_, List.getElem?_eq_getElem (by rw [bldDir_len]; omega)⟩
    rw [allZ_succ hx, List.length_append, allZ_len size D FR m (by omega)]
    rfl
theorem allZ_get (size : Nat) (D : List MetaV) (FR : List (List Nat)) {i : Nat} {x : MetaV} (hx : (bldDir size D)[i]? = some x) : ∀ m, i < m → m ≤ D.length → (allZ size D FR m)[i]? = some ⟨x, (FR.drop (kOf D i)).take (framesN x).toNat⟩
  | 0, h, _ => by omega
  | m + 1, h, hm => by
    obtain ⟨y, hy⟩ : ∃ y, (bldDir size D)[m]? = some y := ⟨_, List.getElem?_eq_getElem (by rw [bldDir_len]; omega)⟩
    have hl := allZ_len size D FR m (by omega)
    rw [allZ_succ hy]
    by_cases him : i = m
    · subst him
      rw [hx] at hy
      injection hy with hy
      subst hy
      rw [List.getElem?_append_right (by omega), hl, Nat.sub_self]
      rfl
    · rw [List.getElem?_append_left (by omega)]
      exact allZ_get size D FR hx m (by omega) (by omega)
end Go.Proofs.YtgcfkblmnpnogaaGreatDoor

namespace Go.Proofs.YtgcfkblmnpnogaaGreatDoor
open Go.RowKit Go.Lib

set_option maxRecDepth 100000 in
set_option maxHeartbeats 16000000 in
theorem Bytes_own (g size : Nat) (bs : List Nat) (D : List MetaV) (i c b : Int) (w : World) (h : BankAt w g bs size D) (hf : FitB bs size D) (hE : whereE D i c b = 0) :
    Calls Tryz.prog 21 #[.pointer (some ⟨g, 0, none⟩), .int .i64 i, .int .i64 c, .int .i64 b] w fun e w' => ∃ A c', e = .returned (.tuple #[.slice A size c', .int .i64 0]) ∧ size ≤ c' ∧ c' ≤ 9223372036854775807 ∧ w'.ownsRow 0 5 1 (.slice A size c') size (u8s (subB bs (whereAt D size i c b).toNat size)) ∧ Below w.heap.size w w' := by
  have HW := Lib.hid (Where_any g size bs D i c b w h hf)
  unfold WherePost at HW
  obtain ⟨x, hxD, hxe, chN, cn, bn, S, F, q, P, e1, rfl, rfl, e2, e3, hm1, hq, hP, hm2, l1, l2, _, b0, b1, hbc⟩ := where_lies hf hE
  have hA : whereAt D size i cn bn = ((F + P : Nat) : Int) := by
    unfold whereAt frameNo
    rw [if_pos hE, hxe, e1, e3, hm1, ← Int.natCast_add, hq, hm2]
    push_cast; rfl
  have hVb : whereSum D bs i cn bn < 4294967296 := by
    rw [show whereSum D bs i cn bn = readTo bs ((metaI D i).sums + 4 * frameNo D i cn bn).toNat 4 from if_pos hE]
    exact readTo_lt hf.byt _ 4
  rw [hA, hE] at HW
  obtain ⟨V, hV⟩ : ∃ V, whereSum D bs i cn bn = V := ⟨_, rfl⟩
  rw [hV] at HW hVb
  have HEn := Lib.hid hE
  obtain ⟨AT, hAT⟩ : ∃ AT, F + P = AT := ⟨_, rfl⟩
  rw [hAT] at HW hA l2
  have HAn := Lib.hid (show (whereAt D size i cn bn).toNat = AT by rw [hA]; rfl)
  rw [HAn.out]
  have hln := hf.long
  have hlo := hf.lo
  have hhi := hf.hi
  obtain ⟨Ai, ci, Ad, cd, h1, h2, _, h4, h5, _, _, _, _⟩ := h.at_
  obtain ⟨y0, hy0⟩ : ∃ y0, bs[0]? = some y0 := ⟨_, List.getElem?_eq_getElem (by omega)⟩
  obtain ⟨gi, off, rfl, _, _⟩ := h2 0 _ (u8s_get hy0)
  have HXc := Lib.hid (fun W (hW : Below w.heap.size w W) j v (hv : ([.slice (some ⟨gi, off, none⟩) bs.length ci, .int .i64 size, .slice Ad D.length cd] : List Value)[j]? = some v) => (show W.cell? ⟨g, j, none⟩ = some v from by
    have hB : Blk w g 130 [.slice (some ⟨gi, off, none⟩) bs.length ci, .int .i64 size, .slice Ad D.length cd] := h1
    rw [blk_cells (hB.below hW hB.lt) j]; exact hv))
  have HCl := Lib.hid (fun W (hW : Below w.heap.size w W) => (show Calls Tryz.prog 75 #[.slice (some ⟨gi, off + AT, none⟩) size (ci - AT)] W (CopyP W 5 1 size (u8s (subB bs AT size))) from by
    have hr := (((h2.later hW).drop_ AT).take size)
    rw [u8s_drop, u8s_take, subB_drop (by omega)] at hr
    exact cloneB_any (subB bs AT size) (some ⟨gi, off + AT, none⟩) size (ci - AT) W (subB_len _ _ _) (by omega) nofun hr))
  clear hE hxe hf h h1 h2 hxD hV hA e1 e2 e3 hm1 hq hP hm2 hAT hy0 b1 b0 HAn hbc l1
  generalize whereE D i cn bn = E at *
  generalize bs.length = n at *
  generalize D.length = dn at *
  have k1 : AT + size ≤ n := by omega
  have k2 : n ≤ ci := by omega
  have hati : (AT : Int) + (size : Int) = ((AT + size : Nat) : Int) := by push_cast; rfl
  have Hati := Lib.hid hati
  clear hati l2
  go_enter Tryz.func21, Tryz.ntmps21
  go_wp2_with (go_at_call 56; fail)
  refine HW.out.mono ?_
  rintro e w2 ⟨rfl, hb2⟩
  have B2 := Lib.hid hb2
  clear hb2
  go_wp2_with fail
  have x0 := fun (z : GW w2) => HXc.out z.1 (bnext B2.out z.2) 0 _ rfl
  have x1 := fun (z : GW w2) => HXc.out z.1 (bnext B2.out z.2) 1 _ rfl
  refine wp_region_calm_tail 12 (by kernel_rfl) (by kernel_rfl) ?_
  simp only [List.take_succ_cons, List.take_zero, List.drop_succ_cons, List.drop_zero]
  repeat (go_big_quiet_step (fail))
  refine wpQuiet_nil ?_
  intro w5 hw'
  have B5 := Lib.hid (gw_below hw')
  clear hw' x0 x1
  have HC5 := Lib.hid (HCl.out w5 (bnext B2.out B5.out))
  go_wp2_with (go_at_call 75; fail)
  refine HC5.out.mono ?_
  rintro e w6 ⟨A6, c6, rfl, h6c, h6m, h6n, hown, hb6⟩
  have R6 := Lib.hid (own_base hown (Nat.zero_le _))
  clear hown
  go_wp2
  refine bodyPost_ret (results_tmp2 Tryz.results21 _ _ _) rfl ?_
  exact ⟨A6, c6, rfl, h6c, h6m, R6.out, bnext (bnext B2.out B5.out) hb6⟩
theorem inf_row8 : (Tryz.prog.info? 29).map (fun i => (i.zero, i.size, i.bytes)) = some (some (.slice none 0 0), 1, 24) := by kernel_rfl
theorem FsAt.blk {w w' : World} {base g : Nat} {A : Option Addr} {c : Nat} {FR : List (List Nat)} {vs cs : List Value} {T : TypeId} (h : FsAt w base A c FR vs) (k : Blk w g T cs) (h1 : T ≠ 29) (h2 : T ≠ 5) (hg : w.grownBy w' (some g)) : FsAt w' base A c FR vs :=
  ⟨h.len, h.own.kept hg (.inr (own_ne h.own k h1).symm), fun j v f q1 q2 => by
    obtain ⟨a, k', e, h3, h4, h5⟩ := h.each j v f q1 q2
    exact ⟨a, k', e, h3, h4, h5.kept hg (.inr (own_ne h5 k h2).symm)⟩⟩
theorem RawAt.blk {w w' : World} {g : Nat} {p : HRaw × RawV} {cs : List Value} {T : TypeId} (h : RawAt w p) (k : Blk w g T cs) (h1 : T ≠ 29) (h2 : T ≠ 5) (hg : w.grownBy w' (some g)) : RawAt w' p := by
  obtain ⟨vs, h⟩ := h
  exact ⟨vs, h.blk k h1 h2 hg⟩
theorem grownBy_new {a w w' : World} {r row : Option Nat} (h : a.grownBy w r) (k : w.grownBy w' row) (hr : ∀ j, row = some j → a.heap.size ≤ j) : a.grownBy w' r :=
  ⟨k.os.trans h.os, k.tape.trans h.tape, k.output.trans h.output, Nat.le_trans h.size k.size, fun j hj hne => (k.block j (by have := h.size; omega) (fun e => by have := hr j e.symm; omega)).trans (h.block j hj hne)⟩
theorem kOf_at {size : Nat} {D : List MetaV} (hL : ∀ x ∈ D, GenM x) : ∀ m, m ≤ D.length → ((size * kOf D m : Nat) : Int) ≤ atTo size D m
  | 0, _ => by
    unfold atTo kOf
    rw [Nat.mul_zero]
    omega
  | m + 1, hm => by
    obtain ⟨x, hx⟩ : ∃ x, D[m]? = some x := ⟨_, List.getElem?_eq_getElem (by omega)⟩
    have ih := kOf_at (size := size) hL m (by omega)
    have hF := (hL x (List.mem_of_getElem? hx)).fr
    obtain ⟨F, hFn⟩ := Int.eq_ofNat_of_zero_le hF.1
    have hg := upZ16_ge (atTo size D m + 4 * framesN x)
    rw [atTo_succ hx, kOf_succ hx, hFn, Int.toNat_natCast, Nat.mul_add]
    rw [hFn] at hg
    have e : ((size * F : Nat) : Int) = (size : Int) * (F : Int) := by push_cast; rfl
    generalize (size : Int) * (F : Int) = P at *
    generalize size * F = Q at *
    generalize size * kOf D m = R at *
    push_cast
    omega
theorem CanB.few {size : Nat} {D : List MetaV} {FR : List (List Nat)} (h : CanB size D FR) : FR.length ≤ 400000 := by
  have h1 := kOf_at (size := size) h.gen D.length (Nat.le_refl _)
  have h2 := (h.bd D.length (Nat.le_refl _)).2
  rw [h.cnt] at h1
  have h3 := Nat.mul_le_mul_right FR.length h.lo
  generalize size * FR.length = Q at *
  omega
/-- what all leaves -/
def AllP (w : World) (Z : List RawV) (e : Ending) (w' : World) : Prop := ∃ A c L, e = .returned (.slice A (List.length L) c) ∧ List.map Prod.snd L = Z ∧ RawsAt w' w.heap.size A c L ∧ Below w.heap.size w w'
set_option maxRecDepth 100000 in
set_option maxHeartbeats 16000000 in
theorem all_any {size : Nat} {D : List MetaV} {FR : List (List Nat)} (hC : CanB size D FR) (g : Nat) (w : World) (hB : BankAt w g (bldZ size D FR) size (bldDir size D)) :
    Calls Tryz.prog 89 #[.pointer (some ⟨g, 0, none⟩)] w (AllP w (allZ size D FR D.length)) := by
  obtain ⟨i0, hi, ⟨z0, hz0, hz0s⟩, hi1, hi2⟩ := raw_info
  obtain ⟨iB, hiB, hzB0, hzB1, hzB2⟩ := info_parts inf_row8
  have HDi := Lib.hid (BDir_any hB (by have := hC.lo; omega) (by rw [bldDir_len]; exact hC.many))
  have HBy := Lib.hid (fun W i c b (hW : Below w.heap.size w W) hE => Bytes_own g size (bldZ size D FR) (bldDir size D) i c b W (hB.later hW) hC.fit hE)
  have HAs := Lib.hid (fun (m n c ch cz : Nat) (y : MetaV) a1 a2 a3 a4 a5 => hC.asked (m := m) (n := n) (c := c) (ch := ch) (cz := cz) (y := y) a1 a2 a3 a4 a5)
  have HRt := Lib.hid (fun x (h : x ∈ bldDir size D) => (hC.goodE x h).2)
  have HZs := Lib.hid (fun (m : Nat) x (h : (bldDir size D)[m]? = some x) => allZ_succ (FR := FR) h)
  have HZ0 := Lib.hid (show allZ size D FR 0 = [] from rfl)
  have HPg := Lib.hid (fun (m : Nat) y (h : D[m]? = some y) => bldDir_get (size := size) h)
  have Hlen := Lib.hid hC.len
  have HBk := Lib.hid hB
  have hlo := hC.lo
  have hhi := hC.hi
  have hmany := hC.many
  have HkL := Lib.hid (fun m x (h : (bldDir size D)[m]? = some x) => hC.at_ h)
  have HFl := Lib.hid hC.few
  rw [bldDir_len] at HDi
  have HPl := Lib.hid (bldDir_len size D)
  obtain ⟨nD, hnD⟩ : ∃ n, D.length = n := ⟨_, rfl⟩
  rw [hnD] at HDi HPl hmany ⊢
  have HnD := Lib.hid hnD
  generalize bldZ size D FR = Z at *
  generalize bldDir size D = PM at *
  clear hB hC hnD
  go_enter Tryz.func89, Tryz.ntmps89
  go_wp2_with (go_at_call 24; fail)
  refine HDi.out.mono ?_
  rintro e w1 ⟨Ad, cd, rfl, _, _, _, hown, hb1⟩
  have B1 := Lib.hid hb1
  have RD := Lib.hid (Row.of_own hown)
  clear hown hb1 HDi
  go_wp2_with fail
  go_loopw [3, 13] (fun o i wr => ∃ (m : Nat) (A' : Option Addr) (c' : Nat) (L : List (HRaw × RawV)), m ≤ nD ∧ i = .int .i64 m ∧ L.length = m ∧ o = .slice A' m c' ∧ L.map Prod.snd = allZ size D FR m ∧ RawsAt wr w1.heap.size A' c' L ∧ Below w1.heap.size w1 wr) (fun _ i _ => nD - (intOf i).toNat)
  case atStart => exact ⟨0, none, 0, [], by omega, rfl, rfl, rfl, rfl, ⟨World.ownsRow_nil _ _ _ _, nofun⟩, Below.refl _ _⟩
  case round =>
    obtain ⟨m, A', c', L, hm, rfl, hLm, rfl, hmap, hraws, hbel⟩ := hrel
    have HLm := Lib.hid hLm
    have Hmap := Lib.hid hmap
    have HRw := Lib.hid hraws
    have Hbel := Lib.hid hbel
    clear hLm hmap hraws hbel
    obtain ⟨wa, rfl⟩ : ∃ wa, wa = wr := ⟨_, rfl⟩
    by_cases hlt : m < nD
    · have t1 : (m : Int) < (nD : Int) := by omega
      have t2 : (0 : Int) ≤ (m : Int) := by omega
      obtain ⟨y, hy⟩ := list_get (k := m) HnD.out hlt
      have hx := HPg.out m y hy
      obtain ⟨x, hxe⟩ : ∃ x, plc size D m y = x := ⟨_, rfl⟩
      rw [hxe] at hx
      obtain ⟨bD, oD, rfl, hbD, hcD⟩ := meta_at (RD.out.later Hbel.out) hx
      have HX := Lib.hid hcD
      have hrt := HRt.out x (List.mem_of_getElem? hx)
      obtain ⟨⟨l1, l2⟩, _, ⟨l3, l4⟩, _, _⟩ := right_bds hrt
      obtain ⟨ch, hch⟩ := Int.eq_ofNat_of_zero_le (show 0 ≤ x.channels by omega)
      have hczb : 1 ≤ countZ x.length ∧ countZ x.length ≤ 65536 := by unfold countZ; split <;> omega
      obtain ⟨cz, hcz⟩ := Int.eq_ofNat_of_zero_le (show 0 ≤ countZ x.length by omega)
      have hyl : y.length = x.length ∧ y.channels = x.channels := by rw [← hxe]; exact ⟨rfl, rfl⟩
      obtain ⟨F0, S0, T, hq1, hq2, hxT, h1T, hkS, hkL, _⟩ := HkL.out m x hx
      clear hq1 hq2
      have HFr := Lib.hid (fun W => (show Calls Tryz.prog 17 #[.agg x.cells.toArray] W (fun e w' => e = .returned (.int .i64 (T : Nat)) ∧ Below W.heap.size W w') from by
        have := bankFrames_any x W (by omega) (by omega)
        rwa [hxT] at this))
      have HA2 := Lib.hid (fun (n c : Nat) (hn : n < cz) (hc : c < ch) => HAs.out m n c ch cz y hy (by rw [hyl.2]; exact hch) (by rw [hyl.1]; exact hcz) hn hc)
      have hTc : T = cz * ch := by
        have : framesN x = countZ x.length * x.channels := rfl
        rw [hxT, hch, hcz] at this
        have h2 : ((cz * ch : Nat) : Int) = (T : Int) := by rw [this]; push_cast; rfl
        omega
      have HZs1 := Lib.hid (HZs.out m x hx)
      rw [hxT, Int.toNat_natCast] at HZs1
      rw [hch] at l3 l4
      obtain ⟨nm, len, rate, chv, lp, f, t, s0, f0⟩ := x
      simp only at hch
      subst hch
      have k0 := hcD 0 _ rfl
      have k1 := hcD 1 _ rfl
      have k2 := hcD 2 _ rfl
      have k3 := hcD 3 _ rfl
      have k4 := hcD 4 _ rfl
      have k5 := hcD 5 _ rfl
      have k6 := hcD 6 _ rfl
      have k7 := hcD 7 _ rfl
      have k8 := hcD 8 _ rfl
      rw [Nat.add_zero] at k0
      have HMf := Lib.hid (show (Tryz.prog.info? 27).map (·.size) = some 9 by kernel_rfl)
      clear hy hx hxe hcD hbD hrt l1 l2 hcz hyl hxT HX
      go_wp2_with fail
      obtain ⟨xc, hxc⟩ : ∃ xc : List Value, [.string nm, .int .i64 len, .int .i64 rate, .int .i64 ch, .bool lp, .int .i64 f, .int .i64 t, .int .i64 s0, .int .i64 f0] = xc := ⟨_, rfl⟩
      have Hx3 := Lib.hid (show xc[3]? = some (.int .i64 ch) by rw [← hxc]; rfl)
      have Hx9 := Lib.hid (show xc.length = 9 by rw [← hxc]; rfl)
      have HXc := Lib.hid (show (⟨nm, len, rate, ch, lp, f, t, s0, f0⟩ : MetaV).cells = xc from hxc)
      obtain ⟨w5, hw5⟩ : ∃ w5, (wa.alloc (.cells #[.string nm, .int .i64 len, .int .i64 rate, .int .i64 ch, .bool lp, .int .i64 f, .int .i64 t, .int .i64 s0, .int .i64 f0] 27)).alloc (.cells #[.string nm, .int .i64 len, .int .i64 rate, .int .i64 ch, .bool lp, .int .i64 f, .int .i64 t, .int .i64 s0, .int .i64 f0, .slice none 0 0] 149) = w5 := ⟨_, rfl⟩
      rw [hw5]
      have Xm := Lib.hid (show Blk w5 wa.heap.size 27 xc by rw [← hw5, ← hxc]; exact (Blk.new wa _ [.string nm, .int .i64 len, .int .i64 rate, .int .i64 ch, .bool lp, .int .i64 f, .int .i64 t, .int .i64 s0, .int .i64 f0]).alloc _)
      have Xr := Lib.hid (show Blk w5 (wa.heap.size + 1) 149 (xc ++ [.slice none 0 0]) by
        rw [← hw5, ← hxc]
        have := Blk.new (wa.alloc (.cells #[.string nm, .int .i64 len, .int .i64 rate, .int .i64 ch, .bool lp, .int .i64 f, .int .i64 t, .int .i64 s0, .int .i64 f0] 27)) 149 [.string nm, .int .i64 len, .int .i64 rate, .int .i64 ch, .bool lp, .int .i64 f, .int .i64 t, .int .i64 s0, .int .i64 f0, .slice none 0 0]
        rw [World.size_alloc] at this
        exact this)
      have E5 := Lib.hid (show Below wa.heap.size wa w5 by rw [← hw5]; exact bnext (bnew wa _) (bnew _ _))
      have hz5 : w5.heap.size = wa.heap.size + 2 := by rw [← hw5]; simp
      have hal : ∀ ad, (Value.slice A' m c').ownBlock = some ad → ad < wa.heap.size := fun ad h => by
        have h2 := HRw.out.own
        rw [HLm.out] at h2
        exact own_row_lt h2 ad h
      have Hal := Lib.hid hal
      obtain ⟨gm, hgm⟩ : ∃ gm, wa.heap.size = gm := ⟨_, rfl⟩
      have E5' := Lib.hid (show Below gm wa w5 by rw [← hgm]; exact E5.out)
      rw [hgm] at Xm Xr Hal hz5 ⊢
      clear hw5 hxc k0 k1 k2 k3 k4 k5 k6 k7 k8 hal
      refine (HFr.out _).mono ?_
      rintro e w6 ⟨rfl, hb6⟩
      have E6 := Lib.hid (bnext E5.out hb6)
      have X6 := Lib.hid (Xm.out.below hb6 Xm.out.lt)
      have Y6 := Lib.hid (Xr.out.below hb6 Xr.out.lt)
      have hz6 := hb6.size
      have Hz6 := Lib.hid (show gm + 2 ≤ w6.heap.size by omega)
      have R6 := Lib.hid (HRw.out.below E6.out)
      obtain ⟨K, hK⟩ : ∃ K, kOf D m = K := ⟨_, rfl⟩
      rw [hK] at HA2 HZs1 hkL
      have HLk := Lib.hid (fun j (hj : j ≤ T) => (show ((FR.drop K).take j).length = j by rw [List.length_take, List.length_drop]; omega))
      have HTk := Lib.hid (fun (j : Nat) f (h : FR[K + j]? = some f) => (show (FR.drop K).take (j + 1) = (FR.drop K).take j ++ [f] from by
        rw [List.take_add_one, List.getElem?_drop, h]
        rfl))
      have hTb : T ≤ 400000 := by have := HFl.out; omega
      clear hb6 hz6 hz5 hK Xm Xr E5 E5'
      go_wp2_with fail
      go_loopw [22] (fun i wx => ∃ (j : Nat) (A2 : Option Addr) (c2 : Nat) (vs : List Value), j ≤ T ∧ i = .int .i64 j ∧ Blk wx (gm + 1) 149 (xc ++ [.slice A2 j c2]) ∧ FsAt wx w6.heap.size A2 c2 ((FR.drop K).take j) vs ∧ w6.grownBy wx (some (gm + 1))) (fun i _ => T - (intOf i).toNat)
      case atStart => exact ⟨0, none, 0, [], by omega, rfl, Y6.out, FsAt.nil _ _, World.grownBy.refl _ _⟩
      case round =>
        obtain ⟨j, A2, c2, vs, hj, rfl, hbk, hfs, hgr⟩ := hrel
        have HY := Lib.hid hbk
        have HF := Lib.hid hfs
        have HG := Lib.hid hgr
        clear hbk hfs hgr
        obtain ⟨wx, rfl⟩ : ∃ wx, wx = wr := ⟨_, rfl⟩
        have hszx := HG.out.size
        by_cases hlj : j < T
        · have t3 : (j : Int) < (T : Int) := by omega
          have hch0 : 0 < ch := by omega
          obtain ⟨q, hq⟩ : ∃ q, j / ch = q := ⟨_, rfl⟩
          obtain ⟨c, hc⟩ : ∃ c, j % ch = c := ⟨_, rfl⟩
          have hcl : c < ch := by rw [← hc]; exact Nat.mod_lt _ hch0
          have hqc : q * ch + c = j := by rw [← hq, ← hc, Nat.mul_comm]; exact Nat.div_add_mod j ch
          have hql : q < cz := by
            rw [← hq]
            exact Nat.div_lt_of_lt_mul (by rw [Nat.mul_comm, ← hTc]; exact hlj)
          obtain ⟨hE, _, _, _, fr, hf, hfl, hsub, _⟩ := HA2.out q c hql hcl
          rw [hqc] at hf
          have HTk1 := Lib.hid (HTk.out j fr hf)
          have hrem : ((j : Int)).tmod (ch : Int) = (c : Int) := by rw [← hc]; rfl
          have hquo : ((j : Int)).tdiv (ch : Int) = (q : Int) := by rw [← hq]; rfl
          have hqj : q ≤ j := by rw [← hq]; exact Nat.div_le_self _ _
          have hwq : IntKind.i64.wrap (q : Int) = (q : Int) := IntWalk.i64_in _ (by omega)
          have hwc : IntKind.i64.wrap (c : Int) = (c : Int) := IntWalk.i64_in _ (by omega)
          have u1 : ((ch : Int) == 0) = false := beq_eq_false_iff_ne.2 (by omega)
          have Xx := Lib.hid (Blk.grown X6.out HG.out (fun e => by injection e with e; omega))
          have x3 := fun (z : GW wx) => (show z.1.cell? ⟨gm, 3, none⟩ = some (.int .i64 ch) from (z.2.cell (p := ⟨gm, 3, none⟩) Xx.out.lt).trans ((Xx.out.cell 3).trans Hx3.out))
          have HB1 := Lib.hid (fun W hW => HBy.out W m c q hW hE)
          rw [hsub] at HB1
          have Hfl2 := Lib.hid hfl
          have HWx := Lib.hid (show Below w.heap.size w wx from by
            have h1 := bnext (bnext B1.out Hbel.out) E6.out
            exact h1.grown HG.out (by have := B1.out.size; have := Hbel.out.size; have := Hz6.out; omega) (fun k hk => by injection hk with hk; have := B1.out.size; have := Hbel.out.size; omega))
          clear hq hc hqc hql hE hf hfl hsub hcl hqj
          go_wp2_with fail
          refine wp_region_calm_head 10 #[true, true, true, true, true, true, true, true, true, true, false, false, false, false, false, false] (by kernel_rfl) (by kernel_rfl) ?_
          simp only [List.take_succ_cons, List.take_zero]
          repeat (go_big_quiet_step (fail))
          refine wpQuiet_nil ?_
          intro w7 hw'
          have B7 := Lib.hid (gw_below hw')
          clear hw' x3
          change wpAny _ _ _ _ 6 _ _ _
          refine wpAny_ready (rs := [10]) (by kernel_rfl) (by simp) ?_
          refine AllReady.cons rfl (fun K hK => ?_) AllReady.nil
          go_simp
          go_wp2_with (go_at_call 21; refine (HB1.out w7 (bnext HWx.out B7.out)).mono ?_; rintro e w8 ⟨Ab, cb, rfl, hcb1, hcb2, hownb, hb8⟩)
          refine wpAny_take (i := 11) (v := ?_) rfl (by kernel_rfl) (by kernel_rfl) (by kernel_rfl) (fun _ _ _ h => h) (Or.inl ⟨by rfl, ?_⟩) ?_
          rotate_left
          · intro w; go_simp; try (with_reducible rfl)
          simp only [Act.put, List.getElem_toArray, List.getElem_cons_succ, List.getElem_cons_zero, List.setIfInBounds_toArray, List.set_cons_succ, List.set_cons_zero]
          refine wpAny_take (i := 12) (v := ?_) rfl (by kernel_rfl) (by kernel_rfl) (by kernel_rfl) (fun _ _ _ h => h) (Or.inl ⟨by rfl, ?_⟩) ?_
          rotate_left
          · intro w; go_simp; try (with_reducible rfl)
          simp only [Act.put, List.getElem_toArray, List.getElem_cons_succ, List.getElem_cons_zero, List.setIfInBounds_toArray, List.set_cons_succ, List.set_cons_zero]
          refine wpAny_take (i := 13) (v := ?_) rfl (by kernel_rfl) (by kernel_rfl) (by kernel_rfl) (fun _ _ _ h => h) (Or.inl ⟨by rfl, ?_⟩) ?_
          rotate_left
          · intro w; go_simp; try (with_reducible rfl)
          simp only [Act.put, List.getElem_toArray, List.getElem_cons_succ, List.getElem_cons_zero, List.setIfInBounds_toArray, List.set_cons_succ, List.set_cons_zero]
          refine wpAny_take (i := 14) (v := ?_) rfl (by kernel_rfl) (by kernel_rfl) (by kernel_rfl) (fun _ _ _ h => h) (Or.inl ⟨by rfl, ?_⟩) ?_
          rotate_left
          · intro w; go_simp; try (with_reducible rfl)
          simp only [Act.put, List.getElem_toArray, List.getElem_cons_succ, List.getElem_cons_zero, List.setIfInBounds_toArray, List.set_cons_succ, List.set_cons_zero]
          refine wpAny_take (i := 15) (v := ?_) rfl (by kernel_rfl) (by kernel_rfl) (by kernel_rfl) (fun _ _ _ h => h) (Or.inl ⟨by rfl, ?_⟩) ?_
          rotate_left
          · intro w; go_simp; try (with_reducible rfl)
          simp only [Act.put, List.getElem_toArray, List.getElem_cons_succ, List.getElem_cons_zero, List.setIfInBounds_toArray, List.set_cons_succ, List.set_cons_zero]
          refine wpAny_done (by kernel_rfl) ?_ _
          have B8 := Lib.hid (bnext B7.out hb8)
          have Y8 := Lib.hid (HY.out.below B8.out HY.out.lt)
          have F8 := Lib.hid (HF.out.below B8.out)
          have G8 := Lib.hid (grownBy_below HG.out B8.out)
          have hsz8 := B8.out.size
          have O8 := Lib.hid hownb
          have HLj := Lib.hid (HLk.out j hj)
          have own8 := F8.out.own
          rw [HLj.out] at own8
          have Own8 := Lib.hid own8
          have y9 := (Y8.out.cell 9).trans (show (xc ++ [.slice A2 j c2])[9]? = some (.slice A2 j c2) by rw [List.getElem?_append_right (by rw [Hx9.out]; exact Nat.le_refl _), Hx9.out]; rfl)
          clear hownb own8 hb8 HB1
          go_wp2_with (at_builtin; refine wpList_app _ rfl (.tmp 40) (.tmp 42) 23 rfl w6.heap.size 29 iB (.slice none 0 0) 1 24 Tryz.underlying23 hiB hzB0 hzB1 hzB2 rfl (by omega) (.slice A2 j c2) j vs rfl (Own8.out.alloc _) (w8.heap.size + 1) (some ⟨w8.heap.size, 0, none⟩) 1 1 [.slice Ab size cb] rfl rfl (Row.new w8 _ [.slice Ab size cb]) (fun u hu => by rw [List.mem_singleton] at hu; rw [hu]; rfl) (by omega) (by omega) (by simp; omega) ?_; intro A9 c9 w9 hown9 hgr9 hat9 hcc9; have X9 := Lib.hid (Blk.grown (Y8.out.alloc (.cells #[.slice Ab size cb] 29)) hgr9 (own_ne (Own8.out.alloc _) (Y8.out.alloc (.cells #[.slice Ab size cb] 29)) (by decide))); have z9 := (X9.out.cell 9).trans (show (xc ++ [.slice A2 j c2])[9]? = some (.slice A2 j c2) by rw [List.getElem?_append_right (by rw [Hx9.out]; exact Nat.le_refl _), Hx9.out]; rfl); have f9 := blk_free X9.out 9)
          go_roundw
          case rel =>
            have h1 := F8.out.below (bnew w8 (.cells #[.slice Ab size cb] 29))
            have h2 := h1.push (f := fr) (a := Ab) (k := cb) (by rw [Hfl2.out]; exact hcb1) hcb2 (by rw [Hfl2.out]; exact O8.out.alloc _) (A' := A9) (c' := c9) (by rw [HLj.out, Hfl2.out]; exact hown9) (by rw [HLj.out]; exact hgr9)
            rw [Hfl2.out, ← HTk1.out] at h2
            refine ⟨j + 1, A9, c9, vs ++ [.slice Ab size cb], by omega, by go_num, ?_, h2.blk X9.out (by decide) (by decide) (grownBy_setB (World.grownBy.refl _ _) _ _), ?_⟩
            · have h3 := Blk.set_ X9.out 9 (.slice A9 (j + 1) c9)
              rw [List.set_append_right _ _ (by rw [Hx9.out]; exact Nat.le_refl _), Hx9.out] at h3
              exact h3
            · exact grownBy_setB (grownBy_new (grownBy_allocR G8.out _) hgr9 (fun k hk => own_block_ge Own8.out k hk)) _ _
          case measure => first | (simp [intOf]; done) | (simp [intOf]; omega)
        · have hjT : j = T := by omega
          subst hjT
          have t3 : ¬ ((j : Int) < (j : Int)) := by omega
          have HLj := Lib.hid (HLk.out j hj)
          obtain ⟨p, hp⟩ : ∃ p : HRaw × RawV, (⟨⟨A2, c2⟩, ⟨⟨nm, len, rate, ch, lp, f, t, s0, f0⟩, (FR.drop K).take j⟩⟩ : HRaw × RawV) = p := ⟨_, rfl⟩
          have hpc : rawC p = xc ++ [.slice A2 j c2] := by
            have h1 : rawC p = (⟨nm, len, rate, ch, lp, f, t, s0, f0⟩ : MetaV).cells ++ [.slice A2 ((FR.drop K).take j).length c2] := by rw [← hp]; rfl
            rw [h1, HLj.out, HXc.out]
          have hp2 : p.2 = ⟨⟨nm, len, rate, ch, lp, f, t, s0, f0⟩, (FR.drop K).take j⟩ := by rw [← hp]
          have hpr : RawAt wx p := by
            rw [← hp]
            exact ⟨vs, HF.out.len, own_base HF.out.own (Nat.zero_le _), HF.out.each⟩
          have Hp2 := Lib.hid hp2
          have Hpr := Lib.hid hpr
          have own6 := R6.out.own
          rw [HLm.out] at own6
          have Own := Lib.hid (own6.kept HG.out (by
            rcases hq : (Value.slice A' m c').ownBlock with _ | k
            · exact .inl rfl
            · right
              intro e
              injection e with e
              have := Hal.out k hq
              omega))
          have HEa := Lib.hid (fun q hq => (R6.out.each q hq).blk Y6.out (by decide) (by decide) HG.out)
          have hpl : (rawC p).length = 10 := rawC_len p
          have Hp1 := Lib.hid (rawC_one p)
          have Hcs := Lib.hid (rawsC_snoc L p)
          rw [← hpc] at HY
          obtain ⟨pc, hpce⟩ : ∃ pc, rawC p = pc := ⟨_, rfl⟩
          rw [hpce] at HY Hp1 Hcs hpl
          have Hpl := Lib.hid hpl
          have Hps := Lib.hid (show pc.toArray.size = 10 by rw [List.size_toArray, hpl])
          have HFp := Lib.hid (show (Tryz.prog.info? 149).map (·.size) = some pc.toArray.size by rw [Hps.out]; exact inf_raw)
          have hm64 : m + 1 ≤ 65 := by omega
          clear hp hpc hp2 hpr own6 hpl hpce HF
          have hszx2 := HG.out.size
          have hB5 := Hbel.out.size
          have hE6 := E6.out.size
          go_wp2_with (first | (refine wpList_load_row_w rfl 149 (.tmp 6) rfl (gm + 1) rfl _ pc.toArray _ _ HY.out Tryz.underlying149 rfl HFp.out ?_) | (refine wpList_build_one rfl 145 149 (.tmp 47) rfl i0 z0 10 Tryz.underlying145 hi hz0 hi1 (by omega) (by omega) pc.toArray rfl Hps.out ?_) | (at_builtin; refine wpList_app _ rfl (.tmp 46) (.tmp 48) 145 rfl w1.heap.size 149 i0 z0 10 104 Tryz.underlying145 hi hz0 hi1 hi2 hz0s (by omega) (.slice A' m c') m (rawsC L) rfl (Own.out.alloc _) (wx.heap.size + 1) (some ⟨wx.heap.size, 0, none⟩) 1 1 pc rfl (by rw [Hpl.out]) (Row.new wx _ pc) Hp1.out (by omega) (by omega) (by simp; omega) ?_; intro A9 c9 w9 hown9 hgr9 hat9 hcc9))
          go_roundw
          case rel =>
            have hb9 : Below w1.heap.size w1 w9 := by
              have h1 := bnext Hbel.out E6.out
              have h2 := h1.grown HG.out (by omega) (fun k hk => by injection hk with hk; omega)
              exact (h2.alloc (by omega) (.cells pc.toArray 149)).grown hgr9 (by simp; omega) (fun k hk => own_block_ge Own.out k hk)
            refine ⟨m + 1, A9, c9, L ++ [p], by omega, by go_num, by simp [HLm.out], rfl, ?_, ⟨?_, fun q hq => ?_⟩, hb9⟩
            · rw [List.map_append, Hmap.out, HZs1.out]
              show _ ++ [p.2] = _
              rw [Hp2.out]
            · rw [show (L ++ [p]).length = m + 1 by simp [HLm.out], Hcs.out]
              exact hown9
            · have hfar := fun (q : HRaw × RawV) (h : RawAt wx q) => (h.below (bnew wx (.cells pc.toArray 149))).far (Own.out.alloc (.cells pc.toArray 149)) (by decide) (by decide) hgr9
              rcases List.mem_append.1 hq with h | h
              · exact hfar q (HEa.out q h)
              · rw [List.mem_singleton] at h; rw [h]; exact hfar p Hpr.out
          case measure => first | (simp [intOf]; done) | (simp [intOf]; omega)
    · have hmn : m = nD := by omega
      subst hmn
      have t1 : ¬ ((m : Int) < (m : Int)) := by omega
      go_wp2
      go_ret
      exact ⟨A', c', L, by rw [HLm.out]; rfl, Hmap.out, ⟨own_base HRw.out.own B1.out.size, HRw.out.each⟩, bnext B1.out Hbel.out⟩
end Go.Proofs.YtgcfkblmnpnogaaGreatDoor

namespace Go.Proofs.YtgcfkblmnpnogaaGreatDoor
open Go.RowKit Go.Lib

/-- where a name is among samples, or where it would be -/
def atZ (Z : List RawV) (nm : ByteArray) : Nat := (Z.takeWhile fun r => nameLt r.m.name nm).length
def atB (Z : List RawV) (nm : ByteArray) : Bool := match Z[atZ Z nm]? with
  | some r => r.m.name.toList == nm.toList
  | none => false
theorem atZ_eq {Z : List RawV} {nm : ByteArray} : ∀ {k : Nat}, k ≤ Z.length → (∀ t r, t < k → Z[t]? = some r → nameLt r.m.name nm = true) → (∀ r, Z[k]? = some r → nameLt r.m.name nm = false) → atZ Z nm = k := by
  unfold atZ
  induction Z with
  | nil =>
    intro k hk _ _
    have : k = 0 := by simpa using hk
    subst this
    rfl
  | cons x r ih =>
    intro k hk h1 h2
    cases k with
    | zero =>
      have := h2 x rfl
      rw [List.takeWhile_cons, if_neg (by rw [this]; decide)]
      rfl
    | succ k =>
      have := h1 0 x (by omega) rfl
      rw [List.takeWhile_cons, if_pos this, List.length_cons, ih (by simpa using hk) (fun t r ht hr => h1 (t + 1) r (by omega) (by simpa using hr)) (fun r hr => h2 r (by simpa using hr))]
theorem atZ_le (Z : List RawV) (nm : ByteArray) : atZ Z nm ≤ Z.length := by
  unfold atZ
  exact List.Sublist.length_le (List.takeWhile_sublist _)
set_option maxRecDepth 100000 in
set_option maxHeartbeats 4000000 in
theorem at_any (L : List (HRaw × RawV)) (A : Option Addr) (c : Nat) (nm : ByteArray) (w : World) (hL : L.length ≤ 1000) (hr : Row w w.heap.size A (rawsC L)) :
    Calls Tryz.prog 90 #[.slice A L.length c, .string nm] w fun e w' => e = .returned (.tuple #[.int .i64 (atZ (L.map Prod.snd) nm), .bool (atB (L.map Prod.snd) nm)]) ∧ Below w.heap.size w w' := by
  have HE := Lib.hid (fun (k : Nat) h1 h2 h3 => atZ_eq (Z := L.map Prod.snd) (nm := nm) (k := k) h1 h2 h3)
  have HB := Lib.hid (show atB (L.map Prod.snd) nm = match (L.map Prod.snd)[atZ (L.map Prod.snd) nm]? with | some r => r.m.name.toList == nm.toList | none => false from rfl)
  have HG := Lib.hid (fun (k : Nat) p (h : L[k]? = some p) => (show (L.map Prod.snd)[k]? = some p.2 from by rw [List.getElem?_map, h]; rfl))
  have Hr := Lib.hid hr
  have Hml := Lib.hid ((show (L.map Prod.snd).length = L.length from List.length_map _))
  obtain ⟨n, hn⟩ : ∃ n, L.length = n := ⟨_, rfl⟩
  rw [hn] at hL Hml ⊢
  have Hn := Lib.hid hn
  clear hr hn
  go_enter Tryz.func90, Tryz.ntmps90
  go_wp2_with fail
  go_loopw [6] (fun i wr => ∃ k : Nat, k ≤ n ∧ i = .int .i64 k ∧ (∀ t r, t < k → (L.map Prod.snd)[t]? = some r → nameLt r.m.name nm = true) ∧ Below w.heap.size w wr) (fun i _ => n - (intOf i).toNat)
  case atStart => exact ⟨0, by omega, rfl, fun t r h => absurd h (Nat.not_lt_zero _), Below.refl _ _⟩
  case round =>
    obtain ⟨k, hk, rfl, hq, hbel⟩ := hrel
    have Hbel := Lib.hid hbel
    have Hq := Lib.hid hq
    clear hbel hq
    by_cases hlt : k < n
    · have t1 : (k : Int) < (n : Int) := by omega
      have t2 : (0 : Int) ≤ (k : Int) := by omega
      obtain ⟨p, hp⟩ := list_get (k := k) Hn.out hlt
      obtain ⟨b, off, rfl, hb, hc⟩ := raw_at (Hr.out.later Hbel.out) hp
      have c0 := hc 0 _ (show (rawC p)[0]? = some (.string p.2.m.name) from rfl)
      rw [Nat.add_zero] at c0
      have Hg := Lib.hid (HG.out k p hp)
      have x0 := fun (z : GW wr) => (z.2.cell (p := ⟨b, off + k * 10, none⟩) hb).trans c0
      obtain ⟨x, hx⟩ : ∃ x, p.2.m.name = x := ⟨_, rfl⟩
      rw [hx] at c0 x0
      have Hx := Lib.hid hx
      have hbl := bytesLess_nm x nm
      obtain ⟨lb, hlb⟩ : ∃ lb, nameLt x nm = lb := ⟨_, rfl⟩
      rw [hlb] at hbl
      have Hlb := Lib.hid hlb
      clear hp hc hx hb hlb
      cases lb with
      | true =>
        clear x0
        have Hq2 := Lib.hid (show ∀ t r, t < k + 1 → (L.map Prod.snd)[t]? = some r → nameLt r.m.name nm = true from fun t r ht hr => by
          by_cases htk : t = k
          · subst htk
            rw [Hg.out] at hr
            injection hr with hr
            rw [← hr, Hx.out, Hlb.out]
          · exact Hq.out t r (by omega) hr)
        go_wp2
        go_roundw
        case rel => exact ⟨k + 1, by omega, by go_num, Hq2.out, Hbel.out⟩
        case measure => simp [intOf]; omega
      | false =>
        have hat := HE.out k (by rw [Hml.out]; omega) Hq.out (fun r hr => by
          rw [Hg.out] at hr
          injection hr with hr
          rw [← hr, Hx.out, Hlb.out])
        have hb2 := HB.out
        rw [hat, Hg.out] at hb2
        have hb2 : atB (L.map Prod.snd) nm = (p.2.m.name.toList == nm.toList) := hb2
        rw [Hx.out] at hb2
        obtain ⟨qb, hqb⟩ : ∃ qb, (x.toList == nm.toList) = qb := ⟨_, rfl⟩
        rw [hqb] at hb2
        have Hat := Lib.hid hat
        have Hb2 := Lib.hid hb2
        have t3 : decide ((k : Int) < (n : Int)) = true := decide_eq_true t1
        clear hat hb2
        go_wp2_with fail
        refine wp_region_calm (by kernel_rfl) (by kernel_rfl) ?_
        repeat (go_big_quiet_step (fail))
        refine wpQuiet_nil ?_
        intro w6 hw'
        have B6 := Lib.hid (gw_below hw')
        clear hw' x0 c0
        go_wp2
        refine bodyPost_ret (results_tmp2 Tryz.results90 _ _ _) rfl ?_
        exact ⟨by rw [Hat.out, Hb2.out]; rfl, bnext Hbel.out B6.out⟩
    · have hkn : k = n := by omega
      subst hkn
      have t1 : ¬ ((k : Int) < (k : Int)) := by omega
      have t3 : decide ((k : Int) < (k : Int)) = false := decide_eq_false t1
      have hat := HE.out k (by rw [Hml.out]; omega) Hq.out (fun r hr => absurd (List.getElem?_eq_some_iff.1 hr).1 (by rw [Hml.out]; omega))
      have hb2 := HB.out
      rw [hat, List.getElem?_eq_none (by rw [Hml.out]; omega)] at hb2
      have hb2 : atB (L.map Prod.snd) nm = false := hb2
      have Hat := Lib.hid hat
      have Hb2 := Lib.hid hb2
      clear hat hb2
      go_wp2_with fail
      refine wp_region_calm (by kernel_rfl) (by kernel_rfl) ?_
      repeat (go_big_quiet_step (fail))
      refine wpQuiet_nil ?_
      intro w6 hw'
      have B6 := Lib.hid (gw_below hw')
      clear hw'
      go_wp2
      refine bodyPost_ret (results_tmp2 Tryz.results90 _ _ _) rfl ?_
      exact ⟨by rw [Hat.out, Hb2.out]; rfl, bnext Hbel.out B6.out⟩
theorem inf_strR : (Tryz.prog.info? 9).map (fun i => (i.zero, i.size, i.bytes)) = some (some (.string ⟨#[]⟩), 1, 16) := by kernel_rfl
/-- what Names leaves -/
def NamesP (w : World) (N : List ByteArray) (e : Ending) (w' : World) : Prop := ∃ A c, e = .returned (.slice A N.length c) ∧ Row w' w'.heap.size A (N.map (.string)) ∧ Below w.heap.size w w'
set_option maxRecDepth 100000 in
set_option maxHeartbeats 4000000 in
theorem Names29_any {g size : Nat} {bs : List Nat} {D : List MetaV} {w : World} (h : BankAt w g bs size D) (hs : 0 < size) (hD : D.length ≤ 64) :
    Calls Tryz.prog 66 #[.pointer (some ⟨g, 0, none⟩)] w (NamesP w (D.map (·.name))) := by
  obtain ⟨iS, hiS, hzS0, hzS1, hzS2⟩ := info_parts inf_strR
  have HDi := Lib.hid (BDir_any h hs hD)
  have HTk := Lib.hid (fun (m : Nat) x (h : D[m]? = some x) => (show ((D.map (·.name)).map Value.string).take (m + 1) = ((D.map (·.name)).map Value.string).take m ++ [.string x.name] from by
    rw [List.take_add_one, List.getElem?_map, List.getElem?_map, h]
    rfl))
  have HT0 := Lib.hid (show ((D.map (·.name)).map Value.string).take 0 = [] from rfl)
  have HTn := Lib.hid (show ((D.map (·.name)).map Value.string).take D.length = (D.map (·.name)).map Value.string from List.take_of_length_le (by simp))
  have Hl := Lib.hid (show (D.map (·.name)).length = D.length from List.length_map _)
  obtain ⟨n, hn⟩ : ∃ n, D.length = n := ⟨_, rfl⟩
  rw [hn] at HDi hD HTn Hl
  have Hn := Lib.hid hn
  generalize D.map (·.name) = NM at *
  obtain ⟨VS, hVS⟩ : ∃ VS, NM.map Value.string = VS := ⟨_, rfl⟩
  have HVS := Lib.hid hVS
  rw [hVS] at HTk HT0 HTn
  clear hVS
  clear h hn
  go_enter Tryz.func66, Tryz.ntmps66
  go_wp2_with (go_at_call 24; fail)
  refine HDi.out.mono ?_
  rintro e w1 ⟨Ad, cd, rfl, _, _, _, hown, hb1⟩
  have B1 := Lib.hid hb1
  have RD := Lib.hid (Row.of_own hown)
  clear hown hb1 HDi
  go_wp2_with fail
  go_loopw [3, 9] (fun o i wr => ∃ (m : Nat) (A' : Option Addr) (c' : Nat), m ≤ n ∧ i = .int .i64 m ∧ o = .slice A' m c' ∧ wr.ownsRow w1.heap.size 9 1 (.slice A' m c') m (VS.take m) ∧ Below w1.heap.size w1 wr) (fun _ i _ => n - (intOf i).toNat)
  case atStart => exact ⟨0, none, 0, by omega, rfl, rfl, by rw [HT0.out]; exact World.ownsRow_nil _ _ _ _, Below.refl _ _⟩
  case round =>
    obtain ⟨m, A', c', hm, rfl, rfl, hown, hbel⟩ := hrel
    have Hown := Lib.hid hown
    have Hbel := Lib.hid hbel
    clear hown hbel
    by_cases hlt : m < n
    · have t1 : (m : Int) < (n : Int) := by omega
      have t2 : (0 : Int) ≤ (m : Int) := by omega
      obtain ⟨x, hx⟩ := list_get (k := m) Hn.out hlt
      obtain ⟨b, off, rfl, hbl, hcl⟩ := meta_at (RD.out.later Hbel.out) hx
      have HTk1 := Lib.hid (HTk.out m x hx)
      obtain ⟨nm, len, rate, ch, lp, f, t, sums, first⟩ := x
      have k0 := hcl 0 _ rfl
      have k1 := hcl 1 _ rfl
      have k2 := hcl 2 _ rfl
      have k3 := hcl 3 _ rfl
      have k4 := hcl 4 _ rfl
      have k5 := hcl 5 _ rfl
      have k6 := hcl 6 _ rfl
      have k7 := hcl 7 _ rfl
      have k8 := hcl 8 _ rfl
      rw [Nat.add_zero] at k0
      obtain ⟨w5, hw5⟩ : ∃ w5, wr.alloc (.cells #[.string nm, .int .i64 len, .int .i64 rate, .int .i64 ch, .bool lp, .int .i64 f, .int .i64 t, .int .i64 sums, .int .i64 first] 27) = w5 := ⟨_, rfl⟩
      have Y5 := Lib.hid (show Blk w5 wr.heap.size 27 [.string nm, .int .i64 len, .int .i64 rate, .int .i64 ch, .bool lp, .int .i64 f, .int .i64 t, .int .i64 sums, .int .i64 first] by rw [← hw5]; exact Blk.new wr _ [.string nm, .int .i64 len, .int .i64 rate, .int .i64 ch, .bool lp, .int .i64 f, .int .i64 t, .int .i64 sums, .int .i64 first])
      have B5 := Lib.hid (show Below wr.heap.size wr w5 by rw [← hw5]; exact bnew wr _)
      have y0 := Y5.out.cell 0
      have hB := Hbel.out.size
      have h5 := B5.out.size
      have O5 := Lib.hid (own_below Hown.out B5.out)
      clear hcl hx hbl
      go_wp2_with (at_builtin; refine wpList_app _ rfl (.tmp 13) (.tmp 16) 119 rfl w1.heap.size 9 iS (.string ⟨#[]⟩) 1 16 Tryz.underlying119 hiS hzS0 hzS1 hzS2 rfl (by omega) (.slice A' m c') m (VS.take m) rfl (O5.out.alloc _) (w5.heap.size + 1) (some ⟨w5.heap.size, 0, none⟩) 1 1 [.string nm] rfl rfl (Row.new w5 _ [.string nm]) (fun u hu => by rw [List.mem_singleton] at hu; rw [hu]; rfl) (by omega) (by omega) (by simp; omega) ?_; intro A9 c9 w9 hown9 hgr9 hat9 hcc9)
      go_roundw
      case rel => exact ⟨m + 1, A9, c9, by omega, by go_num, rfl, by rw [HTk1.out]; exact hown9, ((bnext Hbel.out B5.out).alloc (by omega) _).grown hgr9 (by simp; omega) (fun k hk => own_block_ge Hown.out k hk)⟩
      case measure => first | (simp [intOf]; done) | (simp [intOf]; omega)
    · have hmn : m = n := by omega
      subst hmn
      have t1 : ¬ ((m : Int) < (m : Int)) := by omega
      have hown := Hown.out
      rw [HTn.out] at hown
      have HR := Lib.hid (Row.of_own hown)
      clear hown
      go_wp2
      go_ret
      exact ⟨A', c', by rw [Hl.out]; rfl, by rw [HVS.out]; exact HR.out, bnext B1.out Hbel.out⟩
end Go.Proofs.YtgcfkblmnpnogaaGreatDoor
