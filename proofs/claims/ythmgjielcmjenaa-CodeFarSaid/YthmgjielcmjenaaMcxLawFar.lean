/- LawFar. Conditions: as each theorem states. -/
import Derived.Test.YthmgjielcmjenaaMc50
import Derived.Test.YthmgjielcmjenaaMc19
import Derived.Test.YthmgjielcmjenaaMc22

namespace Go.Proofs.Ythmgjielcmjenaa
open Go.RowKit

theorem ints_arg {w : World} {v : Value} (h : Arg w (.slice 1 (.int .i64)) v) : ∃ (l : List Int) (A : Option Addr) (cap : Nat), v = .slice A l.length cap ∧ l.length ≤ 9223372036854775807 ∧ I64s l ∧ Row w w.heap.size A (l.map (.int .i64)) := by
  obtain ⟨v', xs, hc, hi, h64⟩ := ints_of_shape h
  obtain ⟨a, cap, rfl, h1, h2, h3⟩ := hi
  have hv : v = .slice a xs.length cap := by simpa using hc
  exact ⟨xs, a, cap, hv, by omega, h64, h3⟩
theorem few_small {l : List Int} (h : ∀ x ∈ l, -32768 ≤ x ∧ x ≤ 32767) : Small l := fun k x hx => by
  have := h x (List.mem_of_getElem? hx)
  omega

set_option maxRecDepth 100000 in
set_option maxHeartbeats 8000000 in
theorem CodeFar_walk (a b : List Int) (A B : Option Addr) (ca cb : Nat) (n : Int) (w : World) (hla : a.length ≤ 9223372036854775807) (hlb : b.length ≤ 9223372036854775807) (ha64 : I64s a) (hb64 : I64s b)
    (hra : Row w w.heap.size A (a.map (.int .i64))) (hrb : Row w w.heap.size B (b.map (.int .i64))) (hn1 : -9223372036854775808 ≤ n) (hn2 : n ≤ 9223372036854775807) :
    Calls Try.prog 7 #[.slice A a.length ca, .slice B b.length cb, .int .i64 n] w fun e w' => e = .returned (.bool true) ∧ Below w.heap.size w w' := by
  have HA := Lib.hid (Few13_any a A ca w hla ha64 hra)
  have HB := Lib.hid (fun W (hW : Below w.heap.size w W) => Few13_any b B cb W hlb hb64 (hrb.later hW))
  have hx := few13_bd a
  have hy := few13_bd b
  have hlx := few13_len a
  have hly := few13_len b
  have HW := Lib.hid (fun W => awake13_any W)
  generalize a.length = na at *
  generalize b.length = nb at *
  generalize few13 a = X at *
  generalize few13 b = Y at *
  obtain ⟨p, hp⟩ : ∃ p, X.length = p := ⟨_, rfl⟩
  obtain ⟨q, hq⟩ : ∃ q, Y.length = q := ⟨_, rfl⟩
  have HF := Lib.hid (fun A B ca cb W (r1 : Row W W.heap.size A (X.map (.int .i64))) (r2 : Row W W.heap.size B (Y.map (.int .i64))) => (show Calls Try.prog 42 #[.slice A p ca, .slice B q cb] W fun e w' => e = .returned (.tuple #[.int .i64 (farM X Y (min p q)), .int .i64 (cntM X Y (min p q))]) ∧ Below W.heap.size W w' from by
    have := Far_any X Y A B ca cb (min p q) W (by rw [hp, hq]) (by omega) (few_small hx) (few_small hy) r1 r2
    rw [hp, hq] at this
    exact this))
  have HN := Lib.hid (fun W => codeNew_any 30 W (by omega) (by omega))
  have HR := Lib.hid (fun g W (hg : CoderAt W g 30) => Rate_any g 30 n W hg (by omega) (by omega))
  have HFb := Lib.hid (fun m h1 h2 => farM_bd (few_small hx) (few_small hy) m h1 h2)
  have Hx := Lib.hid hx
  have Hy := Lib.hid hy
  have Hp := Lib.hid hp
  have Hq := Lib.hid hq
  unfold GapPost at HA HB
  simp only [hp, hq] at HA HB
  rw [hp] at hlx
  rw [hq] at hly
  clear hra hrb ha64 hb64 hla hlb hp hq hx hy
  go_enter Try.func7, Try.ntmps7
  go_wp2_with (go_at_call 29; fail)
  refine HA.out.mono ?_
  rintro e w1 ⟨A1, c1, rfl, _, _, r1, hb1⟩
  have R1 := Lib.hid r1
  have E1 := Lib.hid hb1
  have HB1 := Lib.hid (HB.out w1 hb1)
  clear r1 hb1 HA HB
  go_wp2_with (go_at_call 29; fail)
  refine HB1.out.mono ?_
  rintro e w2 ⟨B2, c2, rfl, _, _, r2, hb2⟩
  have R2 := Lib.hid (R1.out.later hb2)
  have S2 := Lib.hid r2
  have E2 := Lib.hid (bnext E1.out hb2)
  clear r2 hb2 R1 E1 HB1
  go_wp2_with fail
  go_loopw [7, 8, 9] (fun f c i wr => ∃ m : Nat, m ≤ min p q ∧ i = .int .i64 m ∧ f = .int .i64 (farM X Y m) ∧ c = .int .i64 (cntM X Y m) ∧ Below w2.heap.size w2 wr) (fun _ _ i _ => min p q - (intOf i).toNat)
  case atStart => exact ⟨0, by omega, rfl, rfl, rfl, Below.refl _ _⟩
  case round =>
    obtain ⟨m, hm, rfl, rfl, rfl, hbel⟩ := hrel
    have Hbel := Lib.hid hbel
    by_cases hlk : m < min p q
    · have t2 : (m : Int) < (p : Int) := by omega
      have t3 : (m : Int) < (q : Int) := by omega
      obtain ⟨x, hx⟩ := list_get (k := m) Hp.out (by omega)
      obtain ⟨y, hy⟩ := list_get (k := m) Hq.out (by omega)
      obtain ⟨ga, oa, hA, hga, k0⟩ := R2.out m (.int .i64 x) (by rw [List.getElem?_map, hx]; rfl)
      obtain ⟨gb, ob, hB, hgb, k1⟩ := S2.out m (.int .i64 y) (by rw [List.getElem?_map, hy]; rfl)
      subst hA hB
      have x5 := fun (v : GW wr) => ((hbel.trans (v.2.mono hbel.size)).cell (p := ⟨ga, oa + m, none⟩) hga).trans k0
      have y5 := fun (v : GW wr) => ((hbel.trans (v.2.mono hbel.size)).cell (p := ⟨gb, ob + m, none⟩) hgb).trans k1
      have hxb := Hx.out x (List.mem_of_getElem? hx)
      have hyb := Hy.out y (List.mem_of_getElem? hy)
      have HSf := Lib.hid (show farM X Y (m + 1) = max (farM X Y m) (absZ (x - y)) by rw [← bgt_get hx, ← bgt_get hy]; rfl)
      have HSc := Lib.hid (show cntM X Y (m + 1) = if 0 < absZ (x - y) then cntM X Y m + 1 else cntM X Y m by rw [← bgt_get hx, ← bgt_get hy]; rfl)
      have hcb := cntM_bd X Y m
      have hwr : IntKind.i64.wrap (x - y) = x - y := IntWalk.i64_in _ (by omega)
      have hwn : IntKind.i64.wrap (-(x - y)) = -(x - y) := IntWalk.i64_in _ (by omega)
      have hcase : (x - y < 0 ∧ absZ (x - y) = -(x - y)) ∨ (¬ x - y < 0 ∧ absZ (x - y) = x - y) := by
        unfold absZ
        rw [if_neg (by omega)]
        by_cases h : x - y < 0
        · exact .inl ⟨h, if_pos h⟩
        · exact .inr ⟨h, if_neg h⟩
      generalize absZ (x - y) = ax at *
      generalize farM X Y m = fa at *
      generalize cntM X Y m = cn at *
      have hwc : IntKind.i64.wrap (cn + 1) = cn + 1 := IntWalk.i64_in _ (by omega)
      obtain ⟨d, hd⟩ : ∃ d : Int, x - y = d := ⟨_, rfl⟩
      have hwr2 : IntKind.i64.wrap (x - y) = d := hwr.trans hd
      rw [hd] at hwn hcase
      have Hcn := Lib.hid hwc
      clear hx hy k0 k1 hbel hcb hxb hyb hd hwr
      have hfin : ∀ f2 c2 : Int, (f2 = if fa < ax then ax else fa) → (c2 = if 0 < ax then cn + 1 else cn) → farM X Y (m + 1) = f2 ∧ cntM X Y (m + 1) = c2 := fun f2 c2 h1 h2 => by
        rw [HSf.out, HSc.out, h1, h2]
        exact ⟨by split <;> omega, rfl⟩
      have Hfin := Lib.hid hfin
      clear hfin HSf HSc
      by_cases h1 : fa < ax
      · have e2 : decide (fa < ax) = true := decide_eq_true h1
        by_cases h2 : 0 < ax
        · have e3 : decide (0 < ax) = true := decide_eq_true h2
          have HK := Lib.hid (Hfin.out ax (cn + 1) (by rw [if_pos h1]) (by rw [if_pos h2]))
          clear h1 h2 Hfin
          rcases hcase with ⟨hd, hax⟩ | ⟨hd, hax⟩
          · have e1 : decide (d < 0) = true := decide_eq_true hd
            have hwn2 : IntKind.i64.wrap (-d) = ax := hwn.trans hax.symm
            clear hd hax hwn
            go_wp2_with fail
            refine wp_region_calm (by kernel_rfl) (by kernel_rfl) ?_
            repeat (go_big_quiet_step (fail))
            refine wpQuiet_nil ?_
            intro w5 hw'
            have B5 := Lib.hid (bnext Hbel.out (gw_below hw'))
            clear hw' x5 y5
            go_wp2
            go_roundw
            case rel => exact ⟨m + 1, by omega, by go_num, val_int HK.out.1.symm, val_int HK.out.2.symm, B5.out⟩
            case measure => simp [intOf]; omega
          · subst hax
            have e1 : decide (ax < 0) = false := decide_eq_false hd
            clear hd hwn
            go_wp2_with fail
            refine wp_region_calm (by kernel_rfl) (by kernel_rfl) ?_
            repeat (go_big_quiet_step (fail))
            refine wpQuiet_nil ?_
            intro w5 hw'
            have B5 := Lib.hid (bnext Hbel.out (gw_below hw'))
            clear hw' x5 y5
            go_wp2
            go_roundw
            case rel => exact ⟨m + 1, by omega, by go_num, val_int HK.out.1.symm, val_int HK.out.2.symm, B5.out⟩
            case measure => simp [intOf]; omega
        · have e3 : decide (0 < ax) = false := decide_eq_false h2
          have HK := Lib.hid (Hfin.out ax cn (by rw [if_pos h1]) (by rw [if_neg h2]))
          clear h1 h2 Hfin
          rcases hcase with ⟨hd, hax⟩ | ⟨hd, hax⟩
          · have e1 : decide (d < 0) = true := decide_eq_true hd
            have hwn2 : IntKind.i64.wrap (-d) = ax := hwn.trans hax.symm
            clear hd hax hwn
            go_wp2_with fail
            refine wp_region_calm (by kernel_rfl) (by kernel_rfl) ?_
            repeat (go_big_quiet_step (fail))
            refine wpQuiet_nil ?_
            intro w5 hw'
            have B5 := Lib.hid (bnext Hbel.out (gw_below hw'))
            clear hw' x5 y5
            go_wp2
            go_roundw
            case rel => exact ⟨m + 1, by omega, by go_num, val_int HK.out.1.symm, val_int HK.out.2.symm, B5.out⟩
            case measure => simp [intOf]; omega
          · subst hax
            have e1 : decide (ax < 0) = false := decide_eq_false hd
            clear hd hwn
            go_wp2_with fail
            refine wp_region_calm (by kernel_rfl) (by kernel_rfl) ?_
            repeat (go_big_quiet_step (fail))
            refine wpQuiet_nil ?_
            intro w5 hw'
            have B5 := Lib.hid (bnext Hbel.out (gw_below hw'))
            clear hw' x5 y5
            go_wp2
            go_roundw
            case rel => exact ⟨m + 1, by omega, by go_num, val_int HK.out.1.symm, val_int HK.out.2.symm, B5.out⟩
            case measure => simp [intOf]; omega
      · have e2 : decide (fa < ax) = false := decide_eq_false h1
        by_cases h2 : 0 < ax
        · have e3 : decide (0 < ax) = true := decide_eq_true h2
          have HK := Lib.hid (Hfin.out fa (cn + 1) (by rw [if_neg h1]) (by rw [if_pos h2]))
          clear h1 h2 Hfin
          rcases hcase with ⟨hd, hax⟩ | ⟨hd, hax⟩
          · have e1 : decide (d < 0) = true := decide_eq_true hd
            have hwn2 : IntKind.i64.wrap (-d) = ax := hwn.trans hax.symm
            clear hd hax hwn
            go_wp2_with fail
            refine wp_region_calm (by kernel_rfl) (by kernel_rfl) ?_
            repeat (go_big_quiet_step (fail))
            refine wpQuiet_nil ?_
            intro w5 hw'
            have B5 := Lib.hid (bnext Hbel.out (gw_below hw'))
            clear hw' x5 y5
            go_wp2
            go_roundw
            case rel => exact ⟨m + 1, by omega, by go_num, val_int HK.out.1.symm, val_int HK.out.2.symm, B5.out⟩
            case measure => simp [intOf]; omega
          · subst hax
            have e1 : decide (ax < 0) = false := decide_eq_false hd
            clear hd hwn
            go_wp2_with fail
            refine wp_region_calm (by kernel_rfl) (by kernel_rfl) ?_
            repeat (go_big_quiet_step (fail))
            refine wpQuiet_nil ?_
            intro w5 hw'
            have B5 := Lib.hid (bnext Hbel.out (gw_below hw'))
            clear hw' x5 y5
            go_wp2
            go_roundw
            case rel => exact ⟨m + 1, by omega, by go_num, val_int HK.out.1.symm, val_int HK.out.2.symm, B5.out⟩
            case measure => simp [intOf]; omega
        · have e3 : decide (0 < ax) = false := decide_eq_false h2
          have HK := Lib.hid (Hfin.out fa cn (by rw [if_neg h1]) (by rw [if_neg h2]))
          clear h1 h2 Hfin
          rcases hcase with ⟨hd, hax⟩ | ⟨hd, hax⟩
          · have e1 : decide (d < 0) = true := decide_eq_true hd
            have hwn2 : IntKind.i64.wrap (-d) = ax := hwn.trans hax.symm
            clear hd hax hwn
            go_wp2_with fail
            refine wp_region_calm (by kernel_rfl) (by kernel_rfl) ?_
            repeat (go_big_quiet_step (fail))
            refine wpQuiet_nil ?_
            intro w5 hw'
            have B5 := Lib.hid (bnext Hbel.out (gw_below hw'))
            clear hw' x5 y5
            go_wp2
            go_roundw
            case rel => exact ⟨m + 1, by omega, by go_num, val_int HK.out.1.symm, val_int HK.out.2.symm, B5.out⟩
            case measure => simp [intOf]; omega
          · subst hax
            have e1 : decide (ax < 0) = false := decide_eq_false hd
            clear hd hwn
            go_wp2_with fail
            refine wp_region_calm (by kernel_rfl) (by kernel_rfl) ?_
            repeat (go_big_quiet_step (fail))
            refine wpQuiet_nil ?_
            intro w5 hw'
            have B5 := Lib.hid (bnext Hbel.out (gw_below hw'))
            clear hw' x5 y5
            go_wp2
            go_roundw
            case rel => exact ⟨m + 1, by omega, by go_num, val_int HK.out.1.symm, val_int HK.out.2.symm, B5.out⟩
            case measure => simp [intOf]; omega
    · have hmm : m = min p q := by omega
      have RX := Lib.hid (R2.out.later hbel)
      have RY := Lib.hid (S2.out.later hbel)
      have EX := Lib.hid (bnext E2.out hbel)
      have HFX := Lib.hid (HF.out A1 B2 c1 c2 wr RX.out RY.out)
      rw [← hmm] at HFX
      generalize farM X Y m = fa at *
      generalize cntM X Y m = cn at *
      have hd : (¬ (m : Int) < (p : Int) ∧ decide ((m : Int) < (p : Int)) = false) ∨ ((m : Int) < (p : Int) ∧ decide ((m : Int) < (p : Int)) = true ∧ ¬ (m : Int) < (q : Int)) := by
        by_cases h : (m : Int) < (p : Int)
        · exact .inr ⟨h, decide_eq_true h, by omega⟩
        · exact .inl ⟨h, decide_eq_false h⟩
      have hn : (decide (n < 0) = true ∧ rateA 30 n = 0 ∧ rateB n = 0) ∨ (decide (n < 0) = false ∧ decide (1048576 < n) = true ∧ rateA 30 n = 0 ∧ rateB n = 0) ∨ (decide (n < 0) = false ∧ decide (1048576 < n) = false ∧ 0 ≤ n ∧ n ≤ 1048576 ∧ rateA 30 n = 30 * ((n + 15) / 16) ∧ rateB n = 2 * n) := by
        unfold rateA rateB
        by_cases h1 : n < 0
        · exact .inl ⟨decide_eq_true h1, if_pos (.inl h1), if_pos (.inl h1)⟩
        · by_cases h2 : 1048576 < n
          · exact .inr (.inl ⟨decide_eq_false h1, decide_eq_true h2, if_pos (.inr h2), if_pos (.inr h2)⟩)
          · exact .inr (.inr ⟨decide_eq_false h1, decide_eq_false h2, by omega, by omega, by rw [if_neg (by omega)]; omega, if_neg (by omega)⟩)
      clear HF hbel Hbel hmm hlk
      generalize rateA 30 n = ra at *
      generalize rateB n = rb at *
      rcases hd with ⟨d1, d2⟩ | ⟨d1, d2, d3⟩
      all_goals
        go_wp2_with (go_at_call 42; fail)
        refine HFX.out.mono ?_
        rintro e w3 ⟨rfl, hb3⟩
        have E3 := Lib.hid (bnext EX.out hb3)
        clear hb3 HFX RX RY EX
        go_wp2_with (go_at_call 30; fail)
        refine (HN.out _).mono ?_
        rintro e w4 ⟨g, rfl, _, hg, hb4⟩
        have G4 := Lib.hid hg
        have E4 := Lib.hid (bnext E3.out hb4)
        clear hg hb4 E3 HN
        go_wp2_with (go_at_call 43; fail)
        refine (HR.out g _ G4.out).mono ?_
        rintro e w5 ⟨rfl, rfl⟩
        clear HR G4
        rcases hn with ⟨n1, rfl, rfl⟩ | ⟨n1, n2, rfl, rfl⟩ | ⟨n1, n2, n3, n4, rfl, rfl⟩
      all_goals
        try (obtain ⟨K, hK⟩ : ∃ K : Int, (n + 15) / 16 = K := ⟨_, rfl⟩
             rw [hK])
        go_wp2_with (go_at_call 31; refine (HW.out _).mono ?_; rintro e w9 ⟨rfl, hb9⟩)
        go_ret
        exact ⟨rfl, bnext E4.out hb9⟩
theorem CodeFar_law (W : World) (v0 v1 v2 : Value) (a0 : Arg W (.slice 1 (.int .i64)) v0) (a1 : Arg W (.slice 1 (.int .i64)) v1) (a2 : Arg W (.int .i64) v2) :
    Calls Try.prog 7 #[v0, v1, v2] W fun e w' => e = .returned (.bool true) ∧ Below W.heap.size W w' := by
  obtain ⟨a, A, ca, rfl, h1, h2, h3⟩ := ints_arg a0
  obtain ⟨b, B, cb, rfl, h4, h5, h6⟩ := ints_arg a1
  obtain ⟨n, ha, n1, n2⟩ := a2
  obtain rfl : v2 = .int .i64 n := by simpa using ha
  exact CodeFar_walk a b A B ca cb n W h1 h4 h2 h5 h3 h6 n1 n2
end Go.Proofs.Ythmgjielcmjenaa
