/- RtA. Conditions: as each theorem states. -/
import Derived.Test.YtoagdidkadfekaaGreatDoorPd28

namespace Go.Proofs.YtoagdidkadfekaaGreatDoor
open Go.RowKit

theorem fits_24' {v : Int} (h : fitsZ v 24 = true) : -8388608 ≤ v ∧ v < 8388608 := by
  rw [fits_succ, Bool.and_eq_true, decide_eq_true_eq, decide_eq_true_eq] at h
  omega
theorem TonesR.snoc {ts : List ToneV} {m : Nat} {t : ToneV} (h : TonesR (ts.take m)) (ht : ts[m]? = some t) (h1 : 0 ≤ t.idx ∧ t.idx < 16 ∧ -8388608 ≤ t.val ∧ t.val < 8388608) (h2 : ∀ j u, m = j + 1 → ts[j]? = some u → u.idx < t.idx) : TonesR (ts.take (m + 1)) := by
  obtain ⟨hm, rfl⟩ := List.getElem?_eq_some_iff.1 ht
  rw [List.take_succ_eq_append_getElem hm]
  refine ⟨fun u hu => ?_, ?_⟩
  · rcases List.mem_append.1 hu with h3 | h3
    · exact h.1 u h3
    · rw [List.mem_singleton] at h3; rw [h3]; exact h1
  · rw [List.pairwise_append]
    refine ⟨h.2, List.pairwise_singleton _ _, fun a ha b hb => ?_⟩
    rw [List.mem_singleton] at hb
    subst hb
    obtain ⟨i, hi, rfl⟩ := List.mem_iff_getElem.1 ha
    rw [List.length_take] at hi
    obtain ⟨j, rfl⟩ : ∃ j, m = j + 1 := ⟨m - 1, by omega⟩
    have hj := h2 j ts[j] rfl (List.getElem?_eq_getElem (by omega))
    by_cases hij : i = j
    · subst hij
      rw [List.getElem_take]; exact hj
    · have := List.pairwise_iff_getElem.1 h.2 i j (by rw [List.length_take]; omega) (by rw [List.length_take]; omega) (by omega)
      rw [List.getElem_take] at this ⊢
      rw [List.getElem_take] at this
      omega
theorem TonesR.take {ts : List ToneV} (h : TonesR ts) (m : Nat) : TonesR (ts.take m) := ⟨fun u hu => h.1 u (List.mem_of_mem_take hu), h.2.sublist (List.take_sublist _ _)⟩
/-- an answer that tells whether tones may be -/
def RTonesPost (W : World) (ts : List ToneV) (e : Ending) (w' : World) : Prop := ∃ b : Bool, e = .returned (.bool b) ∧ (b = true ↔ TonesR ts ∧ ts.length ≤ 2) ∧ Below W.heap.size W w'

set_option maxRecDepth 100000 in
set_option maxHeartbeats 8000000 in
theorem rightTones_any (ts : List ToneV) (A : Option Addr) (c : Nat) (w : World) (hlen : ts.length ≤ 9223372036854775807) (hr : Row w w.heap.size A (toneCells ts)) :
    Calls Tryz.prog 92 #[.slice A ts.length c] w (RTonesPost w ts) := by
  obtain ⟨n, hn⟩ : ∃ n, ts.length = n := ⟨_, rfl⟩
  have Hr := Lib.hid hr
  have HPost := Lib.hid (show RTonesPost w ts = fun e w' => ∃ b : Bool, e = .returned (.bool b) ∧ (b = true ↔ TonesR ts ∧ ts.length ≤ 2) ∧ Below w.heap.size w w' from rfl)
  rw [hn] at hlen ⊢
  have Hn := Lib.hid hn
  clear hr hn
  go_enter Tryz.func92, Tryz.ntmps92
  go_wp2
  go_loopw [7] (fun i wr => ∃ m : Nat, m ≤ n ∧ i = .int .i64 m ∧ TonesR (ts.take m) ∧ Below w.heap.size w wr) (fun i _ => n - (intOf i).toNat)
  case atStart => exact ⟨0, by omega, rfl, ⟨nofun, List.Pairwise.nil⟩, Below.refl _ _⟩
  case round =>
    obtain ⟨m, hm, rfl, hTR, hbel⟩ := hrel
    have HTR := Lib.hid hTR
    have Hbel := Lib.hid hbel
    clear hbel hTR
    by_cases hlk : m < n
    · obtain ⟨t, ht⟩ := list_get (k := m) Hn.out hlk
      obtain ⟨g, off, hA, hg, k0, k1⟩ := tone_row Hr.out ht
      have c0 := (Hbel.out.cell (p := ⟨g, off + m * 2, none⟩) hg).trans k0
      have c1 := (Hbel.out.cell (p := ⟨g, off + m * 2 + 1, none⟩) hg).trans k1
      subst hA
      have HRow := Lib.hid (fun (j : Nat) (u : ToneV) (hu : ts[j]? = some u) => (show ∃ b o, some (⟨g, off, none⟩ : Addr) = some ⟨b, o, none⟩ ∧ b < w.heap.size ∧ w.cell? ⟨b, o + j * 2, none⟩ = some (.int .i64 u.idx) ∧ w.cell? ⟨b, o + j * 2 + 1, none⟩ = some (.int .i64 u.val) from tone_row Hr.out hu))
      have HT := Lib.hid ht
      have HBad := Lib.hid (fun (h : TonesR ts) => And.intro (h.1 t (List.mem_of_getElem? ht)) (fun (j : Nat) (u : ToneV) (hj : m = j + 1) (hu : ts[j]? = some u) => (show u.idx < t.idx by
        obtain ⟨h1, e1⟩ := List.getElem?_eq_some_iff.1 hu
        obtain ⟨h2, e2⟩ := List.getElem?_eq_some_iff.1 ht
        have := List.pairwise_iff_getElem.1 h.2 j m h1 h2 (by omega)
        rwa [e1, e2] at this)))
      obtain ⟨ix, vl⟩ := t
      simp only at c0 c1
      clear ht k0 k1
      have HF := Lib.hid (show ∀ W, Calls Tryz.prog 94 #[.int .i64 vl, .int .i64 24] W fun e w' => e = .returned (.bool (fitsZ vl 24)) ∧ W = w' from fun W => (Fits_any vl 24 W (by omega)))
      have HFt := Lib.hid (fun (h : fitsZ vl 24 = true) => fits_24' h)
      have HFf := Lib.hid (fun (h : -8388608 ≤ vl ∧ vl < 8388608) => fits_24 h.1 h.2)
      obtain ⟨bv, hbv⟩ : ∃ bv, fitsZ vl 24 = bv := ⟨_, rfl⟩
      rw [hbv] at HF HFt HFf
      clear hbv
      have t1 : (m : Int) < (n : Int) := by omega
      have hN1 := Blk.new wr 124 [.int .i64 ix, .int .i64 vl]
      have hy5 := gw_blk hN1
      have HB2 := Lib.hid (bnext Hbel.out (bnew wr (.cells #[.int .i64 ix, .int .i64 vl] 124)))
      by_cases h1 : ix < 0
      · have t2 : decide (ix < 0) = true := decide_eq_true h1
        go_wp2_with fail
        refine wp_region_calm (by kernel_rfl) (by kernel_rfl) ?_
        repeat (go_big_quiet_step ((go_at_call 94; exact calm_same (HF.out _))))
        refine wpQuiet_nil ?_
        intro w5 hw'
        have HB5 := Lib.hid (bnext HB2.out (gw_below hw'))
        (try clear hk)
        clear hw' hy5
        go_wp2
        go_ret
        refine ⟨false, rfl, ⟨nofun, fun h => ?_⟩, HB5.out⟩
        have := HBad.out h.1
        (try simp only at this)
        omega
      have t2 : decide (ix < 0) = false := decide_eq_false h1
      by_cases h2 : 16 ≤ ix
      · have t3 : decide ((16 : Int) ≤ ix) = true := decide_eq_true h2
        go_wp2_with fail
        refine wp_region_calm (by kernel_rfl) (by kernel_rfl) ?_
        repeat (go_big_quiet_step ((go_at_call 94; exact calm_same (HF.out _))))
        refine wpQuiet_nil ?_
        intro w5 hw'
        have HB5 := Lib.hid (bnext HB2.out (gw_below hw'))
        (try clear hk)
        clear hw' hy5
        go_wp2
        go_ret
        refine ⟨false, rfl, ⟨nofun, fun h => ?_⟩, HB5.out⟩
        have := HBad.out h.1
        (try simp only at this)
        omega
      have t3 : decide ((16 : Int) ≤ ix) = false := decide_eq_false h2
      by_cases hm0 : 0 < m
      · obtain ⟨j, rfl⟩ : ∃ j, m = j + 1 := ⟨m - 1, by omega⟩
        obtain ⟨u, hu⟩ := list_get (k := j) Hn.out (by omega)
        obtain ⟨b, o, hA, hb, k0, k1⟩ := HRow.out j u hu
        injection hA with hA
        injection hA with e1 e2
        subst e1 e2
        have HU := Lib.hid hu
        have hk := fun (x : GW (wr.alloc (.cells #[.int .i64 ix, .int .i64 vl] 124))) => (show x.1.cell? ⟨g, off + j * 2, none⟩ = some (.int .i64 u.idx) from (HB2.out.trans (x.2.mono HB2.out.size)).cell (p := ⟨g, off + j * 2, none⟩) hb |>.trans k0)
        obtain ⟨ui, uv⟩ := u
        simp only at hk
        have t4 : decide ((0 : Int) < ((j + 1 : Nat) : Int)) = true := decide_eq_true (by omega)
        have t6 : ((j + 1 : Nat) : Int) - 1 = (j : Int) := by omega
        have t7 : (j : Int) < (n : Int) := by omega
        have t8 : (0 : Int) ≤ (j : Int) := by omega
        have t9 : (0 : Int) < (j : Int) + 1 := by omega
        clear hu k0 k1 hm0
        by_cases h3 : ix ≤ ui
        · have t5 : decide (ix ≤ ui) = true := decide_eq_true h3
          go_wp2_with fail
          refine wp_region_calm (by kernel_rfl) (by kernel_rfl) ?_
          repeat (go_big_quiet_step ((go_at_call 94; exact calm_same (HF.out _))))
          refine wpQuiet_nil ?_
          intro w5 hw'
          have HB5 := Lib.hid (bnext HB2.out (gw_below hw'))
          (try clear hk)
          clear hw' hy5
          go_wp2
          go_ret
          refine ⟨false, rfl, ⟨nofun, fun h => ?_⟩, HB5.out⟩
          have := HBad.out h.1
          have := this.2 j _ rfl HU.out
          (try simp only at this)
          omega
        have t5 : decide (ix ≤ ui) = false := decide_eq_false h3
        cases bv
        · have HFg := Lib.hid (show (-8388608 ≤ vl ∧ vl < 8388608) → False from fun h => (by cases HFf.out h))
          clear HFt HFf
          go_wp2_with fail
          refine wp_region_calm (by kernel_rfl) (by kernel_rfl) ?_
          repeat (go_big_quiet_step ((go_at_call 94; exact calm_same (HF.out _))))
          refine wpQuiet_nil ?_
          intro w5 hw'
          have HB5 := Lib.hid (bnext HB2.out (gw_below hw'))
          (try clear hk)
          clear hw' hy5
          go_wp2
          go_ret
          refine ⟨false, rfl, ⟨nofun, fun h => ?_⟩, HB5.out⟩
          have := HBad.out h.1
          exact (HFg.out ⟨this.1.2.2.1, this.1.2.2.2⟩).elim
        · have HFg := Lib.hid (HFt.out rfl)
          clear HFt HFf
          go_wp2_with fail
          refine wp_region_calm (by kernel_rfl) (by kernel_rfl) ?_
          repeat (go_big_quiet_step ((go_at_call 94; exact calm_same (HF.out _))))
          refine wpQuiet_nil ?_
          intro w5 hw'
          have HB5 := Lib.hid (bnext HB2.out (gw_below hw'))
          (try clear hk)
          clear hw' hy5
          go_wp2
          go_roundw
          case rel => exact ⟨j + 1 + 1, by omega, by go_num, HTR.out.snoc HT.out ⟨by omega, by omega, HFg.out⟩ (fun j' u' hj hu => by
                      have hjj : j' = j := by omega
                      subst hjj
                      have := Option.some.inj (hu.symm.trans HU.out)
                      subst this
                      show ui < ix
                      omega), HB5.out⟩
          case measure => simp [intOf]; omega
      · have hm00 : m = 0 := by omega
        subst hm00
        simp only [Nat.zero_mul, Nat.add_zero] at c0 c1
        have t4 : decide ((0 : Int) < ((0 : Nat) : Int)) = false := decide_eq_false (by omega)
        clear hm0
        cases bv
        · have HFg := Lib.hid (show (-8388608 ≤ vl ∧ vl < 8388608) → False from fun h => (by cases HFf.out h))
          clear HFt HFf
          go_wp2_with fail
          refine wp_region_calm (by kernel_rfl) (by kernel_rfl) ?_
          repeat (go_big_quiet_step ((go_at_call 94; exact calm_same (HF.out _))))
          refine wpQuiet_nil ?_
          intro w5 hw'
          have HB5 := Lib.hid (bnext HB2.out (gw_below hw'))
          (try clear hk)
          clear hw' hy5
          go_wp2
          go_ret
          refine ⟨false, rfl, ⟨nofun, fun h => ?_⟩, HB5.out⟩
          have := HBad.out h.1
          exact (HFg.out ⟨this.1.2.2.1, this.1.2.2.2⟩).elim
        · have HFg := Lib.hid (HFt.out rfl)
          clear HFt HFf
          go_wp2_with fail
          refine wp_region_calm (by kernel_rfl) (by kernel_rfl) ?_
          repeat (go_big_quiet_step ((go_at_call 94; exact calm_same (HF.out _))))
          refine wpQuiet_nil ?_
          intro w5 hw'
          have HB5 := Lib.hid (bnext HB2.out (gw_below hw'))
          (try clear hk)
          clear hw' hy5
          go_wp2
          go_roundw
          case rel => exact ⟨0 + 1, by omega, by go_num, HTR.out.snoc HT.out ⟨by omega, by omega, HFg.out⟩ (fun j' u' hj hu => by omega), HB5.out⟩
          case measure => simp [intOf]; omega
    · have hmn : m = n := by omega
      subst hmn
      have t1 : ¬ ((m : Int) < (m : Int)) := by omega
      have HE := Lib.hid (show TonesR ts by have := HTR.out; rwa [List.take_of_length_le (by rw [Hn.out]; exact Nat.le_refl _)] at this)
      by_cases h2 : m ≤ 2
      · have t2 : decide ((m : Int) ≤ 2) = true := decide_eq_true (by omega)
        go_wp2
        go_ret
        exact ⟨true, rfl, ⟨fun _ => ⟨HE.out, by rw [Hn.out]; omega⟩, fun _ => rfl⟩, Hbel.out⟩
      · have t2 : decide ((m : Int) ≤ 2) = false := decide_eq_false (by omega)
        go_wp2
        go_ret
        exact ⟨false, rfl, ⟨nofun, fun h => by have := h.2; rw [Hn.out] at this; omega⟩, Hbel.out⟩
end Go.Proofs.YtoagdidkadfekaaGreatDoor
