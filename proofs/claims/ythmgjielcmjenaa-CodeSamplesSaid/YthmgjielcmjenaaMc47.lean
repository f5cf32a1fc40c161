/- WrC. Conditions: as each theorem states. -/
import Derived.Test.YthmgjielcmjenaaMc30
import Derived.Test.YthmgjielcmjenaaMc46

namespace Go.Proofs.Ythmgjielcmjenaa
open Go.RowKit

/-- tones that may be, as far as the first so many -/
def TonesR (ts : List ToneV) : Prop := (∀ t ∈ ts, 0 ≤ t.idx ∧ t.idx < 16 ∧ -8388608 ≤ t.val ∧ t.val < 8388608) ∧ ts.Pairwise fun x y => x.idx < y.idx
theorem fits_24 {v : Int} (h1 : -8388608 ≤ v) (h2 : v < 8388608) : fitsZ v 24 = true := by
  rw [fits_succ, decide_eq_true (show -(2 ^ 23) ≤ v by omega), decide_eq_true (show v < 2 ^ 23 by omega)]; rfl

set_option maxRecDepth 100000 in
set_option maxHeartbeats 4000000 in
theorem rightTones_ok (ts : List ToneV) (A : Option Addr) (c : Nat) (w : World) (hr : Row w w.heap.size A (toneCells ts)) (ht : TonesR ts) (hl : ts.length ≤ 2) :
    Calls Try.prog 87 #[.slice A ts.length c] w fun e w' => e = .returned (.bool true) ∧ Below w.heap.size w w' := by
  obtain ⟨n, hn⟩ : ∃ n, ts.length = n := ⟨_, rfl⟩
  have Hr := Lib.hid hr
  have Hti := Lib.hid ht.1
  have Hinc := Lib.hid ht.2
  rw [hn] at hl ⊢
  have Hn := Lib.hid hn
  clear hr ht hn
  go_enter Try.func87, Try.ntmps87
  go_wp2
  go_loopw [7] (fun i wr => ∃ m : Nat, m ≤ n ∧ i = .int .i64 m ∧ Below w.heap.size w wr) (fun i _ => n - (intOf i).toNat)
  case atStart => exact ⟨0, by omega, rfl, Below.refl _ _⟩
  case round =>
    obtain ⟨m, hm, rfl, hbel⟩ := hrel
    have Hbel := Lib.hid hbel
    clear hbel
    by_cases hlk : m < n
    · obtain ⟨t, ht⟩ := list_get (k := m) Hn.out hlk
      have htv := Hti.out t (List.mem_of_getElem? ht)
      obtain ⟨g, off, hA, hg, k0, k1⟩ := tone_row Hr.out ht
      have c0 := (Hbel.out.cell (p := ⟨g, off + m * 2, none⟩) hg).trans k0
      have c1 := (Hbel.out.cell (p := ⟨g, off + m * 2 + 1, none⟩) hg).trans k1
      have HP := Lib.hid (fun (j : Nat) (u : ToneV) (hj : m = j + 1) (hu : ts[j]? = some u) => (show u.idx < t.idx by
        obtain ⟨h1, e1⟩ := List.getElem?_eq_some_iff.1 hu
        obtain ⟨h2, e2⟩ := List.getElem?_eq_some_iff.1 ht
        have := List.pairwise_iff_getElem.1 Hinc.out j m h1 h2 (by omega)
        rwa [e1, e2] at this))
      subst hA
      have HRow := Lib.hid (fun (j : Nat) (u : ToneV) (hu : ts[j]? = some u) => (show ∃ b o, some (⟨g, off, none⟩ : Addr) = some ⟨b, o, none⟩ ∧ b < w.heap.size ∧ w.cell? ⟨b, o + j * 2, none⟩ = some (.int .i64 u.idx) ∧ w.cell? ⟨b, o + j * 2 + 1, none⟩ = some (.int .i64 u.val) from tone_row Hr.out hu))
      obtain ⟨ix, vl⟩ := t
      obtain ⟨v1, v2, v3, v4⟩ := htv
      simp only at c0 c1 v1 v2 v3 v4 HP
      clear ht k0 k1
      have HF := Lib.hid (show ∀ W, Calls Try.prog 89 #[.int .i64 vl, .int .i64 24] W fun e w' => e = .returned (.bool true) ∧ W = w' from fun W => (Fits_any vl 24 W (by omega)).mono fun e w' ⟨he, hw⟩ => ⟨by rw [he, fits_24 v3 v4], hw⟩)
      have t1 : (m : Int) < (n : Int) := by omega
      have t2 : decide (ix < 0) = false := decide_eq_false (by omega)
      have t3 : decide ((16 : Int) ≤ ix) = false := decide_eq_false (by omega)
      have hN1 := Blk.new wr 154 [.int .i64 ix, .int .i64 vl]
      have hy5 := gw_blk hN1
      have HB2 := Lib.hid (bnext Hbel.out (bnew wr (.cells #[.int .i64 ix, .int .i64 vl] 154)))
      by_cases hm0 : 0 < m
      · obtain ⟨j, rfl⟩ : ∃ j, m = j + 1 := ⟨m - 1, by omega⟩
        obtain ⟨u, hu⟩ := list_get (k := j) Hn.out (by omega)
        have hlt2 := HP.out j u rfl hu
        obtain ⟨b, o, hA, hb, k0, k1⟩ := HRow.out j u hu
        injection hA with hA
        injection hA with e1 e2
        subst e1 e2
        have hk := fun (x : GW (wr.alloc (.cells #[.int .i64 ix, .int .i64 vl] 154))) => (show x.1.cell? ⟨g, off + j * 2, none⟩ = some (.int .i64 u.idx) from (HB2.out.trans (x.2.mono HB2.out.size)).cell (p := ⟨g, off + j * 2, none⟩) hb |>.trans k0)
        obtain ⟨ui, uv⟩ := u
        simp only at hk hlt2
        have t4 : decide ((0 : Int) < ((j + 1 : Nat) : Int)) = true := decide_eq_true (by omega)
        have t5 : decide (ix ≤ ui) = false := decide_eq_false (by omega)
        have t6 : ((j + 1 : Nat) : Int) - 1 = (j : Int) := by omega
        have t7 : (j : Int) < (n : Int) := by omega
        have t8 : (0 : Int) ≤ (j : Int) := by omega
        have t9 : (0 : Int) < (j : Int) + 1 := by omega
        clear hu k0 k1 hm0
        go_wp2_with fail
        refine wp_region_calm (by kernel_rfl) (by kernel_rfl) ?_
        repeat (go_big_quiet_step ((go_at_call 89; exact calm_same (HF.out _))))
        refine wpQuiet_nil ?_
        intro w5 hw'
        have hb5 := gw_below hw'
        have HB5 := Lib.hid (bnext HB2.out hb5)
        clear hw' hb5 hy5 hk
        go_wp2
        go_roundw
        case rel => exact ⟨j + 1 + 1, by omega, by go_num, HB5.out⟩
        case measure => simp [intOf]; omega
      · have hm00 : m = 0 := by omega
        subst hm00
        simp only [Nat.zero_mul, Nat.add_zero] at c0 c1
        have t4 : decide ((0 : Int) < ((0 : Nat) : Int)) = false := decide_eq_false (by omega)
        clear hm0
        go_wp2_with fail
        refine wp_region_calm (by kernel_rfl) (by kernel_rfl) ?_
        repeat (go_big_quiet_step ((go_at_call 89; exact calm_same (HF.out _))))
        refine wpQuiet_nil ?_
        intro w5 hw'
        have hb5 := gw_below hw'
        have HB5 := Lib.hid (bnext HB2.out hb5)
        clear hw' hb5 hy5
        go_wp2
        go_roundw
        case rel => exact ⟨0 + 1, by omega, by go_num, HB5.out⟩
        case measure => simp [intOf]; omega
    · have hmn : m = n := by omega
      subst hmn
      have t1 : ¬ ((m : Int) < (m : Int)) := by omega
      have t2 : decide ((m : Int) ≤ 2) = true := decide_eq_true (by omega)
      go_wp2
      go_ret
      exact ⟨rfl, Hbel.out⟩
end Go.Proofs.Ythmgjielcmjenaa
