/- Contracts of layer 11's law: near, size, is, ahead; conditions: as each theorem states. -/
import Derived.Test.YthlidkdclhibpaaToneA
import Derived.Test.YthlidkdclhibpaaLists
namespace Go.Proofs.Ythlidkdclhibpaa
open Go.RowKit

def nearI (x : Int) : Bool := decide (-1099511627776 ≤ x) && decide (x ≤ 1099511627776)

set_option maxRecDepth 100000 in
set_option maxHeartbeats 1000000 in
theorem lawnear_any (b : List Int) (w : World) (hb : b.length = 16) :
    Calls Try.prog 48 #[blockV b] w fun e w' => e = .returned (.bool (b.all nearI)) ∧ Below w.heap.size w w' := by
  unfold blockV
  have HC := Lib.hid (fun (k : Nat) (x : Int) (h : b[k]? = some x) => blk_get h)
  generalize (b.map (Value.int .i64)).toArray = cs at *
  have Hb := Lib.hid hb
  clear hb
  go_enter Try.func48, Try.ntmps48
  go_wp2
  go_loop [3] (fun k => ∃ m : Nat, m ≤ 16 ∧ (b.take m).all nearI = true ∧ k = .int .i64 m) (fun k => (16 - (intOf k)).toNat)
  case atStart => exact ⟨0, by omega, rfl, rfl⟩
  case round =>
    obtain ⟨m, hm, hpre, rfl⟩ := hrel
    have Hpre := Lib.hid hpre
    clear hpre
    by_cases hlt : m < 16
    · have t1 : (m : Int) < 16 := by omega
      obtain ⟨x, hx⟩ := list_get (k := m) Hb.out (by omega)
      have hc := HC.out _ _ hx
      have Hx := Lib.hid hx
      clear hx
      by_cases h1 : x < -1099511627776
      · have Hn := Lib.hid (show nearI x = false by simp [nearI]; omega)
        have t2 : decide (x < -1099511627776) = true := decide_eq_true h1
        go_wp2
        go_ret
        exact ⟨ret_bool (all_false_of _ Hx.out Hn.out).symm, bnew _ _⟩
      · have t2 : decide (x < -1099511627776) = false := decide_eq_false h1
        by_cases h2 : 1099511627776 < x
        · have Hn := Lib.hid (show nearI x = false by simp [nearI]; omega)
          go_wp2
          go_ret
          exact ⟨ret_bool (all_false_of _ Hx.out Hn.out).symm, bnew _ _⟩
        · have Hn := Lib.hid (show nearI x = true by simp [nearI]; omega)
          have t3 : decide (1099511627776 < x) = false := decide_eq_false h2
          go_wp2
          go_round
          case rel => exact ⟨m + 1, by omega, by rw [all_take_succ _ Hx.out, Hpre.out, Hn.out]; rfl, by go_num⟩
          case measure => simp [intOf]; omega
    · have t1 : ¬ ((m : Int) < 16) := by omega
      have Hall := Lib.hid (all_take_all nearI (by rw [Hb.out]; omega) Hpre.out)
      go_wp2
      go_ret
      exact ⟨ret_bool Hall.out.symm, bnew _ _⟩

theorem near_big {b : List Int} (h : b.all nearI = true) : BigB b := by
  intro k x hx
  have := List.all_eq_true.1 h x (List.mem_of_getElem? hx)
  simp [nearI] at this
  omega

theorem lawsize_any (x : Int) (w : World) (h : -9223372036854775807 ≤ x ∧ x ≤ 9223372036854775807) : Calls Try.prog 80 #[.int .i64 x] w fun e w' => e = .returned (.int .i64 (absZ x)) ∧ w = w' := by
  go_enter Try.func80, Try.ntmps80
  go_wp2
  all_goals
    go_ret
    exact ⟨ret_int (by unfold absZ; (repeat' split) <;> omega), rfl⟩

theorem aroundTo_le (b : List Int) (i m : Nat) : ∀ r, aroundTo b i m ≤ aroundTo b i (m + r)
  | 0 => Int.le_refl _
  | r + 1 => by
    have := aroundTo_le b i m r
    rw [← Nat.add_assoc, aroundTo_succ]
    split <;> omega

set_option maxRecDepth 100000 in
set_option maxHeartbeats 4000000 in
theorem lawis_any (b : List Int) (i : Int) (w : World) (hb : b.length = 16) (hr : BigB b) :
    Calls Try.prog 51 #[blockV b, .int .i64 i] w fun e w' => e = .returned (.bool (isTone b i)) ∧ Below w.heap.size w w' := by
  by_cases hi : 0 ≤ i ∧ i < 16
  · obtain ⟨h0, h1⟩ := hi
    obtain ⟨n, rfl⟩ := Int.eq_ofNat_of_zero_le h0
    have hn : n < 16 := by omega
    obtain ⟨x, hx⟩ := list_get (k := n) hb hn
    have hxb := hr _ _ hx
    have hab := absZ_bd hxb
    have HT := Lib.hid (show isTone b (n : Int) = (decide (64 ≤ absZ x) && decide (aroundZ b n ≤ absZ x / 8)) by unfold isTone; rw [Int.toNat_natCast, bgt_get hx]; have e1 : decide ((0 : Int) ≤ (n : Int)) = true := decide_eq_true h0; have e2 : decide ((n : Int) < 16) = true := decide_eq_true h1; rw [e1, e2]; rfl)
    have HSx := Lib.hid (fun W => lawsize_any x W (by omega))
    obtain ⟨y, hy⟩ : ∃ y, absZ x = y := ⟨_, rfl⟩
    rw [hy] at hab HT HSx
    unfold blockV
    have HC := Lib.hid (fun (k : Nat) (x : Int) (h : b[k]? = some x) => blk_get h)
    have hc := blk_get hx
    generalize (b.map (Value.int .i64)).toArray = cs at *
    have Hb := Lib.hid hb
    have HR := Lib.hid hr
    have hB := Lib.hid (heap_alloc_new w (.cells cs 83))
    clear hx hy hb hr
    have a1 : ¬ (n : Int) < 0 := by omega
    have a2 : decide ((n : Int) < 0) = false := decide_eq_false a1
    have a3 : ¬ 15 < (n : Int) := by omega
    have a4 : decide (15 < (n : Int)) = false := decide_eq_false a3
    by_cases h64 : y < 64
    · have HF := Lib.hid (show isTone b (n : Int) = false by rw [HT.out]; simp; omega)
      go_enter Try.func51, Try.ntmps51
      go_wp2_with (go_at_call 80; refine (HSx.out _).mono ?_; rintro e w' ⟨rfl, rfl⟩)
      go_ret
      exact ⟨ret_bool HF.out.symm, bnew _ _⟩
    · have h64' : decide (y < 64) = false := decide_eq_false h64
      obtain ⟨q, hq⟩ : ∃ q, n / 4 = q := ⟨_, rfl⟩
      have Hq := Lib.hid hq
      have hq4 : q < 4 := by omega
      have hq1 : (n : Int) / 4 = (q : Int) := by omega
      clear hq
      go_enter Try.func51, Try.ntmps51
      go_wp2_with (go_at_call 80; refine (HSx.out _).mono ?_; rintro e w' ⟨rfl, rfl⟩)
      go_loopw [5] (fun k wr => ∃ m : Nat, m ≤ 4 ∧ aroundTo b n m ≤ y / 8 ∧ k = .int .i64 ((q : Int) * 4 + m) ∧ Below (w.heap.size + 1) (w.alloc (.cells cs 83)) wr) (fun k _ => (20 - (intOf k)).toNat)
      case atStart => exact ⟨0, by omega, by show (0 : Int) ≤ y / 8; omega, by go_num, Below.refl _ _⟩
      case round =>
        obtain ⟨m, hm, hz, rfl, hbel⟩ := hrel
        have Hz := Lib.hid hz
        have Hbel := Lib.hid hbel
        have hB2 := Lib.hid ((hbel.block w.heap.size (by omega)).trans hB.out)
        clear hz hbel
        by_cases hlt : m < 4
        · have t1 : (q : Int) * 4 + m < (q : Int) * 4 + 4 := by omega
          obtain ⟨x2, hx2⟩ := list_get (k := q * 4 + m) Hb.out (by omega)
          have hc2 := HC.out _ _ hx2
          have hxb2 := HR.out _ _ hx2
          have hab2 := absZ_bd hxb2
          have HS := Lib.hid (show aroundTo b n (m + 1) = if q * 4 + m = n then aroundTo b n m else max (aroundTo b n m) (absZ x2) by rw [aroundTo_succ, Hq.out, bgt_get hx2])
          have HSx2 := Lib.hid (fun W => lawsize_any x2 W (by omega))
          obtain ⟨z, hzz⟩ : ∃ z, absZ x2 = z := ⟨_, rfl⟩
          rw [hzz] at hab2 HS HSx2
          clear hx2 hzz
          by_cases he : q * 4 + m = n
          · have t2 : (((q : Int) * 4 + m) == (n : Int)) = true := beq_iff_eq.2 (by omega)
            have t3 : (((q : Int) * 4 + m) != (n : Int)) = false := by rw [bne_eq_false_iff_eq]; omega
            have He := Lib.hid he
            clear he
            go_wp2
            refine wp_region_calm (by kernel_rfl) (by kernel_rfl) ?_
            repeat (go_big_quiet_step (fail))
            refine wpQuiet_nil ?_
            intro w5 hw'
            have hb5 := gw_below hw'
            have Hb5 := Lib.hid (btail Hbel.out (by simp) hb5)
            clear hw' hb5
            go_wp2
            go_roundw
            case rel => exact ⟨m + 1, by omega, by rw [HS.out, if_pos He.out]; exact Hz.out, by go_num, Hb5.out⟩
            case measure => simp [intOf]; omega
          · have t2 : (((q : Int) * 4 + m) == (n : Int)) = false := beq_eq_false_iff_ne.2 (by omega)
            have t3 : (((q : Int) * 4 + m) != (n : Int)) = true := by rw [bne_iff_ne]; omega
            have He := Lib.hid he
            clear he
            have hx5 := gw_cells hB2.out
            by_cases hf : y / 8 < z
            · go_wp2
              refine wp_region_calm (by kernel_rfl) (by kernel_rfl) ?_
              repeat (go_big_quiet_step ((first | (go_at_call_of 80 (Value.int .i64 x); exact calm_same (HSx.out _)) | (go_at_call_of 80 (Value.int .i64 x2); exact calm_same (HSx2.out _)))))
              refine wpQuiet_nil ?_
              intro w5 hw'
              have hb5 := gw_below hw'
              have Hb5 := Lib.hid (btail Hbel.out (by simp) hb5)
              clear hw' hb5 hx5
              go_wp2
              go_ret
              have hA : ¬ aroundZ b n ≤ y / 8 := by
                intro hA
                obtain ⟨r, hr2⟩ : ∃ r, 4 = m + 1 + r := ⟨3 - m, by omega⟩
                have h5 : aroundTo b n (m + 1) ≤ aroundZ b n := by unfold aroundZ; rw [hr2]; exact aroundTo_le b n (m + 1) r
                rw [HS.out, if_neg He.out] at h5
                omega
              exact ⟨ret_bool (by rw [HT.out, decide_eq_false hA]; simp), (bnew _ _).trans (Hb5.out.mono (by omega))⟩
            · go_wp2
              refine wp_region_calm (by kernel_rfl) (by kernel_rfl) ?_
              repeat (go_big_quiet_step ((first | (go_at_call_of 80 (Value.int .i64 x); exact calm_same (HSx.out _)) | (go_at_call_of 80 (Value.int .i64 x2); exact calm_same (HSx2.out _)))))
              refine wpQuiet_nil ?_
              intro w5 hw'
              have hb5 := gw_below hw'
              have Hb5 := Lib.hid (btail Hbel.out (by simp) hb5)
              clear hw' hb5 hx5
              go_wp2
              go_roundw
              case rel => exact ⟨m + 1, by omega, by rw [HS.out, if_neg He.out]; have := Hz.out; omega, by go_num, Hb5.out⟩
              case measure => simp [intOf]; omega
        · have t1 : ¬ ((q : Int) * 4 + m < (q : Int) * 4 + 4) := by omega
          have hm4 := Lib.hid (show m = 4 by omega)
          go_wp2
          go_ret
          exact ⟨ret_bool (by rw [HT.out]; have h5 := Hz.out; rw [hm4.out] at h5; rw [decide_eq_true (show 64 ≤ y by omega), decide_eq_true (show aroundZ b n ≤ y / 8 from h5)]; rfl), (bnew _ _).trans (Hbel.out.mono (by omega))⟩
  · have hT := Lib.hid (show isTone b i = false by unfold isTone; simp; omega)
    have hi' : i < 0 ∨ 16 ≤ i := by omega
    clear hi
    unfold blockV
    generalize (b.map (Value.int .i64)).toArray = cs at *
    rcases hi' with hi' | hi'
    · have a2 : decide (i < 0) = true := decide_eq_true hi'
      go_enter Try.func51, Try.ntmps51
      go_wp2
      go_ret
      exact ⟨ret_bool hT.out.symm, bnew _ _⟩
    · have a1 : ¬ i < 0 := by omega
      have a2 : decide (i < 0) = false := decide_eq_false a1
      have a3 : 15 < i := by omega
      have a4 : decide (15 < i) = true := decide_eq_true a3
      go_enter Try.func51, Try.ntmps51
      go_wp2
      go_ret
      exact ⟨ret_bool hT.out.symm, bnew _ _⟩
end Go.Proofs.Ythlidkdclhibpaa
