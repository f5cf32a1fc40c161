/- Contracts of layer 12's law: near, right, wide, mask; conditions: as each theorem states. -/
import Derived.Test.YtibegmjkiceiiaaFitG
namespace Go.Proofs.Ytibegmjkiceiiaa
open Go.RowKit

set_option maxRecDepth 100000 in
set_option maxHeartbeats 1000000 in
theorem near12_any (b : List Int) (w : World) (hb : b.length = 16) :
    Calls Try.prog 33 #[blockV b] w fun e w' => e = .returned (.bool (b.all nearI)) ∧ Below w.heap.size w w' := by
  unfold blockV
  have HC := Lib.hid (fun (k : Nat) (x : Int) (h : b[k]? = some x) => blk_get h)
  generalize (b.map (Value.int .i64)).toArray = cs at *
  have Hb := Lib.hid hb
  clear hb
  go_enter Try.func33, Try.ntmps33
  go_wp2
  go_loop [3] (fun k => ∃ m : Nat, m ≤ 16 ∧ (b.take m).all nearI = true ∧ k = .int .i64 m) (fun k => (16 - (intOf k)).toNat)
  case atStart => exact ⟨0, by omega, rfl, rfl⟩
  case round =>
    obtain ⟨m, hm, hpre, rfl⟩ := hrel
    have Hpre := Lib.hid hpre
    clear hpre
    by_cases hlt : m < 16
    · have t1 : (m : Int) < 16 := by omega
      obtain ⟨x, hx⟩ := list_get (k := m) Hb.out (by omega)
      have hc := HC.out _ _ hx
      have Hx := Lib.hid hx
      clear hx
      by_cases h1 : x < -1099511627776
      · have Hn := Lib.hid (show nearI x = false by simp [nearI]; omega)
        have t2 : decide (x < -1099511627776) = true := decide_eq_true h1
        go_wp2
        go_ret
        exact ⟨ret_bool (all_false_of _ Hx.out Hn.out).symm, bnew _ _⟩
      · have t2 : decide (x < -1099511627776) = false := decide_eq_false h1
        by_cases h2 : 1099511627776 < x
        · have Hn := Lib.hid (show nearI x = false by simp [nearI]; omega)
          go_wp2
          go_ret
          exact ⟨ret_bool (all_false_of _ Hx.out Hn.out).symm, bnew _ _⟩
        · have Hn := Lib.hid (show nearI x = true by simp [nearI]; omega)
          have t3 : decide (1099511627776 < x) = false := decide_eq_false h2
          go_wp2
          go_round
          case rel => exact ⟨m + 1, by omega, by rw [all_take_succ _ Hx.out, Hpre.out, Hn.out]; rfl, by go_num⟩
          case measure => simp [intOf]; omega
    · have t1 : ¬ ((m : Int) < 16) := by omega
      have Hall := Lib.hid (all_take_all nearI (by rw [Hb.out]; omega) Hpre.out)
      go_wp2
      go_ret
      exact ⟨ret_bool Hall.out.symm, bnew _ _⟩

set_option maxRecDepth 100000 in
set_option maxHeartbeats 1000000 in
theorem lawright_any (s : List Int) (w : World) (hs : s.length = 4) :
    Calls Try.prog 41 #[blockV s] w fun e w' => e = .returned (.bool (gainOk s)) ∧ Below w.heap.size w w' := by
  unfold blockV gainOk
  have HC := Lib.hid (fun (k : Nat) (x : Int) (h : s[k]? = some x) => blk_get h)
  generalize (s.map (Value.int .i64)).toArray = cs at *
  have Hs := Lib.hid hs
  clear hs
  go_enter Try.func41, Try.ntmps41
  go_wp2
  go_loop [3] (fun k => ∃ m : Nat, m ≤ 4 ∧ (s.take m).all (inB 3) = true ∧ k = .int .i64 m) (fun k => (4 - (intOf k)).toNat)
  case atStart => exact ⟨0, by omega, rfl, rfl⟩
  case round =>
    obtain ⟨m, hm, hall, rfl⟩ := hrel
    have HA := Lib.hid hall
    clear hall
    by_cases hlt : m < 4
    · have t1 : (m : Int) < 4 := by omega
      obtain ⟨x, hx⟩ := list_get (k := m) Hs.out (by omega)
      have hc := HC.out _ _ hx
      have HT := Lib.hid (all_take_succ (inB 3) hx)
      have HFa := Lib.hid (fun h => all_false_of (inB 3) hx h)
      clear hx
      by_cases h0 : x < 0
      · have d0 : decide (x < 0) = true := decide_eq_true h0
        have hf := Lib.hid (HFa.out (by unfold inB; rw [decide_eq_false (by omega)]; rfl))
        go_wp2
        go_ret
        exact ⟨ret_bool hf.out.symm, bnew _ _⟩
      · have d0 : decide (x < 0) = false := decide_eq_false h0
        by_cases h1 : 3 < x
        · have d1 : decide (3 < x) = true := decide_eq_true h1
          have hf := Lib.hid (HFa.out (by unfold inB; rw [decide_eq_false (show ¬ x ≤ 3 by omega), Bool.and_false]))
          go_wp2
          go_ret
          exact ⟨ret_bool hf.out.symm, bnew _ _⟩
        · have d1 : decide (3 < x) = false := decide_eq_false h1
          have hf := Lib.hid (show inB 3 x = true by unfold inB; rw [decide_eq_true (show 0 ≤ x by omega), decide_eq_true (show x ≤ 3 by omega)]; rfl)
          go_wp2
          go_round
          case rel => exact ⟨m + 1, by omega, by rw [HT.out, HA.out, hf.out]; rfl, by go_num⟩
          case measure => simp [intOf]; omega
    · have t1 : ¬ ((m : Int) < 4) := by omega
      have hf := Lib.hid (all_take_all (inB 3) (l := s) (k := m) (by rw [Hs.out]; omega) HA.out)
      go_wp2
      go_ret
      exact ⟨ret_bool hf.out.symm, bnew _ _⟩

/-- a number that has room in 24 bits -/
def slimI (x : Int) : Bool := decide (widthZ (absZ x) ≤ 24)
set_option maxRecDepth 100000 in
set_option maxHeartbeats 1000000 in
theorem lawwide_any (b : List Int) (w : World) (hb : b.length = 16) (hr : BigB b) :
    Calls Try.prog 40 #[blockV b] w fun e w' => e = .returned (.bool (!b.all slimI)) ∧ Below w.heap.size w w' := by
  unfold blockV
  have HC := Lib.hid (fun (k : Nat) (x : Int) (h : b[k]? = some x) => blk_get h)
  generalize (b.map (Value.int .i64)).toArray = cs at *
  have Hb := Lib.hid hb
  have Hr := Lib.hid hr
  clear hb hr
  go_enter Try.func40, Try.ntmps40
  go_wp2
  go_loop [3] (fun k => ∃ m : Nat, m ≤ 16 ∧ (b.take m).all slimI = true ∧ k = .int .i64 m) (fun k => (16 - (intOf k)).toNat)
  case atStart => exact ⟨0, by omega, rfl, rfl⟩
  case round =>
    obtain ⟨m, hm, hpre, rfl⟩ := hrel
    have Hpre := Lib.hid hpre
    clear hpre
    by_cases hlt : m < 16
    · have t1 : (m : Int) < 16 := by omega
      obtain ⟨x, hx⟩ := list_get (k := m) Hb.out (by omega)
      have hc := HC.out _ _ hx
      have hxb := Hr.out.get hx
      have Hx := Lib.hid hx
      clear hx
      have HA := Lib.hid (fun W => Abs_any x W (by omega) (by omega))
      have Hs := Lib.hid (show slimI x = decide (widthZ (absZ x) ≤ 24) from rfl)
      have hab : 0 ≤ absZ x ∧ absZ x ≤ 4611686018427387904 := ⟨absZ_nn, absZ_le (by omega) (by omega) (by omega)⟩
      generalize absZ x = ax at *
      have HW := Lib.hid (fun W => Width_any ax W (by omega) (by omega))
      generalize widthZ ax = wx at *
      by_cases h1 : 24 < wx
      · have Hn := Lib.hid (show slimI x = false by rw [Hs.out]; exact decide_eq_false (by omega))
        have t2 : (24 : Int) < (wx : Int) := by omega
        go_wp2_with (first | (go_at_call 45; refine (HA.out _).mono ?_; rintro e w1 ⟨rfl, rfl⟩) | (go_at_call 102; refine (HW.out _).mono ?_; rintro e w1 ⟨rfl, rfl⟩))
        go_ret
        exact ⟨ret_bool (by rw [all_false_of _ Hx.out Hn.out]; rfl), bnew _ _⟩
      · have Hn := Lib.hid (show slimI x = true by rw [Hs.out]; exact decide_eq_true (by omega))
        have t2 : ¬ ((24 : Int) < (wx : Int)) := by omega
        go_wp2_with (first | (go_at_call 45; refine (HA.out _).mono ?_; rintro e w1 ⟨rfl, rfl⟩) | (go_at_call 102; refine (HW.out _).mono ?_; rintro e w1 ⟨rfl, rfl⟩))
        go_round
        case rel => exact ⟨m + 1, by omega, by rw [all_take_succ _ Hx.out, Hpre.out, Hn.out]; rfl, by go_num⟩
        case measure => simp [intOf]; omega
    · have t1 : ¬ ((m : Int) < 16) := by omega
      have Hall := Lib.hid (all_take_all slimI (by rw [Hb.out]; omega) Hpre.out)
      go_wp2
      go_ret
      exact ⟨ret_bool (by rw [Hall.out]; rfl), bnew _ _⟩

theorem peak_four (x y z u : Int) : widthZ (peakZ [x, y, z, u]) = max (max (max (max 0 (widthZ (absZ x))) (widthZ (absZ y))) (widthZ (absZ z))) (widthZ (absZ u)) := by
  have nx := absZ_nn (v := x)
  have ny := absZ_nn (v := y)
  have nz := absZ_nn (v := z)
  have nu := absZ_nn (v := u)
  simp only [peakZ, List.foldl]
  rw [widthZ_max (by omega) nu, widthZ_max (by omega) nz, widthZ_max (by omega) ny, widthZ_max (by omega) nx]
  rfl
theorem mask_eq {b : List Int} (hb : b.length = 16) : maskZ b = masksTo b 16 := by
  obtain ⟨a0, a1, a2, a3, a4, a5, a6, a7, a8, a9, b0, b1, b2, b3, b4, b5, rfl⟩ := sixteen_of hb
  show [((widthZ (peakZ [a0, a1, a2, a3]) : Nat) : Int), (widthZ (peakZ [a4, a5, a6, a7]) : Nat), (widthZ (peakZ [a8, a9, b0, b1]) : Nat), (widthZ (peakZ [b2, b3, b4, b5]) : Nat)] = _
  rw [peak_four, peak_four, peak_four, peak_four]
  rfl
theorem masksTo_len (q : List Int) (m : Nat) : (masksTo q m).length = 4 := by simp [masksTo]
theorem masksTo_get (q : List Int) (m : Nat) {i : Nat} (hi : i < 4) : (masksTo q m)[i]? = some (maskTo q m i : Int) := range_map_get _ hi
theorem masksTo_succ (q : List Int) (m : Nat) (hm : m < 16) : (masksTo q m).set (m / 4) (max (maskTo q m (m / 4)) (widthZ (absZ (bgt q m))) : Nat) = masksTo q (m + 1) := by
  refine range_map_set _ (fun i => ((maskTo q (m + 1) i : Nat) : Int)) (by omega) ?_ (fun i hi => ?_)
  · rw [maskTo_succ, if_pos rfl]
  · rw [maskTo_succ, if_neg (fun e => hi e.symm)]
end Go.Proofs.Ytibegmjkiceiiaa
