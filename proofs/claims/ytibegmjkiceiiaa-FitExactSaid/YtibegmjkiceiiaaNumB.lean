/- Contracts of layer 3's Width, Near, Peak; conditions: as each theorem states. -/
import Derived.Test.YtibegmjkiceiiaaNumP
import Derived.Test.YtibegmjkiceiiaaMem
import Derived.Test.YtibegmjkiceiiaaArr
namespace Go.Proofs.Ytibegmjkiceiiaa
open Go.RowKit

theorem i64_not (v : Int) (h1 : -9223372036854775808 ≤ v) (h2 : v ≤ 9223372036854775807) : bits .xor .i64 (-1) v = -v - 1 := by
  have key : (BitVec.ofInt 64 (-1) ^^^ BitVec.ofInt 64 v).toNat = 2 ^ 64 - 1 - (v % ((2 ^ 64 : Nat) : Int)).toNat := by
    rw [show BitVec.ofInt 64 (-1) = BitVec.allOnes 64 by decide, BitVec.allOnes_xor, BitVec.toNat_not, BitVec.toNat_ofInt]
  show IntKind.i64.wrap ((BitVec.ofInt 64 (-1) ^^^ BitVec.ofInt 64 v).toNat : Nat) = -v - 1
  rw [key, IntKind.wrap_i64]
  omega

set_option maxHeartbeats 1000000 in
theorem width_walk (v : Int) (w : World) (hb : (v == 0) = false) (hw : widthZ v = 1 + bitsN (bodyN v)) (hlt : bodyN v < 9223372036854775808) (h : (v < 0 ∧ bits .xor .i64 (-1) v = (bodyN v : Int)) ∨ (0 < v ∧ v = (bodyN v : Int))) :
    Calls Try.prog 102 #[.int .i64 v] w fun e w' => e = .returned (.int .i64 (widthZ v)) ∧ w = w' := by
  have HW := Lib.hid hw
  have HL := Lib.hid (bitsN_le (k := 63) hlt)
  have Hlt := Lib.hid hlt
  clear hw hlt
  rcases h with ⟨h, h2⟩ | ⟨h, h2⟩
  all_goals
    have H2 := Lib.hid h2
    clear h2
    go_enter Try.func102, Try.ntmps102
    go_wp2
    go_loop [0, 3] (fun x n => ∃ (y k : Nat), k + bitsN y = bitsN (bodyN v) ∧ x = .int .i64 y ∧ n = .int .i64 (1 + (k : Int)) ∧ y < 9223372036854775808) (fun x _ => (intOf x).toNat)
    case atStart => exact ⟨bodyN v, 0, by omega, val_int H2.out, rfl, Hlt.out⟩
    case round =>
      obtain ⟨y, k, hk, rfl, rfl, hy⟩ := hrel
      have Hk := Lib.hid hk
      have hkb : k ≤ 63 := by have := HL.out; omega
      clear hk
      by_cases hy0 : 0 < y
      · have t1 : (0 : Int) < (y : Int) := by omega
        have HS := Lib.hid (bitsN_half hy0)
        go_wp2
        go_round
        case rel => exact ⟨y / 2, k + 1, by have := HS.out; have := Hk.out; omega, val_int (by simp), val_int (by omega), by omega⟩
        case measure => simp [intOf]; omega
      · have t1 : ¬ (0 : Int) < (y : Int) := by omega
        have hy1 : y = 0 := by omega
        subst hy1
        go_wp2
        go_ret
        exact ⟨ret_int (by rw [HW.out]; have := Hk.out; rw [bitsN_zero] at this; omega), rfl⟩
theorem Width_any (v : Int) (w : World) (h1 : -9223372036854775808 ≤ v) (h2 : v ≤ 9223372036854775807) :
    Calls Try.prog 102 #[.int .i64 v] w fun e w' => e = .returned (.int .i64 (widthZ v)) ∧ w = w' := by
  by_cases h0 : v = 0
  · subst h0
    go_enter Try.func102, Try.ntmps102
    go_wp2
    go_ret
    exact ⟨rfl, rfl⟩
  · refine width_walk v w (beq_eq_false_iff_ne.2 h0) (by unfold widthZ; rw [if_neg h0]) (by unfold bodyN; split <;> omega) ?_
    rcases Int.lt_or_le v 0 with h | h
    · exact .inl ⟨h, by rw [i64_not v h1 h2]; unfold bodyN; rw [if_pos h]; omega⟩
    · exact .inr ⟨by omega, by unfold bodyN; rw [if_neg (by omega)]; omega⟩

theorem shl_one (p : Nat) : (1 : Int) * 2 ^ p = 2 ^ p := Int.one_mul _

theorem Near_zero (v : Int) (w : World) (h1 : -4611686018427387904 ≤ v) (h2 : v ≤ 4611686018427387904) :
    Calls Try.prog 174 #[.int .i64 v, .int .i64 0] w fun e w' => e = .returned (.int .i64 (nearZ v 0)) ∧ ∃ n, w' = w.drewN n := by
  have e1 : IntKind.i64.wrap (v.tdiv 1) = v := by rw [Int.tdiv_one]; exact IntWalk.i64_in _ (by omega)
  have e2 : IntKind.i64.wrap (v.tmod 1) = 0 := by rw [Int.tmod_one]; rfl
  go_enter Try.func174, Try.ntmps174
  go_wp2
  go_quiet (fail)
  go_wp2
  go_ret
  exact ⟨rfl, _, rfl⟩
set_option maxHeartbeats 1000000 in
theorem Near_succ (v : Int) (k : Nat) (w : World) (h1 : -4611686018427387904 ≤ v) (h2 : v ≤ 4611686018427387904) (hp : k ≤ 60) :
    Calls Try.prog 174 #[.int .i64 v, .int .i64 (k + 1 : Nat)] w fun e w' => e = .returned (.int .i64 (nearZ v (k + 1))) ∧ ∃ n, w' = w.drewN n := by
  have HN := Lib.hid (show nearZ v (k + 1) = if 2 ^ k ≤ v.tmod (2 ^ (k + 1)) then v.tdiv (2 ^ (k + 1)) + 1 else if v.tmod (2 ^ (k + 1)) ≤ -2 ^ k then v.tdiv (2 ^ (k + 1)) - 1 else v.tdiv (2 ^ (k + 1)) by
    unfold nearZ; rw [if_neg (by omega)]; rfl)
  have hlt : (2 : Nat) ^ k ≤ 2 ^ 60 := Nat.pow_le_pow_right (by decide) hp
  have hd0 : (0 : Int) < 2 ^ k := Int.pow_pos (by decide)
  have hd1 : (2 : Int) ^ k ≤ 1152921504606846976 := by
    rw [show (2 : Int) ^ k = ((2 ^ k : Nat) : Int) by rw [Int.natCast_pow]; rfl]
    exact Int.ofNat_le.2 hlt
  have e : (2 : Int) ^ (k + 1) = 2 * 2 ^ k := by rw [Int.pow_succ]; omega
  have hq := tdiv_between v ((2 : Int) ^ (k + 1)) (by omega)
  have hx1 : IntKind.i64.wrap (2 ^ (k + 1)) = 2 ^ (k + 1) := IntWalk.i64_in _ (by omega)
  have hx2 : IntKind.i64.wrap (2 ^ k) = 2 ^ k := IntWalk.i64_in _ (by omega)
  have hx3 : IntKind.i64.wrap (-2 ^ k) = -2 ^ k := IntWalk.i64_in _ (by omega)
  have hr1 : IntKind.i64.wrap (v.tmod (2 ^ (k + 1))) = v.tmod (2 ^ (k + 1)) := by
    have a1 := Int.lt_tmod_of_pos v (b := (2 : Int) ^ (k + 1)) (by omega)
    have a2 := Int.tmod_lt_of_pos v (b := (2 : Int) ^ (k + 1)) (by omega)
    exact IntWalk.i64_in _ (by omega)
  have hq1 : IntKind.i64.wrap (v.tdiv (2 ^ (k + 1))) = v.tdiv (2 ^ (k + 1)) := IntWalk.i64_in _ (by omega)
  have hqb : -4611686018427387904 ≤ v.tdiv (2 ^ (k + 1)) ∧ v.tdiv (2 ^ (k + 1)) ≤ 4611686018427387904 := by omega
  have hz : ((2 : Int) ^ (k + 1)) ≠ 0 := by omega
  clear e hq hd0 hd1 hlt
  go_enter Try.func174, Try.ntmps174
  go_wp2
  go_quiet (fail)
  generalize v.tdiv (2 ^ (k + 1)) = q at *
  generalize v.tmod (2 ^ (k + 1)) = r at *
  obtain ⟨hq0, hq2⟩ := hqb
  have hw1 : IntKind.i64.wrap (q + 1) = q + 1 := IntWalk.i64_in _ (by omega)
  have hw2 : IntKind.i64.wrap (q - 1) = q - 1 := IntWalk.i64_in _ (by omega)
  go_wp2
  all_goals
    go_ret
    refine ⟨ret_int ?_, _, rfl⟩
    rw [HN.out]
    (repeat' split) <;> omega
theorem Near_any (v : Int) (p : Nat) (w : World) (h1 : -4611686018427387904 ≤ v) (h2 : v ≤ 4611686018427387904) (hp : p ≤ 61) :
    Calls Try.prog 174 #[.int .i64 v, .int .i64 p] w fun e w' => e = .returned (.int .i64 (nearZ v p)) ∧ ∃ n, w' = w.drewN n := by
  cases p with
  | zero => exact Near_zero v w h1 h2
  | succ k => exact Near_succ v k w h1 h2 (by omega)

set_option maxHeartbeats 1000000 in
theorem Peak_any (A : Option Addr) (cap : Nat) (l : List Int) (w : World) (hl : l.length ≤ 1000000000) (hr : Row w w.heap.size A (l.map (.int .i64))) (hb : ∀ x ∈ l, -9223372036854775808 ≤ x ∧ x ≤ 9223372036854775807) :
    Calls Try.prog 103 #[.slice A l.length cap] w fun e w' => e = .returned (.int .i64 (peakZ l)) ∧ w = w' := by
  have Hr := Lib.hid hr
  have Hb := Lib.hid hb
  obtain ⟨n, hn⟩ : ∃ n, l.length = n := ⟨_, rfl⟩
  rw [hn] at hl ⊢
  have Hn := Lib.hid hn
  clear hr hb hn
  go_enter Try.func103, Try.ntmps103
  go_wp2
  go_loop [3, 8] (fun p i => ∃ (m : Nat), m ≤ n ∧ i = .int .i64 m ∧ p = .int .i64 (peakZ (l.take m))) (fun _ i => n - (intOf i).toNat)
  case atStart => exact ⟨0, by omega, rfl, rfl⟩
  case round =>
    obtain ⟨m, hm, rfl, rfl⟩ := hrel
    by_cases hlt : m < n
    · have t1 : (m : Int) < (n : Int) := by omega
      obtain ⟨x, hx⟩ := list_get (k := m) Hn.out hlt
      obtain ⟨b, off, hA, _, hc⟩ := Hr.out m (.int .i64 x) (by rw [List.getElem?_map, hx]; rfl)
      have hxb := Hb.out x (List.mem_of_getElem? hx)
      have HP := Lib.hid (show peakZ (l.take (m + 1)) = max (peakZ (l.take m)) (absZ x) by
        obtain ⟨hk, rfl⟩ := List.getElem?_eq_some_iff.1 hx
        rw [List.take_succ_eq_append_getElem hk, peakZ_snoc])
      generalize peakZ (l.take m) = P at *
      subst hA
      obtain ⟨y, hy⟩ : ∃ y, absZ x = y := ⟨_, rfl⟩
      rw [hy] at HP
      have Hy := Lib.hid hy
      clear hx hy
      have hmx : P < y ∨ y ≤ P := by omega
      rcases hmx with hmx | hmx
      all_goals
        go_wp2_with (go_at_call 45; refine (Abs_any _ _ (by omega) (by omega)).mono ?_; rw [Hy.out]; rintro e w' ⟨rfl, rfl⟩)
        go_round
        case rel => exact ⟨m + 1, by omega, by go_num, val_int (by rw [HP.out]; first | rfl | omega)⟩
        case measure => simp [intOf]; omega
    · have t1 : ¬ ((m : Int) < (n : Int)) := by omega
      have HE := Lib.hid (show peakZ (l.take m) = peakZ l by rw [List.take_of_length_le (by rw [Hn.out]; omega)])
      go_wp2
      go_ret
      exact ⟨ret_int HE.out, rfl⟩
end Go.Proofs.Ytibegmjkiceiiaa
