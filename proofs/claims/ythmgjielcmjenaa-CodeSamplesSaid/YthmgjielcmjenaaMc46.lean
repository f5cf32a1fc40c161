/- WrB. Conditions: as each theorem states. -/
import Derived.Laws.CopyOwn
import Derived.Deep.OwnRows
import Derived.Test.YthmgjielcmjenaaMc30
import Derived.Test.YthmgjielcmjenaaMc45

namespace Go.Proofs.Ythmgjielcmjenaa
open Go.RowKit

/-- has a number room in so many bits? -/
def fitsZ (v : Int) (k : Nat) : Bool := decide (widthZ v ≤ k)
theorem fits_zero (v : Int) : fitsZ v 0 = decide (v = 0) := by
  unfold fitsZ widthZ
  rw [Bool.eq_iff_iff, decide_eq_true_eq, decide_eq_true_eq]
  split
  · rename_i h; simp [h]
  · rename_i h; simp [h]
theorem fits_succ (v : Int) (k : Nat) : fitsZ v (k + 1) = (decide (-(2 ^ k) ≤ v) && decide (v < 2 ^ k)) := by
  have e : (2 : Int) ^ k = ((2 ^ k : Nat) : Int) := by rw [Int.natCast_pow]; rfl
  unfold fitsZ
  rw [Bool.eq_iff_iff, decide_eq_true_eq, Bool.and_eq_true, decide_eq_true_eq, decide_eq_true_eq, e]
  exact ⟨fun h => widthZ_bd h, fun h => widthZ_le h.1 h.2⟩

set_option maxRecDepth 100000 in
theorem Fits_any (v : Int) (k : Nat) (w : World) (hk : k ≤ 57) :
    Calls Try.prog 89 #[.int .i64 v, .int .i64 k] w fun e w' => e = .returned (.bool (fitsZ v k)) ∧ w = w' := by
  cases k with
  | zero =>
    rw [fits_zero]
    have t1 : ((0 : Nat) : Int) ≤ 0 := by omega
    by_cases h : v = 0
    · have t2 : (v == 0) = true := beq_iff_eq.2 h
      go_enter Try.func89, Try.ntmps89
      go_wp2
      go_ret
      exact ⟨ret_bool (by rw [h]; rfl), rfl⟩
    · have t2 : (v == 0) = false := beq_eq_false_iff_ne.2 h
      have H := Lib.hid (decide_eq_false h)
      clear h
      go_enter Try.func89, Try.ntmps89
      go_wp2
      go_ret
      exact ⟨ret_bool H.out.symm, rfl⟩
  | succ k =>
    have HF := Lib.hid (fits_succ v k)
    have hp : (2 : Int) ^ k ≤ 2 ^ 56 := by
      rw [show (2 : Int) ^ k = ((2 ^ k : Nat) : Int) by rw [Int.natCast_pow]; rfl]
      exact Int.ofNat_le.2 (Nat.pow_le_pow_right (by decide) (by omega))
    have hp0 : (0 : Int) < 2 ^ k := Int.pow_pos (by decide)
    have hm1 : IntKind.i64.wrap (-1 * 2 ^ k) = -(2 ^ k) := by rw [Int.neg_one_mul]; exact IntWalk.i64_in _ (by omega)
    have hm2 : IntKind.i64.wrap (1 * 2 ^ k) = 2 ^ k := by rw [Int.one_mul]; exact IntWalk.i64_in _ (by omega)
    have hm3 : IntKind.i64.wrap (-(2 ^ k)) = -(2 ^ k) := IntWalk.i64_in _ (by omega)
    have hm4 : IntKind.i64.wrap (2 ^ k) = 2 ^ k := IntWalk.i64_in _ (by omega)
    obtain ⟨P, hP⟩ : ∃ P : Int, (2 : Int) ^ k = P := ⟨_, rfl⟩
    have t1 : ¬ (((k + 1 : Nat) : Int) ≤ 0) := by omega
    have t2 : decide ((63 : Int) < ((k + 1 : Nat) : Int)) = false := decide_eq_false (by omega)
    have t3 : ((k + 1 : Nat) : Int) - 1 = (k : Int) := by omega
    have t4 : (0 : Int) ≤ (k : Int) := by omega
    have t5 : (k : Int) ≤ 64 := by omega
    rw [hP] at HF hm1 hm2 hm3 hm4 hp hp0
    generalize hK : ((k + 1 : Nat) : Int) = K at *
    have t6 : ¬ (63 < K) := by omega
    have t7 : ¬ (K ≤ 0) := by omega
    by_cases h1 : -P ≤ v
    · have d1 : decide (-P ≤ v) = true := decide_eq_true h1
      go_enter Try.func89, Try.ntmps89
      go_wp2
      go_ret
      exact ⟨ret_bool (by rw [HF.out, d1]; simp), rfl⟩
    · have d1 : decide (-P ≤ v) = false := decide_eq_false h1
      go_enter Try.func89, Try.ntmps89
      go_wp2
      go_ret
      exact ⟨ret_bool (by rw [HF.out, d1]; simp), rfl⟩
theorem twos_bits (v : Int) {k : Nat} (hk : k ≤ 57) : bits .and .u64 (IntKind.u64.wrap v) (2 ^ k - 1) = (twos v k : Int) := by
  rw [IntKind.wrap_u64, bits_mask .u64 64 (by decide) wraps_u64 k (by omega) (v % 18446744073709551616) (by omega) (by omega)]
  have hd : (2 : Int) ^ k ∣ 18446744073709551616 := by
    refine ⟨2 ^ (64 - k), ?_⟩
    rw [← Int.pow_add, show k + (64 - k) = 64 by omega]; rfl
  rw [Int.emod_emod_of_dvd _ hd]
  have hp : (0 : Int) < 2 ^ k := Int.pow_pos (by decide)
  unfold twos
  rw [Int.toNat_of_nonneg (Int.emod_nonneg _ (by omega))]

theorem packN_zero_len (L : List Nat) (z : Nat) : (u8s (packN L ++ List.replicate z 0)).length = (L.length + 7) / 8 + z := by
  rw [u8s_len, List.length_append, packN_len, List.length_replicate]
end Go.Proofs.Ythmgjielcmjenaa
