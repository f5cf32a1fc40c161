/- Contracts of layer 3's Clamp, Sat, Round, Abs; conditions: as each theorem states. -/
import Derived.Test.YtbgkoopfdfnmcaaBase
namespace Go.Proofs.Ytbgkoopfdfnmcaa
open Go.RowKit

def clampZ (v lo hi : Int) : Int := if v < lo ∨ hi < lo then lo else if hi < v then hi else v
def satZ (v : Int) : Int := clampZ v (-32768) 32767
def roundZ (v : Int) (p : Nat) : Int := if p = 0 then v else v / 2 ^ p + v / 2 ^ (p - 1) % 2
def absZ (v : Int) : Int := if v = -9223372036854775808 then 9223372036854775807 else if v < 0 then -v else v
theorem satZ_bd (v : Int) : -32768 ≤ satZ v ∧ satZ v ≤ 32767 := by unfold satZ clampZ; (repeat' split) <;> omega

/-- the lowest bits of an int64 -/
theorem i64_mask (n m : Int) (i : Nat) (hm : m = 2 ^ i - 1) (hi : i ≤ 62) : bits .and .i64 n m = n % 2 ^ i := by
  subst hm
  have h1 : (2 : Int) ^ i - 1 = ((2 ^ i - 1 : Nat) : Int) := by
    have := Nat.two_pow_pos i
    rw [Int.natCast_sub (by omega)]; simp
  have hlt : 2 ^ i ≤ 2 ^ 62 := Nat.pow_le_pow_right (by decide) hi
  have hm' : (BitVec.ofInt 64 ((2 : Int) ^ i - 1)).toNat = 2 ^ i - 1 := by
    rw [h1, BitVec.ofInt_natCast, BitVec.toNat_ofNat]
    exact Nat.mod_eq_of_lt (by have : 2 ^ 62 < 2 ^ 64 := by decide
                               omega)
  have key : (BitVec.ofInt 64 n &&& BitVec.ofInt 64 ((2 : Int) ^ i - 1)).toNat = (n % ((2 ^ 64 : Nat) : Int)).toNat % 2 ^ i := by
    rw [BitVec.toNat_and, BitVec.toNat_ofInt, hm', Nat.and_two_pow_sub_one_eq_mod]
  show IntKind.i64.wrap ((BitVec.ofInt 64 n &&& BitVec.ofInt 64 ((2 : Int) ^ i - 1)).toNat : Nat) = n % 2 ^ i
  rw [key, IntKind.wrap_i64]
  have h64 : (((n % ((2 ^ 64 : Nat) : Int)).toNat % 2 ^ i : Nat) : Int) = n % 2 ^ i := by
    rw [Int.natCast_emod, Int.toNat_of_nonneg (Int.emod_nonneg _ (by decide))]
    have hd : ((2 : Int) ^ i) ∣ ((2 ^ 64 : Nat) : Int) := by
      rw [Int.natCast_pow]
      exact ⟨2 ^ (64 - i), by rw [← Int.pow_add]; congr 1; omega⟩
    rw [Int.natCast_pow]
    exact Int.emod_emod_of_dvd _ hd
  rw [h64]
  have hb0 := Int.emod_nonneg n (b := (2 : Int) ^ i) (by have := Int.pow_pos (n := 2) (m := i) (by decide); omega)
  have hb1 := Int.emod_lt_of_pos n (b := (2 : Int) ^ i) (Int.pow_pos (by decide))
  have hb2 : (2 : Int) ^ i ≤ ((2 ^ 62 : Nat) : Int) := by rw [show (2 : Int) ^ i = ((2 ^ i : Nat) : Int) by rw [Int.natCast_pow]; rfl]; exact Int.ofNat_le.2 hlt
  have hb3 : ((2 ^ 62 : Nat) : Int) = 4611686018427387904 := by decide
  omega
theorem i64_and1 (n : Int) : bits .and .i64 n 1 = n % 2 := i64_mask n 1 1 (by decide) (by decide)

theorem two_pow_pos (p : Nat) : (0 : Int) < 2 ^ p := Int.pow_pos (by decide)
theorem half_bd (v : Int) (p : Nat) (hp : 1 ≤ p) (h1 : -9223372036854775808 ≤ v) (h2 : v ≤ 9223372036854775807) : -4611686018427387904 ≤ v / 2 ^ p ∧ v / 2 ^ p ≤ 4611686018427387903 := by
  obtain ⟨k, rfl⟩ : ∃ k, p = k + 1 := ⟨p - 1, by omega⟩
  have hk := two_pow_pos k
  have e : (2 : Int) ^ (k + 1) = 2 * 2 ^ k := by rw [Int.pow_succ]; omega
  rw [e, ← Int.ediv_ediv_of_nonneg (by decide)]
  generalize hx : v / 2 = x
  have hx1 : -4611686018427387904 ≤ x ∧ x ≤ 4611686018427387903 := by omega
  constructor
  · have h3 := Int.ediv_le_ediv hk hx1.1
    have h4 : (-4611686018427387904 : Int) ≤ -4611686018427387904 / 2 ^ k := by
      rw [Int.le_ediv_iff_mul_le hk]
      have : (-4611686018427387904 : Int) * 2 ^ k ≤ -4611686018427387904 * 1 := Int.mul_le_mul_of_nonpos_left (by omega) (by omega)
      omega
    omega
  · rcases Int.lt_or_le x 0 with h0 | h0
    · have := Int.ediv_neg_of_neg_of_pos h0 hk; omega
    · have := Int.ediv_le_self (2 ^ k) h0; omega

end Go.Proofs.Ytbgkoopfdfnmcaa
