/- Contracts of layer 9's Values, Widths, Noise, Cost; conditions: as each theorem states. -/
import Derived.Test.YtbgkoopfdfnmcaaQuantB
namespace Go.Proofs.Ytbgkoopfdfnmcaa
open Go.RowKit

theorem step_wrap {x : Int} {k : Nat} (h : -68719476736 ≤ x ∧ x ≤ 68719476736) (hk : k ≤ 23) : IntKind.i64.wrap (x * 2 ^ k) = x * 2 ^ k := by
  have h1 : (2 : Int) ^ k ≤ 8388608 := by
    rw [show (2 : Int) ^ k = ((2 ^ k : Nat) : Int) by rw [Int.natCast_pow]; rfl]
    exact Int.ofNat_le.2 (Nat.pow_le_pow_right (by decide) hk)
  have h0 : (0 : Int) < 2 ^ k := Int.pow_pos (by decide)
  generalize (2 : Int) ^ k = s at *
  have a1 : x * s ≤ 68719476736 * s := Int.mul_le_mul_of_nonneg_right h.2 (by omega)
  have a2 : -68719476736 * s ≤ x * s := Int.mul_le_mul_of_nonneg_right h.1 (by omega)
  exact IntWalk.i64_in _ (by omega)

def subTo (a b : List Int) (m : Nat) : List Int := (List.range 16).map fun k => if k < m then bgt a k - bgt b k else 0
theorem subTo_zero (a b : List Int) : subTo a b 0 = List.replicate 16 0 := by simp [subTo, List.range, List.range.loop, List.replicate]
theorem subTo_succ (a b : List Int) {m : Nat} (hm : m < 16) : (subTo a b m).set m (bgt a m - bgt b m) = subTo a b (m + 1) := by
  refine range_map_set _ (fun k => if k < m + 1 then bgt a k - bgt b k else 0) hm ?_ (fun i hi => ?_)
  · rw [if_pos (by omega)]
  · by_cases h : i < m
    · rw [if_pos h, if_pos (by omega)]
    · rw [if_neg h, if_neg (by omega)]
theorem subTo_len (a b : List Int) (m : Nat) : (subTo a b m).length = 16 := by simp [subTo]
theorem subTo_get (a b : List Int) {m k : Nat} (hk : k < 16) (hm : m ≤ k) : (subTo a b m)[k]? = some 0 := by
  unfold subTo
  rw [range_map_get _ hk, if_neg (by omega)]
def QB (b : List Int) : Prop := ∀ (k : Nat) (x : Int), b[k]? = some x → -2305843009213693952 ≤ x ∧ x ≤ 2305843009213693952

def costTo (w : List Int) : Nat → Int
  | 0 => 0
  | m + 1 => costTo w m + 4 * bgt w m
end Go.Proofs.Ytbgkoopfdfnmcaa
