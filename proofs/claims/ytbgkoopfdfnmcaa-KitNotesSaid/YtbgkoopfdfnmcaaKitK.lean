/- The walk of the law KitFinds; conditions: as each theorem states. -/
import Derived.Test.YtbgkoopfdfnmcaaKitJ
namespace Go.Proofs.Ytbgkoopfdfnmcaa
open Go.RowKit

theorem any_range_succ (p : Nat → Bool) (n : Nat) : (List.range (n + 1)).any p = ((List.range n).any p || p n) := by
  rw [List.range_succ, List.any_append]; simp
theorem any_range_more (p : Nat → Bool) (n m : Nat) (h : n ≤ m) (ht : (List.range n).any p = true) : (List.range m).any p = true := by
  rw [List.any_eq_true] at *
  obtain ⟨x, hx, hp⟩ := ht
  exact ⟨x, List.mem_range.2 (by have := List.mem_range.1 hx; omega), hp⟩
/-- does a key play something, struck in one of the first ways? -/
def playsTo (zs : List ZoneV) (key : Int) (m : Nat) : Bool := (List.range m).any fun h => decide (0 ≤ findZ key (((h + 1 : Nat) : Int)) zs)
theorem playsTo_succ (zs : List ZoneV) (key : Int) (m : Nat) (h : playsTo zs key m = false) : playsTo zs key (m + 1) = decide (0 ≤ findZ key ((m : Int) + 1) zs) := by
  unfold playsTo at *
  rw [any_range_succ, h, Bool.false_or]
  rw [show (((m + 1 : Nat) : Int)) = (m : Int) + 1 by omega]
theorem playsTo_end (zs : List ZoneV) (key : Int) (m : Nat) (hm : m ≤ 127) (h : m = 127 ∨ playsTo zs key m = true) : playsTo zs key m = playsZ zs key := by
  rcases h with rfl | h
  · rfl
  · rw [h]; exact (any_range_more _ m 127 hm h).symm
theorem preZ_at (zs : List ZoneV) (f t : Int) (k : Nat) (hk : k < 128) (hf : f ≤ (k : Int)) (ht : (k : Int) ≤ t) (hp : playsZ zs k = false) : (gapZ zs f t)[(preZ zs f t k).length]? = some (k : Int) := by
  obtain ⟨r, hr⟩ := preZ_prefix zs f t (k + 1) (127 - k)
  rw [gapZ_pre, show 128 = k + 1 + (127 - k) by omega, hr, preZ_succ]
  have h2 : decide (f ≤ (k : Int)) = true := decide_eq_true hf
  have h3 : decide ((k : Int) ≤ t) = true := decide_eq_true ht
  rw [h2, h3, hp]
  simp
theorem preZ_skip (zs : List ZoneV) (f t : Int) (k : Nat) (h : (k : Int) < f ∨ t < (k : Int) ∨ playsZ zs k = true) : preZ zs f t (k + 1) = preZ zs f t k := by
  rw [preZ_succ, if_neg]
  · simp
  · rcases h with h | h | h
    · simp; omega
    · simp; omega
    · simp [h]
theorem preZ_take (zs : List ZoneV) (f t : Int) (k : Nat) (hf : f ≤ (k : Int)) (ht : (k : Int) ≤ t) (hp : playsZ zs k = false) : (preZ zs f t (k + 1)).length = (preZ zs f t k).length + 1 := by
  have h2 : decide (f ≤ (k : Int)) = true := decide_eq_true hf
  have h3 : decide ((k : Int) ≤ t) = true := decide_eq_true ht
  rw [preZ_succ, h2, h3, hp]
  simp
theorem preZ_len (zs : List ZoneV) (f t : Int) : ∀ k, (preZ zs f t k).length ≤ k := by
  intro k
  unfold preZ
  have := List.length_filter_le (fun x => decide (f ≤ x) && decide (x ≤ t) && !playsZ zs x) ((List.range k).map fun (i : Nat) => (i : Int))
  simpa using this

end Go.Proofs.Ytbgkoopfdfnmcaa
