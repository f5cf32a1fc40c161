/- Plain lemmas for the law KitFinds: the keys that play nothing, counted from 0 on. No condition. -/
import Derived.Test.YtbgkoopfdfnmcaaKitI
namespace Go.Proofs.Ytbgkoopfdfnmcaa

/-- of the first k keys those between two that play nothing -/
def preZ (zs : List ZoneV) (f t : Int) (k : Nat) : List Int := ((List.range k).map fun (i : Nat) => (i : Int)).filter fun x => decide (f ≤ x) && decide (x ≤ t) && !playsZ zs x
theorem preZ_succ (zs : List ZoneV) (f t : Int) (k : Nat) : preZ zs f t (k + 1) = preZ zs f t k ++ (if (decide (f ≤ (k : Int)) && decide ((k : Int) ≤ t) && !playsZ zs k) = true then [(k : Int)] else []) := by
  unfold preZ
  rw [List.range_succ, List.map_append, List.filter_append]
  congr 1
  cases h : (decide (f ≤ (k : Int)) && decide ((k : Int) ≤ t) && !playsZ zs k) <;> simp [h]
theorem preZ_flat (zs : List ZoneV) (f t : Int) (a : Nat) : ∀ (m : Nat), (∀ x : Nat, a ≤ x → x < a + m → (x : Int) < f ∨ t < (x : Int)) → preZ zs f t (a + m) = preZ zs f t a
  | 0, _ => rfl
  | m + 1, h => by
    rw [← Nat.add_assoc, preZ_succ, preZ_flat zs f t a m (fun x h1 h2 => h x h1 (by omega))]
    have := h (a + m) (by omega) (by omega)
    rw [if_neg (by simp; omega)]
    simp
theorem preZ_gap (zs : List ZoneV) (f t : Int) (a : Nat) (ha : (a : Int) = max f 0) : ∀ (m : Nat), (∀ x : Nat, x < m → ((a + x : Nat) : Int) ≤ t) → preZ zs f t (a + m) = (gapFrom (max f 0) m).filter (fun x => !playsZ zs x)
  | 0, _ => by
    have h0 := preZ_flat zs f t 0 a (fun x _ h2 => by omega)
    rw [Nat.zero_add] at h0
    rw [Nat.add_zero, h0]; rfl
  | m + 1, h => by
    rw [← Nat.add_assoc, preZ_succ, preZ_gap zs f t a ha m (fun x hx => h x (by omega)), gap_succ]
    have h1 := h m (by omega)
    have e : max f 0 + (m : Int) = ((a + m : Nat) : Int) := by omega
    rw [e]
    congr 1
    have h2 : decide (f ≤ ((a + m : Nat) : Int)) = true := decide_eq_true (by omega)
    have h3 : decide (((a + m : Nat) : Int) ≤ t) = true := decide_eq_true h1
    rw [h2, h3]
    cases playsZ zs ((a + m : Nat) : Int) <;> rfl
theorem gapZ_pre (zs : List ZoneV) (f t : Int) : gapZ zs f t = preZ zs f t 128 := by
  unfold gapZ
  by_cases h : max f 0 ≤ min t 127
  · obtain ⟨a, ha⟩ : ∃ a : Nat, (a : Int) = max f 0 := ⟨(max f 0).toNat, by omega⟩
    obtain ⟨m, hm⟩ : ∃ m : Nat, m = (min t 127 + 1 - max f 0).toNat := ⟨_, rfl⟩
    rw [← hm, ← preZ_gap zs f t a ha m (fun x hx => by omega)]
    obtain ⟨r, hr⟩ : ∃ r, 128 = a + m + r := ⟨128 - (a + m), by omega⟩
    rw [hr, preZ_flat zs f t (a + m) r (fun x h1 h2 => by omega)]
  · rw [show (min t 127 + 1 - max f 0).toNat = 0 by omega]
    have h0 := preZ_flat zs f t 0 128 (fun x _ h2 => by omega)
    rw [Nat.zero_add] at h0
    rw [h0]; rfl
theorem preZ_prefix (zs : List ZoneV) (f t : Int) (k : Nat) : ∀ (m : Nat), ∃ r, preZ zs f t (k + m) = preZ zs f t k ++ r
  | 0 => ⟨[], by simp⟩
  | m + 1 => by
    obtain ⟨r, hr⟩ := preZ_prefix zs f t k m
    exact ⟨r ++ _, by rw [← Nat.add_assoc, preZ_succ, hr, List.append_assoc]⟩
end Go.Proofs.Ytbgkoopfdfnmcaa
