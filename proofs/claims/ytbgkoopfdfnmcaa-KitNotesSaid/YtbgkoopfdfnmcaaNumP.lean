/- Plain lemmas on the widths of numbers, on what is nearest. No condition but each theorem's own. -/
import Derived.Test.YtbgkoopfdfnmcaaNumA
namespace Go.Proofs.Ytbgkoopfdfnmcaa

/-- how many bits a number from 0 on has -/
def bitsN (n : Nat) : Nat := if n = 0 then 0 else n.log2 + 1
theorem bitsN_half {n : Nat} (h : 0 < n) : bitsN n = bitsN (n / 2) + 1 := by
  unfold bitsN
  rw [if_neg (by omega)]
  by_cases h2 : n / 2 = 0
  · have : n = 1 := by omega
    subst this; rfl
  · rw [if_neg h2, Nat.log2_def, if_pos (by omega)]
theorem bitsN_zero : bitsN 0 = 0 := rfl
theorem bitsN_le : ∀ {k n : Nat}, n < 2 ^ k → bitsN n ≤ k
  | 0, n, h => by have : n = 0 := by omega
                  subst this; simp [bitsN]
  | k + 1, n, h => by
    rcases Nat.eq_zero_or_pos n with h0 | h0
    · subst h0; simp [bitsN]
    · rw [bitsN_half h0]
      have := bitsN_le (k := k) (n := n / 2) (by rw [Nat.pow_succ] at h; omega)
      omega
theorem lt_bitsN : ∀ (k n : Nat), bitsN n ≤ k → n < 2 ^ k
  | 0, n, h => by
    rcases Nat.eq_zero_or_pos n with h0 | h0
    · subst h0; decide
    · rw [bitsN_half h0] at h; omega
  | k + 1, n, h => by
    rcases Nat.eq_zero_or_pos n with h0 | h0
    · subst h0; exact Nat.two_pow_pos _
    · rw [bitsN_half h0] at h
      have := lt_bitsN k (n / 2) (by omega)
      rw [Nat.pow_succ]; omega
theorem bitsN_mono {a b : Nat} (h : a ≤ b) : bitsN a ≤ bitsN b := bitsN_le (Nat.lt_of_le_of_lt h (lt_bitsN _ b (Nat.le_refl _)))

/-- a number without its sign's bit -/
def bodyN (v : Int) : Nat := if v < 0 then (-v - 1).toNat else v.toNat
def widthZ (v : Int) : Nat := if v = 0 then 0 else 1 + bitsN (bodyN v)
theorem widthZ_zero : widthZ 0 = 0 := rfl
theorem widthZ_le {v : Int} {k : Nat} (h1 : -(2 ^ k : Nat) ≤ v) (h2 : v < (2 ^ k : Nat)) : widthZ v ≤ k + 1 := by
  unfold widthZ
  split
  · omega
  · have : bitsN (bodyN v) ≤ k := bitsN_le (by unfold bodyN; split <;> omega)
    omega
theorem widthZ_bd {v : Int} {k : Nat} (h : widthZ v ≤ k + 1) : -(2 ^ k : Nat) ≤ v ∧ v < (2 ^ k : Nat) := by
  unfold widthZ at h
  have hp : 0 < 2 ^ k := Nat.two_pow_pos k
  split at h
  · omega
  · have := lt_bitsN k (bodyN v) (by omega)
    unfold bodyN at this
    split at this <;> omega
theorem widthZ_mono {a b : Int} (ha : 0 ≤ a) (h : a ≤ b) : widthZ a ≤ widthZ b := by
  unfold widthZ
  split
  · omega
  · rw [if_neg (by omega)]
    have : bitsN (bodyN a) ≤ bitsN (bodyN b) := bitsN_mono (by unfold bodyN; rw [if_neg (by omega), if_neg (by omega)]; omega)
    omega
theorem widthZ_max {a b : Int} (ha : 0 ≤ a) (hb : 0 ≤ b) : widthZ (max a b) = max (widthZ a) (widthZ b) := by
  rcases Int.le_total a b with h | h
  · rw [Int.max_eq_right h, Nat.max_eq_right (widthZ_mono ha h)]
  · rw [Int.max_eq_left h, Nat.max_eq_left (widthZ_mono hb h)]

/-- to the nearest, halves away from 0 -/
def nearZ (v : Int) (p : Nat) : Int :=
  if p = 0 then v else
  if 2 ^ (p - 1) ≤ v.tmod (2 ^ p) then v.tdiv (2 ^ p) + 1 else if v.tmod (2 ^ p) ≤ -2 ^ (p - 1) then v.tdiv (2 ^ p) - 1 else v.tdiv (2 ^ p)
theorem nearZ_zero (v : Int) : nearZ v 0 = v := rfl
/-- the greatest of numbers without their signs -/
def peakZ (l : List Int) : Int := l.foldl (fun p v => max p (absZ v)) 0
theorem peakZ_snoc (l : List Int) (x : Int) : peakZ (l ++ [x]) = max (peakZ l) (absZ x) := by unfold peakZ; rw [List.foldl_append]; rfl
theorem absZ_nn {v : Int} : 0 ≤ absZ v := by unfold absZ; (repeat' split) <;> omega
theorem peakZ_nn (l : List Int) : 0 ≤ peakZ l := by
  unfold peakZ
  have : ∀ (l : List Int) (a : Int), 0 ≤ a → 0 ≤ l.foldl (fun p v => max p (absZ v)) a := by
    intro l
    induction l with
    | nil => intro a h; exact h
    | cons x r ih => intro a h; exact ih (max a (absZ x)) (by omega)
  exact this l 0 (by omega)
theorem peakZ_le {B : Int} (hB : 0 ≤ B) (l : List Int) (h : ∀ x ∈ l, absZ x ≤ B) : peakZ l ≤ B := by
  unfold peakZ
  have : ∀ (l : List Int) (a : Int), a ≤ B → (∀ x ∈ l, absZ x ≤ B) → l.foldl (fun p v => max p (absZ v)) a ≤ B := by
    intro l
    induction l with
    | nil => intro a h _; exact h
    | cons x r ih => intro a h hx; exact ih (max a (absZ x)) (by have := hx x (by simp); omega) (fun y hy => hx y (by simp [hy]))
  exact this l 0 hB h
theorem peakZ_ge (l : List Int) : ∀ x ∈ l, absZ x ≤ peakZ l := by
  unfold peakZ
  have : ∀ (l : List Int) (a : Int), a ≤ l.foldl (fun p v => max p (absZ v)) a ∧ ∀ x ∈ l, absZ x ≤ l.foldl (fun p v => max p (absZ v)) a := by
    intro l
    induction l with
    | nil => intro a; exact ⟨Int.le_refl _, fun x h => by simp at h⟩
    | cons x r ih =>
      intro a
      obtain ⟨h1, h2⟩ := ih (max a (absZ x))
      refine ⟨by rw [List.foldl_cons]; omega, fun y hy => ?_⟩
      rw [List.foldl_cons]
      rcases List.mem_cons.1 hy with rfl | hy
      · omega
      · exact h2 y hy
  exact (this l 0).2
theorem absZ_le {v B : Int} (h0 : -B ≤ v) (h1 : v ≤ B) (hB : B ≤ 9223372036854775807) : absZ v ≤ B := by unfold absZ; (repeat' split) <;> omega
end Go.Proofs.Ytbgkoopfdfnmcaa
