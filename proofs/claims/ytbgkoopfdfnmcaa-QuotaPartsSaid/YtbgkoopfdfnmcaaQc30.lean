/- Names. Conditions: as each theorem states. -/
import Derived.Lib.Bytealg
import Derived.Test.YtbgkoopfdfnmcaaQc14

namespace Go.Proofs.Ytbgkoopfdfnmcaa
open Go.Lib

theorem cmpB_self : ∀ (a : List UInt8), compareBytes a a = 0
  | [] => rfl
  | x :: r => by
    unfold compareBytes
    rw [if_neg (UInt8.lt_irrefl x), if_neg (UInt8.lt_irrefl x)]
    exact cmpB_self r
theorem u8_lt {a b : UInt8} : a < b ↔ a.toNat < b.toNat := UInt8.lt_iff_toNat_lt
theorem u8_eq {a b : UInt8} (h : a.toNat = b.toNat) : a = b := UInt8.toNat_inj.1 h
theorem u8_nlt {a b : UInt8} (h : ¬ a < b) : b.toNat ≤ a.toNat := Nat.not_lt.1 fun h2 => h (u8_lt.2 h2)
theorem cmpB_three : ∀ (a b : List UInt8), (compareBytes a b = -1 ∧ compareBytes b a = 1) ∨ (compareBytes a b = 1 ∧ compareBytes b a = -1) ∨ (compareBytes a b = 0 ∧ compareBytes b a = 0 ∧ a = b)
  | [], [] => .inr (.inr ⟨rfl, rfl, rfl⟩)
  | [], _ :: _ => .inl ⟨rfl, rfl⟩
  | _ :: _, [] => .inr (.inl ⟨rfl, rfl⟩)
  | x :: r, y :: s => by
    unfold compareBytes
    rcases Nat.lt_trichotomy x.toNat y.toNat with h | h | h
    · rw [if_pos (u8_lt.2 h), if_neg (fun h2 => by have := u8_lt.1 h2; omega), if_pos (u8_lt.2 h)]
      exact .inl ⟨rfl, rfl⟩
    · obtain rfl := u8_eq h
      rw [if_neg (UInt8.lt_irrefl x), if_neg (UInt8.lt_irrefl x), if_neg (UInt8.lt_irrefl x), if_neg (UInt8.lt_irrefl x)]
      rcases cmpB_three r s with h1 | h1 | ⟨h1, h2, h3⟩
      · exact .inl h1
      · exact .inr (.inl h1)
      · exact .inr (.inr ⟨h1, h2, by rw [h3]⟩)
    · rw [if_neg (fun h2 => by have := u8_lt.1 h2; omega), if_pos (u8_lt.2 h), if_pos (u8_lt.2 h)]
      exact .inr (.inl ⟨rfl, rfl⟩)
theorem cmpB_trans : ∀ (a b c : List UInt8), compareBytes a b < 0 → compareBytes b c < 0 → compareBytes a c < 0
  | [], [], _, h, _ => absurd h (by simp [compareBytes])
  | [], _ :: _, [], _, h => absurd h (by simp [compareBytes])
  | [], _ :: _, _ :: _, _, _ => by simp [compareBytes]
  | _ :: _, [], _, h, _ => absurd h (by simp [compareBytes])
  | _ :: _, _ :: _, [], _, h => absurd h (by simp [compareBytes])
  | x :: r, y :: s, z :: t, h1, h2 => by
    unfold compareBytes at *
    have ih := cmpB_trans r s t
    by_cases e1 : x < y
    · by_cases e2 : y < z
      · rw [if_pos (u8_lt.2 (Nat.lt_trans (u8_lt.1 e1) (u8_lt.1 e2)))]; omega
      · rw [if_neg e2] at h2
        by_cases e3 : z < y
        · rw [if_pos e3] at h2; omega
        · obtain rfl : y = z := u8_eq (Nat.le_antisymm (u8_nlt e3) (u8_nlt e2))
          rw [if_pos e1]; omega
    · rw [if_neg e1] at h1
      by_cases e4 : y < x
      · rw [if_pos e4] at h1; omega
      · obtain rfl : x = y := u8_eq (Nat.le_antisymm (u8_nlt e4) (u8_nlt e1))
        rw [if_neg e4] at h1
        by_cases e2 : x < z
        · rw [if_pos e2]; omega
        · rw [if_neg e2] at h2
          by_cases e3 : z < x
          · rw [if_pos e3] at h2; omega
          · rw [if_neg e3] at h2
            rw [if_neg e2, if_neg e3]
            exact ih h1 h2
/-- is a text ahead of another one? -/
def nameLt (a b : ByteArray) : Bool := decide (compareBytes a.data.toList b.data.toList < 0)
theorem bytes_eq {a b : ByteArray} (h : a.data.toList = b.data.toList) : a = b := by
  apply ByteArray.ext; exact Array.toList_inj.1 h
theorem nameLt_irr (a : ByteArray) : nameLt a a = false := by unfold nameLt; rw [cmpB_self]; rfl
theorem nameLt_asy {a b : ByteArray} (h : nameLt a b = true) : nameLt b a = false := by
  unfold nameLt at *
  rcases cmpB_three a.data.toList b.data.toList with ⟨_, h4⟩ | ⟨h3, _⟩ | ⟨h3, _⟩
  · rw [h4]; rfl
  · rw [h3] at h; simp at h
  · rw [h3] at h; simp at h
theorem nameLt_trans {a b c : ByteArray} (h1 : nameLt a b = true) (h2 : nameLt b c = true) : nameLt a c = true := by
  unfold nameLt at *
  simp only [decide_eq_true_eq] at *
  exact cmpB_trans _ _ _ h1 h2
theorem nameLt_eq {a b : ByteArray} (h1 : nameLt a b = false) (h2 : nameLt b a = false) : a = b := by
  unfold nameLt at *
  rcases cmpB_three a.data.toList b.data.toList with ⟨h3, h4⟩ | ⟨h3, h4⟩ | ⟨_, _, h3⟩
  · simp [h3] at h1
  · simp [h4] at h2
  · exact bytes_eq h3
end Go.Proofs.Ytbgkoopfdfnmcaa
