/- LayP. Conditions: as each theorem states. -/
import Derived.Test.YtoagdidkadfekaaGreatDoorPfxLayC

namespace Go.Proofs.YtoagdidkadfekaaGreatDoor
open Go.RowKit Go.Lib

theorem byt_gd {X : List Nat} (hX : Byt X) (i : Nat) : X.getD i 0 < 256 := by
  rw [List.getD_eq_getElem?_getD]
  cases h : X[i]? with
  | none => exact (by decide : (0 : Nat) < 256)
  | some y => exact hX y (List.mem_of_getElem? h)
theorem num4_read {X : List Nat} (hX : Byt X) (a : Nat) {j : Nat} (hj : j < 4) : (numB 4 (readTo X a 4)).getD j 0 = X.getD (a + j) 0 := by
  have b0 := byt_gd hX (a + 0)
  have b1 := byt_gd hX (a + 1)
  have b2 := byt_gd hX (a + 2)
  have b3 := byt_gd hX (a + 3)
  have e : readTo X a 4 = (((0 * 256 + X.getD (a + 0) 0) * 256 + X.getD (a + 1) 0) * 256 + X.getD (a + 2) 0) * 256 + X.getD (a + 3) 0 := rfl
  rw [numB_gd hj, e]
  rcases (show j = 0 ∨ j = 1 ∨ j = 2 ∨ j = 3 by omega) with rfl | rfl | rfl | rfl
  all_goals
    simp only [Nat.reduceMul, Nat.reduceSub, Nat.reducePow, Nat.sub_zero, Nat.sub_self, Nat.mul_zero, Nat.pow_zero]
    omega
theorem num2_read {X : List Nat} (hX : Byt X) (a : Nat) {j : Nat} (hj : j < 2) : (numB 2 (readTo X a 2)).getD j 0 = X.getD (a + j) 0 := by
  have b0 := byt_gd hX (a + 0)
  have b1 := byt_gd hX (a + 1)
  have e : readTo X a 2 = (0 * 256 + X.getD (a + 0) 0) * 256 + X.getD (a + 1) 0 := rfl
  rw [numB_gd hj, e]
  rcases (show j = 0 ∨ j = 1 by omega) with rfl | rfl
  all_goals
    simp only [Nat.reduceMul, Nat.reduceSub, Nat.reducePow, Nat.sub_zero, Nat.sub_self, Nat.mul_zero, Nat.pow_zero]
    omega
/-- what parsing found of an image -/
structure ParsedP (bs : List Nat) (n size : Nat) : Prop where
  len : 20 ≤ bs.length
  sign : subB bs 0 4 = [67, 65, 76, 49]
  nought : readTo bs 11 4 = 0
  last : bs.getD 15 0 = 0
  lo : 24 ≤ size
  hi : size ≤ 96
  many : n ≤ 64
  all : readTo bs 4 4 = bs.length
  room : 20 + n * 64 ≤ bs.length
  sum : crcZ (bs.take (16 + n * 64)) = (readTo bs (16 + n * 64) 4 : Nat)
  dir : dirTo bs n = true
  up : upZ (atTo size (dirZ bs n) n) 64 = bs.length
  mix : mixTo size (dirZ bs n) n = dirZ bs n
theorem ParsedP.low {bs : List Nat} {n size : Nat} (h : ParsedP bs n size) (hb : Byt bs) (hn : cntZ bs = n) (hs : sizeZ bs = size) {i : Nat} (hi : i < 16) : layG (headW bs.length n size) i 0 = bs.getD i 0 := by
  have hz := h.nought
  have hz : (((0 * 256 + bs.getD (11 + 0) 0) * 256 + bs.getD (11 + 1) 0) * 256 + bs.getD (11 + 2) 0) * 256 + bs.getD (11 + 3) 0 = 0 := hz
  simp only [Nat.reduceAdd, Nat.add_zero] at hz
  have hl := h.last
  by_cases c0 : i < 4
  · have hg := h.sign
    have h2 : (subB bs 0 4)[i]? = some (bs.getD (0 + i) 0) := subB_get (by omega)
    rw [hg, Nat.zero_add] at h2
    unfold headW
    simp only [layG]
    iterate 3 rw [if_neg (by simp only [numB_len, List.length_cons, List.length_nil]; omega)]
    rw [if_pos (by simp only [List.length_cons, List.length_nil]; omega), List.getD_eq_getElem?_getD, Nat.sub_zero, h2]
    rfl
  by_cases c1 : i < 8
  · have := num4_read hb 4 (j := i - 4) (by omega)
    rw [h.all, show 4 + (i - 4) = i by omega] at this
    unfold headW
    simp only [layG]
    iterate 2 rw [if_neg (by simp only [numB_len, List.length_cons, List.length_nil]; omega)]
    rw [if_pos (by rw [numB_len]; omega), this]
  by_cases c2 : i < 10
  · have := num2_read hb 8 (j := i - 8) (by omega)
    unfold cntZ at hn
    rw [hn, show 8 + (i - 8) = i by omega] at this
    unfold headW
    simp only [layG]
    rw [if_neg (by simp only [List.length_cons, List.length_nil]; omega)]
    rw [if_pos (by rw [numB_len]; omega), this]
  by_cases c3 : i = 10
  · subst c3
    unfold headW
    simp only [layG]
    rw [if_pos (by simp only [List.length_cons, List.length_nil]; omega)]
    exact hs.symm
  · unfold headW
    simp only [layG]
    iterate 4 rw [if_neg (by simp only [numB_len, List.length_cons, List.length_nil]; omega)]
    rcases (show i = 11 ∨ i = 12 ∨ i = 13 ∨ i = 14 ∨ i = 15 by omega) with rfl | rfl | rfl | rfl | rfl
    all_goals omega
end Go.Proofs.YtoagdidkadfekaaGreatDoor
