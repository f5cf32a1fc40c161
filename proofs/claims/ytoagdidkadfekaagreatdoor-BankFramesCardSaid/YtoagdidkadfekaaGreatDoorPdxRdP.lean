/- RdP. Conditions: as each theorem states. -/
import Derived.Test.YtoagdidkadfekaaGreatDoorPd28
import Derived.Test.YtoagdidkadfekaaGreatDoorPd11

namespace Go.Proofs.YtoagdidkadfekaaGreatDoor

/-- where a reader is, and its first error -/
structure RdS where
  at_ : Nat
  er : Int
def cutB (B : List Nat) (i k : Nat) : List Nat := (List.range k).map fun j => bitAt B (i + j)
def getV (B : List Nat) (s : RdS) (k : Nat) : Nat := if s.er ≠ 0 ∨ 8 * B.length < s.at_ + k then 0 else valN (cutB B s.at_ k)
def getS (B : List Nat) (s : RdS) (k : Nat) : RdS := if s.er ≠ 0 then s else if 8 * B.length < s.at_ + k then ⟨s.at_, 2⟩ else ⟨s.at_ + k, 0⟩
def failS (s : RdS) (e : Int) : RdS := if s.er = 0 then ⟨s.at_, e⟩ else s
def sgnV (B : List Nat) (s : RdS) (k : Nat) : Int := if (getS B s k).er ≠ 0 ∨ k = 0 then 0 else if getV B s k / 2 ^ (k - 1) = 1 then (getV B s k : Int) - 2 ^ k else getV B s k
theorem bitAt_le (B : List Nat) (i : Nat) : bitAt B i ≤ 1 := by unfold bitAt; omega
theorem cutB_len (B : List Nat) (i k : Nat) : (cutB B i k).length = k := by simp [cutB]
theorem cutB_bin (B : List Nat) (i k : Nat) : Bin (cutB B i k) := fun b hb => by
  unfold cutB at hb
  obtain ⟨j, _, rfl⟩ := List.mem_map.1 hb
  exact bitAt_le _ _
theorem cutB_succ (B : List Nat) (i k : Nat) : cutB B i (k + 1) = cutB B i k ++ [bitAt B (i + k)] := by unfold cutB; rw [List.range_succ]; simp
theorem getV_lt (B : List Nat) (s : RdS) (k : Nat) : getV B s k < 2 ^ k := by
  unfold getV
  split
  · exact Nat.two_pow_pos k
  · exact valN_lt k _ (cutB_len _ _ _) (cutB_bin _ _ _)
/-- the reader is within its bytes -/
def InB (B : List Nat) (s : RdS) : Prop := s.at_ ≤ 8 * B.length
theorem getS_in {B : List Nat} {s : RdS} (h : InB B s) (k : Nat) : InB B (getS B s k) := by
  unfold InB at *
  unfold getS
  split
  · exact h
  · split
    · exact h
    · show s.at_ + k ≤ _; omega
theorem failS_in {B : List Nat} {s : RdS} (h : InB B s) (e : Int) : InB B (failS s e) := by
  unfold failS; split
  · exact h
  · exact h
/-! What is read of a frame. -/
def rd0 (B : List Nat) : RdS := if getV B ⟨0, 0⟩ 2 = 1 then getS B ⟨0, 0⟩ 2 else failS (getS B ⟨0, 0⟩ 2) 4
def gSt (B : List Nat) : Nat → RdS
  | 0 => rd0 B
  | m + 1 => getS B (gSt B m) 2
def gRd (B : List Nat) (m : Nat) : List Int := (List.range 4).map fun i => if i < m then (getV B (gSt B i) 2 : Int) else 0
def cntR (B : List Nat) : Nat := getV B (gSt B 4) 2
def tSt (B : List Nat) : Nat → RdS
  | 0 => getS B (gSt B 4) 2
  | m + 1 => getS B (getS B (tSt B m) 4) 24
def toneR (B : List Nat) (i : Nat) : ToneV := ⟨getV B (tSt B i) 4, sgnV B (getS B (tSt B i) 4) 24⟩
def tRd (B : List Nat) (m : Nat) : List ToneV := (List.range m).map (toneR B)
def bSt (B : List Nat) : Nat → RdS
  | 0 => tSt B (cntR B)
  | m + 1 => if 23 < getV B (bSt B m) 5 ∨ 24 < getV B (getS B (bSt B m) 5) 5 then failS (getS B (getS B (bSt B m) 5) 5) 4 else getS B (getS B (bSt B m) 5) 5
def sOf (B : List Nat) (i : Nat) : Nat := getV B (bSt B i) 5
def wOf (B : List Nat) (i : Nat) : Nat := getV B (getS B (bSt B i) 5) 5
def sRd (B : List Nat) (m : Nat) : List Int := (List.range 4).map fun i => if i < m then (sOf B i : Int) else 0
def wRd (B : List Nat) (m : Nat) : List Int := (List.range 4).map fun i => if i < m then (wOf B i : Int) else 0
def qSt (B : List Nat) : Nat → RdS
  | 0 => bSt B 4
  | m + 1 => getS B (qSt B m) (wOf B (m / 4))
def qOf (B : List Nat) (i : Nat) : Int := sgnV B (qSt B i) (wOf B (i / 4))
def qRd (B : List Nat) (m : Nat) : List Int := (List.range 16).map fun i => if i < m then qOf B i else 0
def frameR (B : List Nat) : FrameV := ⟨gRd B 4, tRd B (cntR B), sRd B 4, wRd B 4, qRd B 16⟩
/-- the rest, bit by bit -/
def endS (B : List Nat) (s : RdS) : Nat → RdS
  | 0 => s
  | n + 1 => if s.er ≠ 0 ∨ 8 * B.length ≤ s.at_ then s else endS B (if getV B s 1 = 0 then getS B s 1 else failS (getS B s 1) 4) n
def endR (B : List Nat) : Int := (endS B (qSt B 16) (8 * B.length)).er

theorem gSt_in (B : List Nat) : ∀ m, InB B (gSt B m)
  | 0 => by
    show InB B (rd0 B)
    have h0 : InB B ⟨0, 0⟩ := Nat.zero_le _
    unfold rd0
    split
    · exact getS_in h0 2
    · exact failS_in (getS_in h0 2) 4
  | m + 1 => getS_in (gSt_in B m) 2
theorem tSt_in (B : List Nat) : ∀ m, InB B (tSt B m)
  | 0 => getS_in (gSt_in B 4) 2
  | m + 1 => getS_in (getS_in (tSt_in B m) 4) 24
theorem bSt_in (B : List Nat) : ∀ m, InB B (bSt B m)
  | 0 => tSt_in B _
  | m + 1 => by
    have := getS_in (getS_in (bSt_in B m) 5) 5
    unfold bSt
    split
    · exact failS_in this 4
    · exact this
theorem qSt_in (B : List Nat) : ∀ m, InB B (qSt B m)
  | 0 => bSt_in B 4
  | m + 1 => getS_in (qSt_in B m) _
theorem gRd_len (B : List Nat) (m : Nat) : (gRd B m).length = 4 := by simp [gRd]
theorem sRd_len (B : List Nat) (m : Nat) : (sRd B m).length = 4 := by simp [sRd]
theorem wRd_len (B : List Nat) (m : Nat) : (wRd B m).length = 4 := by simp [wRd]
theorem qRd_len (B : List Nat) (m : Nat) : (qRd B m).length = 16 := by simp [qRd]
theorem frameR_len (B : List Nat) : (frameR B).Len := ⟨gRd_len _ _, sRd_len _ _, wRd_len _ _, qRd_len _ _⟩
theorem upto_set {α : Type} (n : Nat) (f g : Nat → α) {m : Nat} (hm : m < n) : ((List.range n).map fun i => if i < m then f i else g i).set m (f m) = (List.range n).map fun i => if i < m + 1 then f i else g i := by
  apply List.ext_getElem?
  intro i
  rw [List.getElem?_set]
  simp only [List.length_map, List.length_range]
  by_cases h : m = i
  · subst h
    rw [if_pos rfl, if_pos hm, range_map_get _ hm, if_pos (by omega)]
  · rw [if_neg h]
    rcases Nat.lt_or_ge i n with hi | hi
    · rw [range_map_get _ hi, range_map_get _ hi]
      by_cases h2 : i < m
      · rw [if_pos h2, if_pos (by omega)]
      · rw [if_neg h2, if_neg (by omega)]
    · rw [List.getElem?_eq_none (by simpa using hi), List.getElem?_eq_none (by simpa using hi)]
/-! Bits that stand in bytes. -/
def Here (B : List Nat) (i : Nat) (L : List Nat) : Prop := i + L.length ≤ 8 * B.length ∧ ∀ j, j < L.length → bitAt B (i + j) = L.getD j 0
theorem Here.left {B : List Nat} {i : Nat} {a b : List Nat} (h : Here B i (a ++ b)) : Here B i a := by
  refine ⟨by have := h.1; rw [List.length_append] at this; omega, fun j hj => ?_⟩
  rw [h.2 j (by rw [List.length_append]; omega), List.getD_eq_getElem?_getD, List.getElem?_append_left hj, List.getD_eq_getElem?_getD]
theorem Here.right {B : List Nat} {i : Nat} {a b : List Nat} (h : Here B i (a ++ b)) : Here B (i + a.length) b := by
  refine ⟨by have := h.1; rw [List.length_append] at this; omega, fun j hj => ?_⟩
  rw [Nat.add_assoc, h.2 (a.length + j) (by rw [List.length_append]; omega), List.getD_eq_getElem?_getD, List.getElem?_append_right (by omega), Nat.add_sub_cancel_left, List.getD_eq_getElem?_getD]
theorem Here.cut {B : List Nat} {i : Nat} {L : List Nat} (h : Here B i L) : cutB B i L.length = L := by
  apply List.ext_getElem?
  intro j
  unfold cutB
  rcases Nat.lt_or_ge j L.length with hj | hj
  · rw [range_map_get _ hj, h.2 j hj, List.getD_eq_getElem?_getD, List.getElem?_eq_getElem hj]; rfl
  · rw [List.getElem?_eq_none (by simpa using hj), List.getElem?_eq_none hj]
/-! A frame's bits, read again. -/
end Go.Proofs.YtoagdidkadfekaaGreatDoor
