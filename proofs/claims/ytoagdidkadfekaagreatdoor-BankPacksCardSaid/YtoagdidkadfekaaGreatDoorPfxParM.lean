/- ParM. Conditions: as each theorem states. -/
import Derived.Test.YtoagdidkadfekaaGreatDoorPfxParL

namespace Go.Proofs.YtoagdidkadfekaaGreatDoor
open Go.RowKit Go.Lib

/-- every frame that a directory tells lies in the image -/
structure FitB (bs : List Nat) (size : Nat) (D : List MetaV) : Prop where
  lo : 24 ≤ size
  hi : size ≤ 96
  many : D.length ≤ 64
  long : bs.length ≤ 4000000
  byt : Byt bs
  right : ∀ x ∈ D, x.right = true
  lie : ∀ x ∈ D, 0 ≤ x.sums ∧ x.sums + 4 * framesN x ≤ x.first ∧ x.first + size * framesN x ≤ bs.length
theorem upZ16_ge (n : Int) : n ≤ upZ n 16 := by unfold upZ; omega
theorem upZ64_ge (n : Int) : n ≤ upZ n 64 := by unfold upZ; omega
theorem genTo_step {size : Int} {L : List MetaV} (h1 : 24 ≤ size) (hL : ∀ x ∈ L, GenM x) (m : Nat) : atTo size L m ≤ atTo size L (m + 1) := by
  cases hx : L[m]? with
  | none =>
    have e : atTo size L (m + 1) = atTo size L m := by
      show (match L[m]? with | some x => _ | none => _) = _
      rw [hx]
    rw [e]; exact Int.le_refl _
  | some x =>
    rw [atTo_succ hx]
    have hF := (hL x (List.mem_of_getElem? hx)).fr
    have h3 : 0 ≤ size * framesN x := Int.mul_nonneg (by omega) hF.1
    have h4 := upZ16_ge (atTo size L m + 4 * framesN x)
    omega
theorem genTo_mono {size : Int} {L : List MetaV} (h1 : 24 ≤ size) (hL : ∀ x ∈ L, GenM x) {m n : Nat} (h : m ≤ n) : atTo size L m ≤ atTo size L n := by
  induction n with
  | zero =>
    have : m = 0 := by omega
    subst this; exact Int.le_refl _
  | succ n ih =>
    by_cases hm : m = n + 1
    · subst hm; exact Int.le_refl _
    · exact Int.le_trans (ih (by omega)) (genTo_step h1 hL n)
/-- in what is parsed every frame lies -/
theorem fit_parsed {bs : List Nat} (h : parseZ bs = 0) (hl : bs.length ≤ 4000000) (hb : Byt bs) : FitB bs (sizeZ bs) (dirZ bs (cntZ bs)) := by
  unfold parseZ at h
  split at h
  · cases h
  split at h
  · cases h
  split at h
  · cases h
  rename_i hsz
  split at h
  · cases h
  split at h
  · cases h
  split at h
  · cases h
  rename_i hdir
  split at h
  · cases h
  rename_i hpl
  have hdir : dirTo bs (cntZ bs) = true := by simpa using hdir
  have hright := dirTo_right _ hdir
  unfold sizeBad at hsz
  simp only [Bool.or_eq_true, decide_eq_true_eq, not_or] at hsz
  obtain ⟨h1, h2, h3, h4⟩ := hsz
  unfold placeBad at hpl
  simp only [Bool.or_eq_true, decide_eq_true_eq, Bool.not_eq_true', not_or, Bool.not_eq_false, Decidable.not_not] at hpl
  obtain ⟨h5, h6, h7⟩ := hpl
  have h7 := allEq_eq h7
  have hgen : ∀ x ∈ dirZ bs (cntZ bs), GenM x := fun x hx => genM_right (hright x hx)
  refine ⟨by omega, by omega, by rw [dirZ_len]; omega, hl, hb, hright, fun x hx => ?_⟩
  obtain ⟨m, hm, rfl⟩ := List.mem_iff_getElem.1 hx
  have hm' : m < cntZ bs := by rw [dirZ_len] at hm; exact hm
  have hx0 : (dirZ bs (cntZ bs))[m]? = some (dirZ bs (cntZ bs))[m] := List.getElem?_eq_getElem hm
  have hg := mixTo_get (size := (sizeZ bs : Int)) hx0 (cntZ bs)
  rw [if_pos hm', h7, hx0] at hg
  injection hg with hg
  have hF := (hgen _ hx).fr
  have hbd := genTo_bd (size := (sizeZ bs : Int)) (by omega) (by omega) hgen (by rw [dirZ_len]; omega) m
  have hmo := genTo_mono (size := (sizeZ bs : Int)) (by omega) hgen (show m + 1 ≤ cntZ bs by omega)
  rw [atTo_succ hx0] at hmo
  have hu := upZ64_ge (atTo (sizeZ bs) (dirZ bs (cntZ bs)) (cntZ bs))
  have hge := upZ16_ge (atTo (sizeZ bs) (dirZ bs (cntZ bs)) m + 4 * framesN (dirZ bs (cntZ bs))[m])
  have hs : ((dirZ bs (cntZ bs))[m]).sums = atTo (sizeZ bs) (dirZ bs (cntZ bs)) m := by
    have := congrArg MetaV.sums hg; exact this
  have hf : ((dirZ bs (cntZ bs))[m]).first = upZ (atTo (sizeZ bs) (dirZ bs (cntZ bs)) m + 4 * framesN (dirZ bs (cntZ bs))[m]) 16 := by
    have := congrArg MetaV.first hg; exact this
  rw [hs, hf]
  omega
/-! The methods. -/
end Go.Proofs.YtoagdidkadfekaaGreatDoor
