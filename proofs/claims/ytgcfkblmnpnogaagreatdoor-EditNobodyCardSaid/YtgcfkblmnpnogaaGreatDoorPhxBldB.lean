/- BldB. Conditions: as each theorem states. -/
import Derived.Test.YtgcfkblmnpnogaaGreatDoorPh40

namespace Go.Proofs.YtgcfkblmnpnogaaGreatDoor
open Go.RowKit Go.Lib

section
variable {size : Nat} {SS : List SampV}
theorem kOf_pack (size : Nat) (SS : List SampV) : ∀ m, m ≤ SS.length → kOf (SS.map metaOf) m = (frTo size SS m).length
  | 0, _ => rfl
  | m + 1, hm => by
    obtain ⟨s, hs⟩ : ∃ s, SS[m]? = some s := ⟨_, List.getElem?_eq_getElem (by omega)⟩
    have hx : (SS.map metaOf)[m]? = some (metaOf s) := by rw [List.getElem?_map, hs]; rfl
    rw [kOf_succ hx, kOf_pack size SS m (by omega), framesN_nat, Int.toNat_natCast, frTo_succ hs, List.length_append, frS_len]
theorem CanP.frTo_mem (h : CanP size SS) : ∀ m, m ≤ SS.length → ∀ f ∈ frTo size SS m, f.length = size ∧ Byt f
  | 0, _, f, hf => by simp [frTo] at hf
  | m + 1, hm, f, hf => by
    obtain ⟨s, hs⟩ : ∃ s, SS[m]? = some s := ⟨_, List.getElem?_eq_getElem (by omega)⟩
    rw [frTo_succ hs] at hf
    rcases List.mem_append.1 hf with hf | hf
    · exact h.frTo_mem m (by omega) f hf
    · unfold frS at hf
      obtain ⟨q, hq, rfl⟩ := List.mem_map.1 hf
      obtain ⟨d, x, h1, h2, h3, h4, h5⟩ := h.frAt_eq hs (List.mem_range.1 hq)
      have hfine := h.fine s (List.mem_of_getElem? hs)
      have hRi := framesZ_right (hfine.good.2 d (List.mem_of_getElem? h2)).2 (size := (size : Int)) (by have := h.lo; omega) (by have := h.hi; omega) x (List.mem_of_getElem? h4)
      rw [h5]
      exact ⟨frameBytes_len hRi.1 hRi.2, frameBytes_byt x size⟩
/-- what is packed may be built -/
theorem CanP.can (h : CanP size SS) : CanB size (SS.map metaOf) (frTo size SS SS.length) := by
  have hl : (SS.map metaOf).length = SS.length := List.length_map _
  refine ⟨h.lo, h.hi, by have := h.many; omega, fun x hx => ?_, fun m x y hx hy => ?_, by rw [hl]; exact kOf_pack size SS SS.length (Nat.le_refl _), fun f hf => (h.frTo_mem SS.length (Nat.le_refl _) f hf).1, fun f hf => (h.frTo_mem SS.length (Nat.le_refl _) f hf).2, ?_⟩
  · obtain ⟨s, hs, rfl⟩ := List.mem_map.1 hx
    exact h.right s hs
  · rw [List.getElem?_map] at hx hy
    cases hs1 : SS[m]? with
    | none => rw [hs1] at hx; cases hx
    | some s1 =>
      cases hs2 : SS[m + 1]? with
      | none => rw [hs2] at hy; cases hy
      | some s2 =>
        rw [hs1] at hx
        rw [hs2] at hy
        have hx : metaOf s1 = x := Option.some.inj hx
        have hy : metaOf s2 = y := Option.some.inj hy
        rw [← hx, ← hy]
        exact h.asc m s1 s2 hs1 hs2
  · have h1 := h.len_eq
    have h2 := h.len_bd
    rw [hl, ← h1]
    omega
theorem bldN_pack (size : Nat) (SS : List SampV) : bldN size (SS.map metaOf) = packLen size SS := by
  unfold bldN packLen
  rw [List.length_map]
theorem bldDir_pack (size : Nat) (SS : List SampV) : bldDir size (SS.map metaOf) = packDir size SS := by
  unfold bldDir packDir
  rw [List.length_map]
/-- a packed image is built of its frames -/
theorem CanP.bld_eq (h : CanP size SS) : packZ size SS = bldZ size (SS.map metaOf) (frTo size SS SS.length) := by
  have h1 := h.law_eq
  have h2 := h.can.law_eq
  rw [bldN_pack, bldDir_pack] at h2
  rw [← h1, h2]
end
end Go.Proofs.YtgcfkblmnpnogaaGreatDoor
