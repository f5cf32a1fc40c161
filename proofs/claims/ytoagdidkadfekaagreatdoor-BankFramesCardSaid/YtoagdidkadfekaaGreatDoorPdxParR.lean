/- ParR. Conditions: as each theorem states. -/
import Derived.Test.YtoagdidkadfekaaGreatDoorPdxParQ2

namespace Go.Proofs.YtoagdidkadfekaaGreatDoor
open Go.RowKit Go.Lib

section
variable {size : Nat} {SS : List SampV}
theorem CanP.fit (h : CanP size SS) : FitB (packZ size SS) size (packDir size SS) := by
  have hl := h.len_bd
  have := fit_parsed (packZ_parse h) (by rw [packZ_len h]; omega) (packZ_byt h)
  rw [packZ_size h, packZ_cnt h, packZ_dir h] at this
  exact this
/-- a frame that is asked for -/
theorem CanP.asked (h : CanP size SS) {i c b : Int} (hE : whereE (packDir size SS) i c b = 0) :
    ∃ m s d x, i = (m : Nat) ∧ SS[m]? = some s ∧ s.rows[c.toNat]? = some d ∧ (framesZ d size)[b.toNat]? = some x ∧ subB (packZ size SS) (whereAt (packDir size SS) size i c b).toNat size = frameBytes x size ∧ (whereSum (packDir size SS) (packZ size SS) i c b : Int) = crcZ (frameBytes x size) := by
  have hE0 : metaE (packDir size SS) i = 0 := by
    unfold whereE at hE
    split at hE
    · cases hE
    · rename_i h1; simpa using h1
  have hi : ¬ (i < 0 ∨ ((packDir size SS).length : Int) ≤ i) := by
    intro hc
    unfold metaE at hE0
    rw [if_pos hc] at hE0
    cases hE0
  obtain ⟨m, rfl⟩ := Int.eq_ofNat_of_zero_le (show 0 ≤ i by omega)
  rw [packDir_len] at hi
  have hm : m < SS.length := by omega
  obtain ⟨s, hs⟩ : ∃ s, SS[m]? = some s := ⟨_, List.getElem?_eq_getElem hm⟩
  obtain ⟨F, S, cnt, R, A, B, hpl⟩ := h.place hs
  have hx0 := packDir_get (size := size) hs
  have hmi : metaI (packDir size SS) (m : Int) = plc size (SS.map metaOf) m (metaOf s) := by
    unfold metaI
    rw [packDir_len, if_neg hi, Int.toNat_natCast, List.getD_eq_getElem?_getD, hx0]
    rfl
  obtain ⟨x, hxD, hxe, ch, cn, bn, S', F', q, P, e1, rfl, rfl, e2, e3, hm1, hq, hP, hm2, l1, l2, ⟨c0, c1⟩, b0, b1, hbc⟩ := where_lies h.fit hE
  rw [hmi] at hxe
  have hfst : x.first = F := by
    have := hpl.fst
    rw [hx0, hxe] at this
    exact Option.some.inj this
  have hsum : x.sums = S := by
    have := hpl.sum
    rw [hx0, hxe] at this
    exact Option.some.inj this
  have hch : x.channels = R := by
    rw [← hxe, ← hpl.hR]
    rfl
  have hlen : countZ x.length = cnt := by
    rw [← hxe, ← hpl.hcnt, ← countZ_N]
    rfl
  have hF : F' = F := by omega
  have hS : S' = S := by omega
  have hR : ch = R := by omega
  subst hF hS hR
  have hfine := h.fine s (List.mem_of_getElem? hs)
  have hcn : cn < ch := by omega
  obtain ⟨d, hd⟩ : ∃ d, s.rows[cn]? = some d := ⟨_, List.getElem?_eq_getElem (by rw [hpl.hR]; exact hcn)⟩
  have hbn : bn < cnt := by omega
  have hdl : d.length = len0 s.rows := hfine.same d (List.mem_of_getElem? hd)
  obtain ⟨y, hy⟩ : ∃ y, (framesZ d size)[bn]? = some y := ⟨_, List.getElem?_eq_getElem (by rw [framesZ_len, hdl, hpl.hcnt]; exact hbn)⟩
  obtain ⟨r1, r2⟩ := h.frame_at hs hpl hcn hd hbn hy
  have hA : whereAt (packDir size SS) size m cn bn = ((F' + P : Nat) : Int) := by
    unfold whereAt frameNo
    rw [if_pos hE, hmi, hxe, e1, e3, hm1, ← Int.natCast_add, hq, hm2]
    push_cast; rfl
  have hSu : whereSum (packDir size SS) (packZ size SS) m cn bn = readTo (packZ size SS) (S' + 4 * q) 4 := by
    unfold whereSum frameNo
    rw [if_pos hE, hmi, hxe, e1, e2, hm1, ← Int.natCast_add, hq]
    congr 1
  refine ⟨m, s, d, y, rfl, hs, hd, hy, ?_, ?_⟩
  · rw [hA, Int.toNat_natCast, ← hP, ← hq]
    exact r1
  · rw [hSu, ← hq]
    exact r2
end
end Go.Proofs.YtoagdidkadfekaaGreatDoor
