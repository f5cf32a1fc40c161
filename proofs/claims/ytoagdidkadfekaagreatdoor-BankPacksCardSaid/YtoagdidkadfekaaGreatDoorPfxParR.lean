/- ParR. Conditions: as each theorem states. -/
import Derived.Test.YtoagdidkadfekaaGreatDoorPfxParQ2

namespace Go.Proofs.YtoagdidkadfekaaGreatDoor
open Go.RowKit Go.Lib

section
variable {size : Nat} {SS : List SampV}
theorem CanP.fit (h : CanP size SS) : FitB (packZ size SS) size (packDir size SS) := by
  have hl := h.len_bd
  have := fit_parsed (packZ_parse h) (by rw [packZ_len h]; omega) (packZ_byt h)
  rw [packZ_size h, packZ_cnt h, packZ_dir h] at this
  exact this
end
end Go.Proofs.YtoagdidkadfekaaGreatDoor
