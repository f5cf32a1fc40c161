/- ParL. Conditions: as each theorem states. -/
import Derived.Test.YtoagdidkadfekaaGreatDoorPd37

namespace Go.Proofs.YtoagdidkadfekaaGreatDoor
open Go.RowKit Go.Lib

theorem results_t3 {P : Program} {fn : Func} {p q r : Tmp} (h : fn.results = #[.tmp p, .tmp q, .tmp r]) (tmps : Array Value) (w : World) : (results fn tmps).run P w = .ok (.tuple #[tmps.getD p undef, tmps.getD q undef, tmps.getD r undef]) w := by
  simp [results, h]
end Go.Proofs.YtoagdidkadfekaaGreatDoor
