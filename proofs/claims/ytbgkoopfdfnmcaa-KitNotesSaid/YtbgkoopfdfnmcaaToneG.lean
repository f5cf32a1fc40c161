/- The laws ToneIs and ToneFinds; conditions: as each theorem states. -/
import Derived.Test.YtbgkoopfdfnmcaaToneF
namespace Go.Proofs.Ytbgkoopfdfnmcaa
open Go.RowKit

def spike : List Int := [0, 0, 0, 0, 0, 1000, 0, 0, 0, 0, 0, 0, 0, 0, 0, 0]
theorem spike_find : findT spike = [⟨5, 1000⟩] := by decide +kernel
theorem spike_is : isTone spike 5 = true := by decide +kernel
theorem spike_not : isTone spike 4 = false := by decide +kernel
theorem spike_big : BigB spike := near_big (by decide +kernel)

end Go.Proofs.Ytbgkoopfdfnmcaa
