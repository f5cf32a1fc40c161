/- LawBP. Conditions: as each theorem states. -/
import Derived.Test.YtgcfkblmnpnogaaGreatDoorPgxLayD
import Derived.Test.YtgcfkblmnpnogaaGreatDoorPgxLayR
import Derived.Test.YtgcfkblmnpnogaaGreatDoorPg44

namespace Go.Proofs.YtgcfkblmnpnogaaGreatDoor
open Go.RowKit Go.Lib

/-- bytes turned into a text -/
theorem conv_row {w : World} {B b off n c : Nat} {xs : List Nat} (hn : xs.length = n) (h : Row w B (some ⟨b, off, none⟩) (u8s xs)) : (convert 29 9 (.slice (some ⟨b, off, none⟩) n c)).run Tryz.prog w = .ok (.string (strOfNums (xs.map fun (x : Nat) => (x : Int)))) w :=
  run_convert_bytes_arg (P := Tryz.prog) w 29 5 Tryz.underlying29 Tryz.underlying5 b off n c (xs.map fun (x : Nat) => (x : Int)) (by rw [List.length_map, hn]) (fun j hj => by
    have h1 : (u8s xs)[j]? = some (.int .u8 ((xs.getD j 0 : Nat) : Int)) := by
      rw [u8s_get (show xs[j]? = some (xs.getD j 0) by rw [List.getD_eq_getElem?_getD, List.getElem?_eq_getElem (by omega)]; rfl)]
    obtain ⟨b', o', hA, _, hc⟩ := h j _ h1
    injection hA with hA
    injection hA with e1 e2
    subst e1 e2
    have e : (xs.map fun (x : Nat) => (x : Int)).getD j 0 = ((xs.getD j 0 : Nat) : Int) := by
      rw [List.getD_eq_getElem?_getD, List.getElem?_map, List.getElem?_eq_getElem (by omega), List.getD_eq_getElem?_getD, List.getElem?_eq_getElem (by omega)]
      rfl
    rw [hc, e]) 9 Tryz.underlying9
end Go.Proofs.YtgcfkblmnpnogaaGreatDoor
