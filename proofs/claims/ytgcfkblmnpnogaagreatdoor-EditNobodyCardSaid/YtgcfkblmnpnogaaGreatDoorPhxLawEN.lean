/- LawEN. Conditions: as each theorem states. -/
import Derived.Test.YtgcfkblmnpnogaaGreatDoorPhxEdX

namespace Go.Proofs.YtgcfkblmnpnogaaGreatDoor
open Go.RowKit Go.Lib

set_option maxRecDepth 100000 in
set_option maxHeartbeats 4000000 in
theorem EditNobody_walk (nm : ByteArray) (w : World) : Calls Tryz.prog 14 #[.string nm] w fun e w' => e = .returned (.bool true) ∧ Below w.heap.size w w' := by
  have HAw := Lib.hid (fun W => awake29_any W)
  have H1 := Lib.hid (fun W => Remove_no nm W)
  have H2 := Lib.hid (fun W => Add_no ⟨#[]⟩ 0 false 0 0 none 0 0 W)
  have H3 := Lib.hid (fun W => Rename_no nm nm W)
  have H4 := Lib.hid (fun W => Loop_no nm 0 1 W)
  have H5 := Lib.hid (fun W => Join_no (.pointer none) W)
  have H6 := Lib.hid (fun W => Names29_no W)
  go_enter Tryz.func14, Tryz.ntmps14
  go_wp2_with (go_at_call 45; fail)
  refine (H1.out _).mono ?_
  rintro e w1 ⟨rfl, hb1⟩
  have E1 := Lib.hid hb1
  clear hb1
  go_wp2_with (go_at_call 60; fail)
  refine (H2.out _).mono ?_
  rintro e w2 ⟨rfl, hb2⟩
  have E2 := Lib.hid (bnext E1.out hb2)
  clear hb2
  go_wp2_with (go_at_call 32; fail)
  refine (H3.out _).mono ?_
  rintro e w3 ⟨rfl, hb3⟩
  have E3 := Lib.hid (bnext E2.out hb3)
  clear hb3
  go_wp2_with (go_at_call 47; fail)
  refine (H4.out _).mono ?_
  rintro e w4 ⟨rfl, hb4⟩
  have E4 := Lib.hid (bnext E3.out hb4)
  clear hb4
  go_wp2_with (go_at_call 46; fail)
  refine (H5.out _).mono ?_
  rintro e w5 ⟨rfl, hb5⟩
  have E5 := Lib.hid (bnext E4.out hb5)
  clear hb5
  go_wp2_with (go_at_call 66; fail)
  refine (H6.out _).mono ?_
  rintro e w6 ⟨rfl, hb6⟩
  have E6 := Lib.hid (bnext E5.out hb6)
  clear hb6
  go_wp2_with (go_at_call 31; fail)
  refine (HAw.out _).mono ?_
  rintro e w7 ⟨rfl, hb7⟩
  go_wp2
  go_ret
  exact ⟨rfl, bnext E6.out hb7⟩
theorem EditNobody_law (W : World) (v0 : Value) (a0 : Arg W (.str) v0) :
    Calls Tryz.prog 14 #[v0] W fun e w' => e = .returned (.bool true) ∧ Below W.heap.size W w' := by
  obtain ⟨nm, h0, _⟩ := a0
  obtain rfl : v0 = .string nm := by simpa using h0
  exact EditNobody_walk nm W
end Go.Proofs.YtgcfkblmnpnogaaGreatDoor
