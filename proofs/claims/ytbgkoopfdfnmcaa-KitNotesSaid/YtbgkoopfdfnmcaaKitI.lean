/- The walk of the law KitFinds, and the example of chapter 38; conditions: as each theorem states. -/
import Derived.Test.YtbgkoopfdfnmcaaKitH
namespace Go.Proofs.Ytbgkoopfdfnmcaa
open Go.RowKit

def zone0 : ZoneV := ⟨60, 62, 1, 127, ⟨#[97]⟩, 60, 256, 0, 0, 256, 0⟩
theorem zone0_ok : [zone0].all ZoneV.ok = true := by decide +kernel
theorem zone0_gap : gapZ [zone0] 59 63 = [59, 63] := by decide +kernel
theorem zone0_find : findZ 61 5 [zone0] = 0 := by decide +kernel

set_option maxRecDepth 100000 in
set_option maxHeartbeats 2000000 in
theorem awake38_any (w : World) : Calls Try.prog 14 #[] w fun e w' => e = .returned (.bool true) ∧ Below w.heap.size w w' := by
  go_enter Try.func14, Try.ntmps14
  go_wp2_with fail
  refine (plain_any _).mono ?_
  rintro e w1 ⟨rfl, hb1⟩
  have Hb1 := Lib.hid hb1
  clear hb1
  go_wp2_with fail
  refine (kitNew_any [zone0] (some ⟨w1.heap.size, 0, none⟩) 1 _ (by simp) nofun ((Row.new w1 67 zone0.cells).more (by simp))).mono ?_
  rintro e w2 (⟨h64, _⟩ | ⟨_, hf, _⟩ | ⟨_, _, g, rfl, hkit, _, hb2⟩)
  · simp at h64
  · rw [zone0_ok] at hf; cases hf
  · have Hkit := Lib.hid hkit
    have Hb2 := Lib.hid (bnext Hb1.out (bnext (bnew _ _) hb2))
    clear hkit hb2
    go_wp2_with fail
    refine (gap_any [zone0] g 59 63 w2 (by simp) Hkit.out).mono ?_
    rw [zone0_gap]
    rintro e w3 ⟨A, c, rfl, _, _, hrow, hb3⟩
    obtain ⟨b, off, rfl, _, k0⟩ := hrow 0 (.int .i64 59) rfl
    obtain ⟨b', off', hA, _, k1⟩ := hrow 1 (.int .i64 63) rfl
    injection hA with hA
    injection hA with e1 e2
    subst e1 e2
    rw [Nat.add_zero] at k0
    have Hk3 := Lib.hid (Hkit.out.later hb3)
    have Hb3 := Lib.hid (bnext Hb2.out hb3)
    clear hrow hb3
    go_wp2_with (go_at_call 31; refine (kitFind_any [zone0] g 61 5 w3 (by simp) Hk3.out).mono ?_; rw [zone0_find]; rintro e w4 ⟨rfl, hb4⟩)
    go_ret
    exact ⟨rfl, bnext Hb3.out hb4⟩
end Go.Proofs.Ytbgkoopfdfnmcaa
