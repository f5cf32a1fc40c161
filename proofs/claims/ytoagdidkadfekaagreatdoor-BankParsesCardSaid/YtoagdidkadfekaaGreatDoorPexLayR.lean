/- LayR. Conditions: as each theorem states. -/
import Derived.Test.YtoagdidkadfekaaGreatDoorPexLayP

namespace Go.Proofs.YtoagdidkadfekaaGreatDoor
open Go.RowKit Go.Lib

set_option maxRecDepth 100000 in
set_option maxHeartbeats 4000000 in
theorem lread_any (bs : List Nat) (a s g off c : Nat) (w : World) (hs : s ≤ 4) (hb : Byt bs) (hx : ∀ j, j < s → w.cell? ⟨g, off + j, none⟩ = some (.int .u8 (bs.getD (a + j) 0 : Nat))) :
    Calls Tryz.prog 18 #[.slice (some ⟨g, off, none⟩) s c] w fun e w' => e = .returned (.int .i64 (readTo bs a s : Nat)) ∧ w = w' := by
  have HB := Lib.hid (fun m (h : m ≤ s) => (show readTo bs a m < 4294967296 from Nat.lt_of_lt_of_le (readTo_lt hb a m) (by
    have : 256 ^ m ≤ 256 ^ 4 := Nat.pow_le_pow_right (by decide) (by omega)
    exact this)))
  have HS := Lib.hid (fun m => (show readTo bs a (m + 1) = readTo bs a m * 256 + bs.getD (a + m) 0 from rfl))
  have HY := Lib.hid (fun m => byt_gd hb (a + m))
  have Hx := Lib.hid hx
  clear hx hb
  go_enter Tryz.func18, Tryz.ntmps18
  go_wp2
  go_loopw [3, 4] (fun v i wr => ∃ m : Nat, m ≤ s ∧ i = .int .i64 m ∧ v = .int .i64 (readTo bs a m : Nat) ∧ w = wr) (fun _ i _ => s - (intOf i).toNat)
  case atStart => exact ⟨0, by omega, rfl, rfl, rfl⟩
  case round =>
    obtain ⟨m, hm, rfl, rfl, rfl⟩ := hrel
    by_cases hlt : m < s
    · have t1 : (m : Int) < (s : Int) := by omega
      have t2 : (0 : Int) ≤ (m : Int) := by omega
      have hx := Hx.out m hlt
      have hy := HY.out m
      have HS2 := HS.out m
      have hbd := HB.out m hm
      generalize bs.getD (a + m) 0 = y at *
      generalize readTo bs a m = V at *
      have Hs2 := Lib.hid HS2
      clear HS2
      go_wp2
      go_roundw
      case rel => exact ⟨m + 1, by omega, by go_num, by rw [Hs2.out]; push_cast; congr 1; omega, trivial⟩
      case measure => simp [intOf]; omega
    · have hmn : m = s := by omega
      subst hmn
      have t1 : ¬ ((m : Int) < (m : Int)) := by omega
      go_wp2
      go_ret
      exact ⟨rfl, rfl⟩
end Go.Proofs.YtoagdidkadfekaaGreatDoor
