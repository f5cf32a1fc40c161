/- Contracts of layer 38's and layer 22's tests of zones and shapes, and of the law's own; conditions: as each theorem states. -/
import Derived.Test.YtbgkoopfdfnmcaaWaveA
import Derived.Test.YtbgkoopfdfnmcaaMem
import Derived.Test.YtbgkoopfdfnmcaaLists
import Derived.Test.YtbgkoopfdfnmcaaCalm
import Derived.Handy
namespace Go.Proofs.Ytbgkoopfdfnmcaa
open Go.RowKit

/-- a zone of a kit -/
structure ZoneV where
  low : Int
  high : Int
  soft : Int
  hard : Int
  name : ByteArray
  root : Int
  loud : Int
  sa : Int
  sd : Int
  ss : Int
  sr : Int
def ZoneV.cells (z : ZoneV) : List Value := [.int .i64 z.low, .int .i64 z.high, .int .i64 z.soft, .int .i64 z.hard, .string z.name, .int .i64 z.root, .int .i64 z.loud, .int .i64 z.sa, .int .i64 z.sd, .int .i64 z.ss, .int .i64 z.sr]
def sevenB (v : Int) : Bool := decide (0 ≤ v) && decide (v ≤ 127)
def longB (v : Int) : Bool := decide (0 ≤ v) && decide (v ≤ 1048576)
/-- may a shape be? -/
def shapeOk (a d s r : Int) : Bool := longB a && longB d && longB r && decide (0 ≤ s) && decide (s ≤ 256)
/-- may a zone be? -/
def ZoneV.ok (z : ZoneV) : Bool := sevenB z.low && sevenB z.high && sevenB z.soft && sevenB z.hard && sevenB z.root && decide (z.low ≤ z.high) && decide (z.soft ≤ z.hard) && isName z.name && decide (0 ≤ z.loud) && decide (z.loud ≤ 256) && shapeOk z.sa z.sd z.ss z.sr

theorem lawseven_any (v : Int) (w : World) : Calls Try.prog 46 #[.int .i64 v] w fun e w' => e = .returned (.bool (sevenB v)) ∧ w = w' := by
  go_enter Try.func46, Try.ntmps46
  go_wp2
  all_goals
    go_ret
    exact ⟨ret_bool (by rw [Bool.eq_iff_iff]; simp [sevenB]; omega), rfl⟩

set_option maxHeartbeats 1000000 in
theorem envRight_any (a d s r : Int) (w : World) : Calls Try.prog 33 #[.agg #[.int .i64 a, .int .i64 d, .int .i64 s, .int .i64 r]] w fun e w' => e = .returned (.bool (shapeOk a d s r)) ∧ Below w.heap.size w w' := by
  have i0 : ∀ w, (Instr.index 95 (.agg #[.int .i64 a, .int .i64 d, .int .i64 r]) (.int .i64 0)).run Try.prog w = .ok (.int .i64 a) w := fun _ => by kernel_rfl
  have i1 : ∀ w, (Instr.index 95 (.agg #[.int .i64 a, .int .i64 d, .int .i64 r]) (.int .i64 1)).run Try.prog w = .ok (.int .i64 d) w := fun _ => by kernel_rfl
  have i2 : ∀ w, (Instr.index 95 (.agg #[.int .i64 a, .int .i64 d, .int .i64 r]) (.int .i64 2)).run Try.prog w = .ok (.int .i64 r) w := fun _ => by kernel_rfl
  go_enter Try.func33, Try.ntmps33
  go_wp2
  refine wp_loop_rounds 4 ?_
  repeat any_goals (rw [rounds_succ]; go_wp2)
  all_goals
    go_ret
    exact ⟨ret_bool (by rw [Bool.eq_iff_iff]; simp [shapeOk, longB]; omega), bnew _ _⟩

set_option maxHeartbeats 1000000 in
theorem seven_any (xs : List Int) (A : Option Addr) (cap : Nat) (w : World) (hl : xs.length ≤ 1000000) (hr : Row w w.heap.size A (xs.map (.int .i64))) :
    Calls Try.prog 62 #[.slice A xs.length cap] w fun e w' => e = .returned (.bool (xs.all sevenB)) ∧ w = w' := by
  obtain ⟨n, hn⟩ : ∃ n, xs.length = n := ⟨_, rfl⟩
  have Hn := Lib.hid hn
  have Hr := Lib.hid hr
  rw [hn] at hl ⊢
  clear hn hr
  go_enter Try.func62, Try.ntmps62
  go_wp2
  go_loop [7] (fun i => ∃ k : Nat, k ≤ n ∧ i = .int .i64 k ∧ (xs.take k).all sevenB = true) (fun i => n - (intOf i).toNat)
  case atStart => exact ⟨0, Nat.zero_le _, rfl, by simp⟩
  case round =>
    obtain ⟨k, hk, rfl, hpre⟩ := hrel
    have Hpre := Lib.hid hpre
    clear hpre
    by_cases hlt : k < n
    · obtain ⟨x, hx⟩ : ∃ x, xs[k]? = some x := ⟨_, List.getElem?_eq_getElem (by rw [Hn.out]; exact hlt)⟩
      obtain ⟨b, off, rfl, _, hc⟩ := Hr.out k (.int .i64 x) (by simp [hx])
      have Hx := Lib.hid hx
      clear hx
      by_cases hs : 0 ≤ x ∧ x ≤ 127
      · have H1 := Lib.hid (show sevenB x = true by simp [sevenB, hs])
        obtain ⟨hs1, hs2⟩ := hs
        go_wp2
        go_round
        case rel => exact ⟨k + 1, by omega, by go_num, by rw [all_take_succ _ Hx.out, Hpre.out, H1.out]; rfl⟩
        case measure => simp [intOf]; omega
      · have H1 := Lib.hid (show sevenB x = false by simp [sevenB]; omega)
        have hs' : x < 0 ∨ 127 < x := by omega
        clear hs
        go_wp2
        all_goals
          go_ret
          exact ⟨ret_bool (all_false_of _ Hx.out H1.out).symm, rfl⟩
    · have Hall := Lib.hid (all_take_all sevenB (by rw [Hn.out]; omega) Hpre.out)
      go_wp2
      go_ret
      exact ⟨ret_bool Hall.out.symm, rfl⟩
end Go.Proofs.Ytbgkoopfdfnmcaa
