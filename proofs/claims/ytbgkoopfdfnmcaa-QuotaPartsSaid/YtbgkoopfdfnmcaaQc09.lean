/- KitA, KitB. Conditions: as each theorem states. -/
import Derived.Handy
import Derived.Test.YtbgkoopfdfnmcaaQc04
import Derived.Test.YtbgkoopfdfnmcaaQc03
import Derived.Test.YtbgkoopfdfnmcaaQc01
import Derived.Test.YtbgkoopfdfnmcaaQc02

namespace Go.Proofs.Ytbgkoopfdfnmcaa
open Go.RowKit

/-- a zone of a kit -/
structure ZoneV where
  low : Int
  high : Int
  soft : Int
  hard : Int
  name : ByteArray
  root : Int
  loud : Int
  sa : Int
  sd : Int
  ss : Int
  sr : Int
def ZoneV.cells (z : ZoneV) : List Value := [.int .i64 z.low, .int .i64 z.high, .int .i64 z.soft, .int .i64 z.hard, .string z.name, .int .i64 z.root, .int .i64 z.loud, .int .i64 z.sa, .int .i64 z.sd, .int .i64 z.ss, .int .i64 z.sr]
def sevenB (v : Int) : Bool := decide (0 ≤ v) && decide (v ≤ 127)
def longB (v : Int) : Bool := decide (0 ≤ v) && decide (v ≤ 1048576)
/-- may a shape be? -/
def shapeOk (a d s r : Int) : Bool := longB a && longB d && longB r && decide (0 ≤ s) && decide (s ≤ 256)
/-- may a zone be? -/
def ZoneV.ok (z : ZoneV) : Bool := sevenB z.low && sevenB z.high && sevenB z.soft && sevenB z.hard && sevenB z.root && decide (z.low ≤ z.high) && decide (z.soft ≤ z.hard) && isName z.name && decide (0 ≤ z.loud) && decide (z.loud ≤ 256) && shapeOk z.sa z.sd z.ss z.sr

theorem lawseven_any (v : Int) (w : World) : Calls Try.prog 46 #[.int .i64 v] w fun e w' => e = .returned (.bool (sevenB v)) ∧ w = w' := by
  go_enter Try.func46, Try.ntmps46
  go_wp2
  all_goals
    go_ret
    exact ⟨ret_bool (by rw [Bool.eq_iff_iff]; simp [sevenB]; omega), rfl⟩

set_option maxHeartbeats 1000000 in
theorem envRight_any (a d s r : Int) (w : World) : Calls Try.prog 33 #[.agg #[.int .i64 a, .int .i64 d, .int .i64 s, .int .i64 r]] w fun e w' => e = .returned (.bool (shapeOk a d s r)) ∧ Below w.heap.size w w' := by
  have i0 : ∀ w, (Instr.index 95 (.agg #[.int .i64 a, .int .i64 d, .int .i64 r]) (.int .i64 0)).run Try.prog w = .ok (.int .i64 a) w := fun _ => by kernel_rfl
  have i1 : ∀ w, (Instr.index 95 (.agg #[.int .i64 a, .int .i64 d, .int .i64 r]) (.int .i64 1)).run Try.prog w = .ok (.int .i64 d) w := fun _ => by kernel_rfl
  have i2 : ∀ w, (Instr.index 95 (.agg #[.int .i64 a, .int .i64 d, .int .i64 r]) (.int .i64 2)).run Try.prog w = .ok (.int .i64 r) w := fun _ => by kernel_rfl
  go_enter Try.func33, Try.ntmps33
  go_wp2
  refine wp_loop_rounds 4 ?_
  repeat any_goals (rw [rounds_succ]; go_wp2)
  all_goals
    go_ret
    exact ⟨ret_bool (by rw [Bool.eq_iff_iff]; simp [shapeOk, longB]; omega), bnew _ _⟩

set_option maxHeartbeats 1000000 in
theorem seven_any (xs : List Int) (A : Option Addr) (cap : Nat) (w : World) (hl : xs.length ≤ 1000000) (hr : Row w w.heap.size A (xs.map (.int .i64))) :
    Calls Try.prog 62 #[.slice A xs.length cap] w fun e w' => e = .returned (.bool (xs.all sevenB)) ∧ w = w' := by
  obtain ⟨n, hn⟩ : ∃ n, xs.length = n := ⟨_, rfl⟩
  have Hn := Lib.hid hn
  have Hr := Lib.hid hr
  rw [hn] at hl ⊢
  clear hn hr
  go_enter Try.func62, Try.ntmps62
  go_wp2
  go_loop [7] (fun i => ∃ k : Nat, k ≤ n ∧ i = .int .i64 k ∧ (xs.take k).all sevenB = true) (fun i => n - (intOf i).toNat)
  case atStart => exact ⟨0, Nat.zero_le _, rfl, by simp⟩
  case round =>
    obtain ⟨k, hk, rfl, hpre⟩ := hrel
    have Hpre := Lib.hid hpre
    clear hpre
    by_cases hlt : k < n
    · obtain ⟨x, hx⟩ : ∃ x, xs[k]? = some x := ⟨_, List.getElem?_eq_getElem (by rw [Hn.out]; exact hlt)⟩
      obtain ⟨b, off, rfl, _, hc⟩ := Hr.out k (.int .i64 x) (by simp [hx])
      have Hx := Lib.hid hx
      clear hx
      by_cases hs : 0 ≤ x ∧ x ≤ 127
      · have H1 := Lib.hid (show sevenB x = true by simp [sevenB, hs])
        obtain ⟨hs1, hs2⟩ := hs
        go_wp2
        go_round
        case rel => exact ⟨k + 1, by omega, by go_num, by rw [all_take_succ _ Hx.out, Hpre.out, H1.out]; rfl⟩
        case measure => simp [intOf]; omega
      · have H1 := Lib.hid (show sevenB x = false by simp [sevenB]; omega)
        have hs' : x < 0 ∨ 127 < x := by omega
        clear hs
        go_wp2
        all_goals
          go_ret
          exact ⟨ret_bool (all_false_of _ Hx.out H1.out).symm, rfl⟩
    · have Hall := Lib.hid (all_take_all sevenB (by rw [Hn.out]; omega) Hpre.out)
      go_wp2
      go_ret
      exact ⟨ret_bool Hall.out.symm, rfl⟩
end Go.Proofs.Ytbgkoopfdfnmcaa

namespace Go.Proofs.Ytbgkoopfdfnmcaa
open Go.RowKit

theorem zone_ok_eq (z : ZoneV) : z.ok = ([z.low, z.high, z.soft, z.hard, z.root].all sevenB && (decide (z.low ≤ z.high) && (decide (z.soft ≤ z.hard) && (isName z.name && (decide (0 ≤ z.loud) && (decide (z.loud ≤ 256) && shapeOk z.sa z.sd z.ss z.sr)))))) := by
  unfold ZoneV.ok; simp only [List.all_cons, List.all_nil, Bool.and_true, Bool.and_assoc]

set_option maxRecDepth 100000 in
set_option maxHeartbeats 2000000 in
theorem kitRight_any (z : ZoneV) (w : World) : Calls Try.prog 48 #[.agg z.cells.toArray] w fun e w' => e = .returned (.bool z.ok) ∧ Below w.heap.size w w' := by
  rw [zone_ok_eq]
  obtain ⟨lo, hi, so, ha, nm, ro, lu, a, d, s, r⟩ := z
  simp only [ZoneV.cells]
  obtain ⟨S, hS⟩ : ∃ S, [lo, hi, so, ha, ro].all sevenB = S := ⟨_, rfl⟩
  obtain ⟨M, hM⟩ : ∃ M, isName nm = M := ⟨_, rfl⟩
  obtain ⟨H, hH⟩ : ∃ H, shapeOk a d s r = H := ⟨_, rfl⟩
  rw [hS, hM, hH]
  have HS := Lib.hid hS
  have HM := Lib.hid hM
  have HH := Lib.hid hH
  clear hS hM hH
  have HQ := Lib.hid (show Calls Try.prog 62 #[.slice (some ⟨w.heap.size + 1, 0, none⟩) 5 5] ((w.alloc (.cells #[.int .i64 lo, .int .i64 hi, .int .i64 so, .int .i64 ha, .string nm, .int .i64 ro, .int .i64 lu, .int .i64 a, .int .i64 d, .int .i64 s, .int .i64 r] 67)).alloc (.cells #[.int .i64 lo, .int .i64 hi, .int .i64 so, .int .i64 ha, .int .i64 ro] 3)) fun e w' => e = .returned (.bool S) ∧ ((w.alloc (.cells #[.int .i64 lo, .int .i64 hi, .int .i64 so, .int .i64 ha, .string nm, .int .i64 ro, .int .i64 lu, .int .i64 a, .int .i64 d, .int .i64 s, .int .i64 r] 67)).alloc (.cells #[.int .i64 lo, .int .i64 hi, .int .i64 so, .int .i64 ha, .int .i64 ro] 3)) = w' by
    have h := seven_any [lo, hi, so, ha, ro] (some ⟨w.heap.size + 1, 0, none⟩) 5 ((w.alloc (.cells #[.int .i64 lo, .int .i64 hi, .int .i64 so, .int .i64 ha, .string nm, .int .i64 ro, .int .i64 lu, .int .i64 a, .int .i64 d, .int .i64 s, .int .i64 r] 67)).alloc (.cells #[.int .i64 lo, .int .i64 hi, .int .i64 so, .int .i64 ha, .int .i64 ro] 3)) (by simp) (Row.new2 _ _ _ _)
    rw [HS.out] at h
    exact h)
  go_enter Try.func48, Try.ntmps48
  go_wp2_with (first | (go_at_call 62; refine HQ.out.mono ?_; rintro e w' ⟨rfl, rfl⟩) | (go_at_call 47; refine (IsName_any _ _).mono ?_; rintro e w' ⟨rfl, rfl⟩; rw [HM.out]) | (go_at_call 33; refine (envRight_any _ _ _ _ _).mono ?_; rintro e w1 ⟨rfl, hb⟩; rw [HH.out]))
  all_goals
    go_ret
    refine ⟨ret_bool ?_, ?_⟩
    · first | rfl | (simp [*]; done) | (simp [*]; omega) | (simp [*]; intros; omega)
    · first | exact bnext (bnext (bnew _ _) (bnew _ _)) hb | exact (bnew _ _).alloc (by simp) _

theorem zone_ok_eq2 (z : ZoneV) : z.ok = (sevenB z.low && (sevenB z.high && (sevenB z.soft && (sevenB z.hard && (sevenB z.root && (decide (z.low ≤ z.high) && (decide (z.soft ≤ z.hard) && (isName z.name && (decide (0 ≤ z.loud) && (decide (z.loud ≤ 256) && shapeOk z.sa z.sd z.ss z.sr)))))))))) := by
  unfold ZoneV.ok; simp only [Bool.and_assoc]

set_option maxRecDepth 100000 in
set_option maxHeartbeats 4000000 in
theorem lawright38_any (z : ZoneV) (w : World) : Calls Try.prog 26 #[.agg z.cells.toArray] w fun e w' => e = .returned (.bool z.ok) ∧ Below w.heap.size w w' := by
  rw [zone_ok_eq2]
  obtain ⟨lo, hi, so, ha, nm, ro, lu, a, d, s, r⟩ := z
  simp only [ZoneV.cells]
  obtain ⟨b1, h1⟩ : ∃ b, sevenB lo = b := ⟨_, rfl⟩
  obtain ⟨b2, h2⟩ : ∃ b, sevenB hi = b := ⟨_, rfl⟩
  obtain ⟨b3, h3⟩ : ∃ b, sevenB so = b := ⟨_, rfl⟩
  obtain ⟨b4, h4⟩ : ∃ b, sevenB ha = b := ⟨_, rfl⟩
  obtain ⟨b5, h5⟩ : ∃ b, sevenB ro = b := ⟨_, rfl⟩
  obtain ⟨M, hM⟩ : ∃ M, isName nm = M := ⟨_, rfl⟩
  obtain ⟨H, hH⟩ : ∃ H, shapeOk a d s r = H := ⟨_, rfl⟩
  rw [h1, h2, h3, h4, h5, hM, hH]
  have H1 := Lib.hid h1
  have H2 := Lib.hid h2
  have H3 := Lib.hid h3
  have H4 := Lib.hid h4
  have H5 := Lib.hid h5
  have HM := Lib.hid hM
  have HH := Lib.hid hH
  clear h1 h2 h3 h4 h5 hM hH
  go_enter Try.func26, Try.ntmps26
  go_wp2_with (first | (go_at_call 46; refine (lawseven_any _ _).mono ?_; rintro e w' ⟨rfl, rfl⟩; first | rw [H1.out] | rw [H2.out] | rw [H3.out] | rw [H4.out] | rw [H5.out]) | (go_at_call 47; refine (IsName_any _ _).mono ?_; rintro e w' ⟨rfl, rfl⟩; rw [HM.out]) | (go_at_call 33; refine (envRight_any _ _ _ _ _).mono ?_; rintro e w1 ⟨rfl, hb⟩; rw [HH.out]))
  all_goals
    go_ret
    refine ⟨ret_bool ?_, ?_⟩
    · first | rfl | (simp [*]; done) | (simp only [Bool.not_eq_eq_eq_not, Bool.not_true, Bool.not_false] at *; simp [*]; done) | (simp [*]; omega) | (simp [*]; intros; omega)
    · first | exact bnext (bnew _ _) hb | exact bnew _ _
end Go.Proofs.Ytbgkoopfdfnmcaa
