/- Contracts of layer 38's Right and of the law's own right; conditions: as each theorem states. -/
import Derived.Test.YtbgkoopfdfnmcaaKitA
namespace Go.Proofs.Ytbgkoopfdfnmcaa
open Go.RowKit

theorem zone_ok_eq (z : ZoneV) : z.ok = ([z.low, z.high, z.soft, z.hard, z.root].all sevenB && (decide (z.low ≤ z.high) && (decide (z.soft ≤ z.hard) && (isName z.name && (decide (0 ≤ z.loud) && (decide (z.loud ≤ 256) && shapeOk z.sa z.sd z.ss z.sr)))))) := by
  unfold ZoneV.ok; simp only [List.all_cons, List.all_nil, Bool.and_true, Bool.and_assoc]

set_option maxRecDepth 100000 in
set_option maxHeartbeats 2000000 in
theorem kitRight_any (z : ZoneV) (w : World) : Calls Try.prog 48 #[.agg z.cells.toArray] w fun e w' => e = .returned (.bool z.ok) ∧ Below w.heap.size w w' := by
  rw [zone_ok_eq]
  obtain ⟨lo, hi, so, ha, nm, ro, lu, a, d, s, r⟩ := z
  simp only [ZoneV.cells]
  obtain ⟨S, hS⟩ : ∃ S, [lo, hi, so, ha, ro].all sevenB = S := ⟨_, rfl⟩
  obtain ⟨M, hM⟩ : ∃ M, isName nm = M := ⟨_, rfl⟩
  obtain ⟨H, hH⟩ : ∃ H, shapeOk a d s r = H := ⟨_, rfl⟩
  rw [hS, hM, hH]
  have HS := Lib.hid hS
  have HM := Lib.hid hM
  have HH := Lib.hid hH
  clear hS hM hH
  have HQ := Lib.hid (show Calls Try.prog 62 #[.slice (some ⟨w.heap.size + 1, 0, none⟩) 5 5] ((w.alloc (.cells #[.int .i64 lo, .int .i64 hi, .int .i64 so, .int .i64 ha, .string nm, .int .i64 ro, .int .i64 lu, .int .i64 a, .int .i64 d, .int .i64 s, .int .i64 r] 67)).alloc (.cells #[.int .i64 lo, .int .i64 hi, .int .i64 so, .int .i64 ha, .int .i64 ro] 3)) fun e w' => e = .returned (.bool S) ∧ ((w.alloc (.cells #[.int .i64 lo, .int .i64 hi, .int .i64 so, .int .i64 ha, .string nm, .int .i64 ro, .int .i64 lu, .int .i64 a, .int .i64 d, .int .i64 s, .int .i64 r] 67)).alloc (.cells #[.int .i64 lo, .int .i64 hi, .int .i64 so, .int .i64 ha, .int .i64 ro] 3)) = w' by
    have h := seven_any [lo, hi, so, ha, ro] (some ⟨w.heap.size + 1, 0, none⟩) 5 ((w.alloc (.cells #[.int .i64 lo, .int .i64 hi, .int .i64 so, .int .i64 ha, .string nm, .int .i64 ro, .int .i64 lu, .int .i64 a, .int .i64 d, .int .i64 s, .int .i64 r] 67)).alloc (.cells #[.int .i64 lo, .int .i64 hi, .int .i64 so, .int .i64 ha, .int .i64 ro] 3)) (by simp) (Row.new2 _ _ _ _)
    rw [HS.out] at h
    exact h)
  go_enter Try.func48, Try.ntmps48
  go_wp2_with (first | (go_at_call 62; refine HQ.out.mono ?_; rintro e w' ⟨rfl, rfl⟩) | (go_at_call 47; refine (IsName_any _ _).mono ?_; rintro e w' ⟨rfl, rfl⟩; rw [HM.out]) | (go_at_call 33; refine (envRight_any _ _ _ _ _).mono ?_; rintro e w1 ⟨rfl, hb⟩; rw [HH.out]))
  all_goals
    go_ret
    refine ⟨ret_bool ?_, ?_⟩
    · first | rfl | (simp [*]; done) | (simp [*]; omega) | (simp [*]; intros; omega)
    · first | exact bnext (bnext (bnew _ _) (bnew _ _)) hb | exact (bnew _ _).alloc (by simp) _

theorem zone_ok_eq2 (z : ZoneV) : z.ok = (sevenB z.low && (sevenB z.high && (sevenB z.soft && (sevenB z.hard && (sevenB z.root && (decide (z.low ≤ z.high) && (decide (z.soft ≤ z.hard) && (isName z.name && (decide (0 ≤ z.loud) && (decide (z.loud ≤ 256) && shapeOk z.sa z.sd z.ss z.sr)))))))))) := by
  unfold ZoneV.ok; simp only [Bool.and_assoc]

set_option maxRecDepth 100000 in
set_option maxHeartbeats 4000000 in
theorem lawright38_any (z : ZoneV) (w : World) : Calls Try.prog 26 #[.agg z.cells.toArray] w fun e w' => e = .returned (.bool z.ok) ∧ Below w.heap.size w w' := by
  rw [zone_ok_eq2]
  obtain ⟨lo, hi, so, ha, nm, ro, lu, a, d, s, r⟩ := z
  simp only [ZoneV.cells]
  obtain ⟨b1, h1⟩ : ∃ b, sevenB lo = b := ⟨_, rfl⟩
  obtain ⟨b2, h2⟩ : ∃ b, sevenB hi = b := ⟨_, rfl⟩
  obtain ⟨b3, h3⟩ : ∃ b, sevenB so = b := ⟨_, rfl⟩
  obtain ⟨b4, h4⟩ : ∃ b, sevenB ha = b := ⟨_, rfl⟩
  obtain ⟨b5, h5⟩ : ∃ b, sevenB ro = b := ⟨_, rfl⟩
  obtain ⟨M, hM⟩ : ∃ M, isName nm = M := ⟨_, rfl⟩
  obtain ⟨H, hH⟩ : ∃ H, shapeOk a d s r = H := ⟨_, rfl⟩
  rw [h1, h2, h3, h4, h5, hM, hH]
  have H1 := Lib.hid h1
  have H2 := Lib.hid h2
  have H3 := Lib.hid h3
  have H4 := Lib.hid h4
  have H5 := Lib.hid h5
  have HM := Lib.hid hM
  have HH := Lib.hid hH
  clear h1 h2 h3 h4 h5 hM hH
  go_enter Try.func26, Try.ntmps26
  go_wp2_with (first | (go_at_call 46; refine (lawseven_any _ _).mono ?_; rintro e w' ⟨rfl, rfl⟩; first | rw [H1.out] | rw [H2.out] | rw [H3.out] | rw [H4.out] | rw [H5.out]) | (go_at_call 47; refine (IsName_any _ _).mono ?_; rintro e w' ⟨rfl, rfl⟩; rw [HM.out]) | (go_at_call 33; refine (envRight_any _ _ _ _ _).mono ?_; rintro e w1 ⟨rfl, hb⟩; rw [HH.out]))
  all_goals
    go_ret
    refine ⟨ret_bool ?_, ?_⟩
    · first | rfl | (simp [*]; done) | (simp only [Bool.not_eq_eq_eq_not, Bool.not_true, Bool.not_false] at *; simp [*]; done) | (simp [*]; omega) | (simp [*]; intros; omega)
    · first | exact bnext (bnew _ _) hb | exact bnew _ _
end Go.Proofs.Ytbgkoopfdfnmcaa
