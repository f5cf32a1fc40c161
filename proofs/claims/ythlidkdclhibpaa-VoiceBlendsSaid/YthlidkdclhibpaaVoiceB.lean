/- The walk of the law VoiceBlends; no condition but what a Go int64 is. -/
import Derived.Test.YthlidkdclhibpaaVoiceA
namespace Go.Proofs.Ythlidkdclhibpaa
open Go.RowKit

set_option maxHeartbeats 4000000 in
theorem VoiceBlends_walk (x0 x1 x2 x3 q at_ : Int) (w : World) (ha1 : -9223372036854775808 ≤ at_) (ha2 : at_ ≤ 9223372036854775807) :
    Calls Try.prog 4 #[.agg #[.int .i64 x0, .int .i64 x1, .int .i64 x2, .int .i64 x3], .int .i64 q, .int .i64 at_] w fun e w' => e = .returned (.bool true) ∧ Below w.heap.size w w' := by
  by_cases hr : (-1048576 ≤ x0 ∧ x0 ≤ 1048576) ∧ (-1048576 ≤ x1 ∧ x1 ≤ 1048576) ∧ (-1048576 ≤ x2 ∧ x2 ≤ 1048576) ∧ (-1048576 ≤ x3 ∧ x3 ≤ 1048576)
  · obtain ⟨h0, h1, h2, h3⟩ := hr
    by_cases hp : 0 ≤ at_
    all_goals
      go_enter Try.func4, Try.ntmps4
      go_wp2
      refine wp_loop_rounds 5 ?_
      iterate 4 (rw [rounds_succ]; go_wp2)
      rw [rounds_succ]
      go_wp2_with (first | (go_at_call 20; refine (Phase_any _ _).mono ?_; rintro e w' ⟨rfl, rfl⟩))
      have k0 : ∀ x : GW (w.alloc (.cells #[.int .i64 x0, .int .i64 x1, .int .i64 x2, .int .i64 x3] 28)), x.1.cell? ⟨w.heap.size, 0, none⟩ = some (.int .i64 x0) := fun x => (gw_cell x (by simp)).trans (by simp)
      have k1 : ∀ x : GW (w.alloc (.cells #[.int .i64 x0, .int .i64 x1, .int .i64 x2, .int .i64 x3] 28)), x.1.cell? ⟨w.heap.size, 1, none⟩ = some (.int .i64 x1) := fun x => (gw_cell x (by simp)).trans (by simp)
      have k2 : ∀ x : GW (w.alloc (.cells #[.int .i64 x0, .int .i64 x1, .int .i64 x2, .int .i64 x3] 28)), x.1.cell? ⟨w.heap.size, 2, none⟩ = some (.int .i64 x2) := fun x => (gw_cell x (by simp)).trans (by simp)
      have k3 : ∀ x : GW (w.alloc (.cells #[.int .i64 x0, .int .i64 x1, .int .i64 x2, .int .i64 x3] 28)), x.1.cell? ⟨w.heap.size, 3, none⟩ = some (.int .i64 x3) := fun x => (gw_cell x (by simp)).trans (by simp)
      refine wp_region_calm (by kernel_rfl) (by kernel_rfl) ?_
      repeat (go_big_quiet_step (first | (go_at_call 21; exact calm_call (Blend_any _ _ _ _ _ _ h0 h1 h2 h3)) | (go_at_call 22; exact calm_call (lawblend_any _ _ _ _ _ _ h0 h1 h2 h3)) | (go_at_call 19; exact calm_call (awake21_any _))))
      refine wpQuiet_nil ?_
      intro _ hw'
      obtain ⟨⟨w5, hb5⟩, hw''⟩ := hw'
      subst hw''
      go_wp2
      go_ret
      exact ⟨rfl, bnext (bnew _ _) hb5⟩
  · go_enter Try.func4, Try.ntmps4
    go_wp2
    refine wp_loop_rounds 5 ?_
    repeat any_goals (rw [rounds_succ]; go_wp2_with (go_at_call 19; refine (awake21_any _).mono ?_; rintro e w' ⟨rfl, hb⟩))
    all_goals first | (go_ret; exact ⟨rfl, bnext (bnew _ _) hb⟩) | (exfalso; omega)
theorem VoiceBlends_law (W : World) (v0 v1 v2 : Value) (a0 : Arg W (.pair (.int .i64) 1 (.pair (.int .i64) 1 (.pair (.int .i64) 1 (.pair (.int .i64) 1 (.unit))))) v0) (_a1 : Arg W (.int .i64) v1) (a2 : Arg W (.int .i64) v2) :
    Calls Try.prog 4 #[v0, v1, v2] W fun e w' => e = .returned (.bool true) ∧ Below W.heap.size W w' := by
  obtain ⟨cs, rfl, c1, r1, rfl, ⟨x0, rfl, l1, l2⟩, c2, r2, rfl, ⟨x1, rfl, l3, l4⟩, c3, r3, rfl, ⟨x2, rfl, l5, l6⟩, c4, r4, rfl, ⟨x3, rfl, l7, l8⟩, rfl⟩ := a0
  obtain ⟨q, hq, q1, q2⟩ := _a1
  obtain ⟨t, ht, t1, t2⟩ := a2
  obtain rfl : v1 = .int .i64 q := by simpa using hq
  obtain rfl : v2 = .int .i64 t := by simpa using ht
  rw [min_i64] at t1
  rw [max_i64] at t2
  exact VoiceBlends_walk x0 x1 x2 x3 q t W t1 t2
end Go.Proofs.Ythlidkdclhibpaa
