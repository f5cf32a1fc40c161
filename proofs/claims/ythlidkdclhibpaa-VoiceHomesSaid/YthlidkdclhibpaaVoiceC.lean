/- Contract of layer 21's Home and the walk of the law VoiceHomes; conditions: as each theorem states. -/
import Derived.Test.YthlidkdclhibpaaVoiceA
import Derived.Test.YthlidkdclhibpaaWaveA
import Derived.Test.YthlidkdclhibpaaCalm
namespace Go.Proofs.Ythlidkdclhibpaa
open Go.RowKit

/-- a place brought home -/
def homeZ (lp : Bool) (f t at_ : Int) : Int :=
  if lp = true ∧ t - f ≤ at_ / 4294967296 - t - 4 then at_ - (at_ / 4294967296 - t - 4) / (t - f) * (t - f) * 4294967296 else at_

theorem div_mul_bd (x n : Int) (h0 : 0 ≤ x) (hn : 1 ≤ n) : 0 ≤ x / n * n ∧ x / n * n ≤ x ∧ x - n < x / n * n := by
  have h1 := Int.ediv_mul_le x (b := n) (by omega)
  have h2 := Int.ediv_nonneg h0 (show 0 ≤ n by omega)
  have h3 := Int.lt_ediv_add_one_mul_self x (show 0 < n by omega)
  have h4 := Int.mul_nonneg h2 (show 0 ≤ n by omega)
  have h5 : (x / n + 1) * n = x / n * n + n := by rw [Int.add_mul, Int.one_mul]
  omega

set_option maxHeartbeats 1000000 in
theorem Home_any (nm : ByteArray) (len rate ch : Int) (lp : Bool) (f t s1 s2 a : Int) (w : World)
    (hl : lp = true → 0 ≤ f ∧ f < t ∧ t ≤ 1048576) (ha : 0 ≤ a) (ha2 : a ≤ 4611686018427387904) :
    Calls Try.prog 29 #[.agg #[.string nm, .int .i64 len, .int .i64 rate, .int .i64 ch, .bool lp, .int .i64 f, .int .i64 t, .int .i64 s1, .int .i64 s2], .int .i64 a] w
      fun e w' => e = .returned (.int .i64 (homeZ lp f t a)) ∧ Below w.heap.size w w' := by
  cases lp
  · go_enter Try.func29, Try.ntmps29
    go_wp2
    go_ret
    exact ⟨ret_int (by simp [homeZ]), bnew _ _⟩
  · obtain ⟨h3, h4, h5⟩ := hl rfl
    clear hl
    by_cases ho : t - f ≤ a / 4294967296 - t - 4
    · have hb := div_mul_bd (a / 4294967296 - t - 4) (t - f) (by omega) (by omega)
      have hd : ((t - f : Int) == 0) = false := beq_eq_false_iff_ne.2 (by omega)
      go_enter Try.func29, Try.ntmps29
      go_wp2
      go_ret
      exact ⟨ret_int (by unfold homeZ; rw [if_pos ⟨rfl, ho⟩]), bnew _ _⟩
    · go_enter Try.func29, Try.ntmps29
      go_wp2
      go_ret
      exact ⟨ret_int (by unfold homeZ; rw [if_neg (by simp; omega)]), bnew _ _⟩

/-- What is brought home lies where it lay. -/
theorem home_unroll (m : MetaV) (a k : Int) (hm : m.loop = true → 0 ≤ m.from_ ∧ m.from_ < m.to_ ∧ m.to_ ≤ 1048576) (ha : 0 ≤ a) (hk : -1 ≤ k) :
    unroll m (homeZ m.loop m.from_ m.to_ a / 4294967296 + k) = unroll m (a / 4294967296 + k) := by
  unfold homeZ
  split
  · rename_i h
    obtain ⟨h1, h2⟩ := h
    obtain ⟨h3, h4, h5⟩ := hm h1
    have hb := div_mul_bd (a / 4294967296 - m.to_ - 4) (m.to_ - m.from_) (by omega) (by omega)
    generalize hq : (a / 4294967296 - m.to_ - 4) / (m.to_ - m.from_) = q at *
    have e : (a - q * (m.to_ - m.from_) * 4294967296) / 4294967296 = a / 4294967296 - q * (m.to_ - m.from_) := by omega
    rw [e]
    unfold unroll
    rw [if_neg (by omega), if_neg (by simp [h1]), if_neg (by omega), if_neg (by omega), if_neg (by simp [h1]), if_neg (by omega)]
    congr 1
    rw [show a / 4294967296 - q * (m.to_ - m.from_) + k - m.from_ = (a / 4294967296 + k - m.from_) + (-q) * (m.to_ - m.from_) by rw [Int.neg_mul]; omega, Int.add_mul_emod_self_right]
  · rfl

theorem home_bd (lp : Bool) (f t a : Int) (hl : lp = true → 0 ≤ f ∧ f < t ∧ t ≤ 1048576) (ha : 0 ≤ a) : 0 ≤ homeZ lp f t a ∧ homeZ lp f t a ≤ a := by
  unfold homeZ
  split
  · rename_i h
    obtain ⟨h1, h2⟩ := h
    obtain ⟨h3, h4, h5⟩ := hl h1
    have hb := div_mul_bd (a / 4294967296 - t - 4) (t - f) (by omega) (by omega)
    omega
  · omega

set_option maxRecDepth 100000 in
set_option maxHeartbeats 4000000 in
theorem VoiceHomes_walk (nm : ByteArray) (len rate ch : Int) (lp : Bool) (f t s1 s2 a : Int) (w : World) (ha1 : -9223372036854775808 ≤ a) (ha2 : a ≤ 9223372036854775807) :
    Calls Try.prog 6 #[.agg #[.string nm, .int .i64 len, .int .i64 rate, .int .i64 ch, .bool lp, .int .i64 f, .int .i64 t, .int .i64 s1, .int .i64 s2], .int .i64 a] w
      fun e w' => e = .returned (.bool true) ∧ Below w.heap.size w w' := by
  cases hR : MetaV.right ⟨nm, len, rate, ch, lp, f, t, s1, s2⟩
  · have HR := Lib.hid hR
    clear hR
    go_enter Try.func6, Try.ntmps6
    go_wp2_with (first | (go_at_call 17; refine (RightMeta_any _ _ _ _ _ _ _ _ _ _).mono ?_; rintro e w1 ⟨rfl, hb1⟩; rw [HR.out]) | (go_at_call 19; refine (awake21_any _).mono ?_; rintro e w2 ⟨rfl, hb2⟩))
    go_ret
    exact ⟨rfl, bnext (bnew _ _) (bnext hb1 hb2)⟩
  · by_cases hr : 0 ≤ a ∧ a ≤ 4611686018427387904
    · obtain ⟨h0, h1⟩ := hr
      have hlf : lp = true → 0 ≤ f ∧ f < t ∧ t ≤ len := by
        intro hl
        unfold MetaV.right at hR
        simp only [hl, loopOk, Bool.and_eq_true, decide_eq_true_eq, if_true] at hR
        omega
      have hlen : 1 ≤ len ∧ len ≤ 1048576 := by
        unfold MetaV.right at hR
        simp only [Bool.and_eq_true, decide_eq_true_eq] at hR
        omega
      have HR := Lib.hid hR
      clear hR
      have HH := Lib.hid (fun W => Home_any nm len rate ch lp f t s1 s2 a W (fun h => by have := hlf h; omega) h0 h1)
      have HUn := Lib.hid (fun k hk => home_unroll ⟨nm, len, rate, ch, lp, f, t, s1, s2⟩ a k (fun h => by have := hlf h; simp; omega) h0 hk)
      have hhb := home_bd lp f t a (fun h => by have := hlf h; omega) h0
      cases lp
      · have e0 : homeZ false f t a = a := by simp [homeZ]
        rw [e0] at HH
        clear e0 hlf HUn hhb
        go_enter Try.func6, Try.ntmps6
        go_wp2_with (first | (go_at_call 17; refine (RightMeta_any _ _ _ _ _ _ _ _ _ _).mono ?_; rintro e w1 ⟨rfl, hb1⟩; rw [HR.out]; have x1 := blk_cells ((Blk.new w 23 [.string nm, .int .i64 len, .int .i64 rate, .int .i64 ch, .bool false, .int .i64 f, .int .i64 t, .int .i64 s1, .int .i64 s2]).below hb1 (by simp))) | (go_at_call 29; refine (HH.out _).mono ?_; rintro e w2 ⟨rfl, hb2⟩; have x2 := blk_cells (((Blk.new w 23 [.string nm, .int .i64 len, .int .i64 rate, .int .i64 ch, .bool false, .int .i64 f, .int .i64 t, .int .i64 s1, .int .i64 s2]).below hb1 (by simp)).below hb2 (by have := hb1.size; simp at this; omega))) | (go_at_call 19; refine (awake21_any _).mono ?_; rintro e w3 ⟨rfl, hb3⟩))
        go_ret
        exact ⟨rfl, bnext (bnew _ _) (bnext hb1 (bnext hb2 hb3))⟩
      · obtain ⟨h3, h4, h5⟩ := hlf rfl
        clear hlf
        have hv : (t - f ≤ a / 4294967296 - t - 4 ∧ homeZ true f t a = a - (a / 4294967296 - t - 4) / (t - f) * (t - f) * 4294967296) ∨ (a / 4294967296 - t - 4 < t - f ∧ homeZ true f t a = a) := by
          by_cases ho : t - f ≤ a / 4294967296 - t - 4
          · exact .inl ⟨ho, by unfold homeZ; rw [if_pos ⟨rfl, ho⟩]⟩
          · exact .inr ⟨by omega, by unfold homeZ; rw [if_neg (by simp; omega)]⟩
        generalize homeZ true f t a = h at *
        have HUh := Lib.hid (fun (z k : Int) (W : World) (hz : z = h / 4294967296 + k) (hk : -1 ≤ k ∧ k ≤ 2) => show Calls Try.prog 30 #[.agg #[.string nm, .int .i64 len, .int .i64 rate, .int .i64 ch, .bool true, .int .i64 f, .int .i64 t, .int .i64 s1, .int .i64 s2], .int .i64 z] W fun e w' => e = .returned (.int .i64 (unroll ⟨nm, len, rate, ch, true, f, t, s1, s2⟩ (a / 4294967296 + k))) ∧ Below W.heap.size W w' by
          have := Unroll_any nm len rate ch true f t s1 s2 z W (fun _ => ⟨h3, h4, h5⟩) (by omega) (by omega) (by omega) (by omega)
          rw [hz] at this ⊢
          rw [← HUn.out k hk.1]; exact this)
        have HUa := Lib.hid (fun (z k : Int) (W : World) (hz : z = a / 4294967296 + k) (hk : -1 ≤ k ∧ k ≤ 2) => show Calls Try.prog 30 #[.agg #[.string nm, .int .i64 len, .int .i64 rate, .int .i64 ch, .bool true, .int .i64 f, .int .i64 t, .int .i64 s1, .int .i64 s2], .int .i64 z] W fun e w' => e = .returned (.int .i64 (unroll ⟨nm, len, rate, ch, true, f, t, s1, s2⟩ (a / 4294967296 + k))) ∧ Below W.heap.size W w' by
          have := Unroll_any nm len rate ch true f t s1 s2 z W (fun _ => ⟨h3, h4, h5⟩) (by omega) (by omega) (by omega) (by omega)
          rw [hz] at this ⊢
          exact this)
        clear HUn
        have hbd : a / 4294967296 - t - 4 < t - f ∨ (0 ≤ (a / 4294967296 - t - 4) / (t - f) * (t - f) ∧ (a / 4294967296 - t - 4) / (t - f) * (t - f) ≤ a / 4294967296 - t - 4) := by
          by_cases ho : t - f ≤ a / 4294967296 - t - 4
          · have := div_mul_bd (a / 4294967296 - t - 4) (t - f) (by omega) (by omega)
            exact .inr ⟨this.1, this.2.1⟩
          · exact .inl (by omega)
        have hd : ((t - f : Int) == 0) = false := beq_eq_false_iff_ne.2 (by omega)
        rcases hv with ⟨ho, hv⟩ | ⟨ho, hv⟩
        all_goals
          rw [← bne_eq_false_iff_eq] at hv
          go_enter Try.func6, Try.ntmps6
          go_wp2_with (first | (go_at_call 17; refine (RightMeta_any _ _ _ _ _ _ _ _ _ _).mono ?_; rintro e w1 ⟨rfl, hb1⟩; rw [HR.out]; have x1 := blk_cells ((Blk.new w 23 [.string nm, .int .i64 len, .int .i64 rate, .int .i64 ch, .bool true, .int .i64 f, .int .i64 t, .int .i64 s1, .int .i64 s2]).below hb1 (by simp))) | (go_at_call 29; refine (HH.out _).mono ?_; rintro e w2 ⟨rfl, hb2⟩; have x2 := blk_cells (((Blk.new w 23 [.string nm, .int .i64 len, .int .i64 rate, .int .i64 ch, .bool true, .int .i64 f, .int .i64 t, .int .i64 s1, .int .i64 s2]).below hb1 (by simp)).below hb2 (by have := hb1.size; simp at this; omega))) | (go_at_call 19; refine (awake21_any _).mono ?_; rintro e w3 ⟨rfl, hb3⟩))
          have BB := Lib.hid (((Blk.new w 23 [.string nm, .int .i64 len, .int .i64 rate, .int .i64 ch, .bool true, .int .i64 f, .int .i64 t, .int .i64 s1, .int .i64 s2]).below hb1 (by simp)).below hb2 (by have := hb1.size; simp at this; omega))
          have Hb := Lib.hid (bnext (bnew w (.cells #[.string nm, .int .i64 len, .int .i64 rate, .int .i64 ch, .bool true, .int .i64 f, .int .i64 t, .int .i64 s1, .int .i64 s2] 23)) (bnext hb1 hb2))
          clear hb1 hb2 x1 x2
          refine wp_loop_rounds 5 ?_
          rw [rounds_succ]
          go_wp2
          have hx := gw_blk BB.out
          refine wp_region_calm (by kernel_rfl) (by kernel_rfl) ?_
          repeat (go_big_quiet_step (first | (go_at_call 30; exact calm_call (HUh.out _ (-1) _ (by omega) (by omega))) | (go_at_call 30; exact calm_call (HUa.out _ (-1) _ (by omega) (by omega)))))
          refine wpQuiet_nil ?_
          intro w5 hw'
          have hb5 := gw_below hw'
          have BB := Lib.hid (BB.out.below hb5 BB.out.lt)
          have Hb := Lib.hid (Hb.out.trans (hb5.mono Hb.out.size))
          clear hw' hx hb5
          go_wp2
          rw [rounds_succ]
          go_wp2
          have hx := gw_blk BB.out
          refine wp_region_calm (by kernel_rfl) (by kernel_rfl) ?_
          repeat (go_big_quiet_step (first | (go_at_call 30; exact calm_call (HUh.out _ (0) _ (by omega) (by omega))) | (go_at_call 30; exact calm_call (HUa.out _ (0) _ (by omega) (by omega)))))
          refine wpQuiet_nil ?_
          intro w5 hw'
          have hb5 := gw_below hw'
          have BB := Lib.hid (BB.out.below hb5 BB.out.lt)
          have Hb := Lib.hid (Hb.out.trans (hb5.mono Hb.out.size))
          clear hw' hx hb5
          go_wp2
          rw [rounds_succ]
          go_wp2
          have hx := gw_blk BB.out
          refine wp_region_calm (by kernel_rfl) (by kernel_rfl) ?_
          repeat (go_big_quiet_step (first | (go_at_call 30; exact calm_call (HUh.out _ (1) _ (by omega) (by omega))) | (go_at_call 30; exact calm_call (HUa.out _ (1) _ (by omega) (by omega)))))
          refine wpQuiet_nil ?_
          intro w5 hw'
          have hb5 := gw_below hw'
          have BB := Lib.hid (BB.out.below hb5 BB.out.lt)
          have Hb := Lib.hid (Hb.out.trans (hb5.mono Hb.out.size))
          clear hw' hx hb5
          go_wp2
          rw [rounds_succ]
          go_wp2
          have hx := gw_blk BB.out
          refine wp_region_calm (by kernel_rfl) (by kernel_rfl) ?_
          repeat (go_big_quiet_step (first | (go_at_call 30; exact calm_call (HUh.out _ (2) _ (by omega) (by omega))) | (go_at_call 30; exact calm_call (HUa.out _ (2) _ (by omega) (by omega)))))
          refine wpQuiet_nil ?_
          intro w5 hw'
          have hb5 := gw_below hw'
          have BB := Lib.hid (BB.out.below hb5 BB.out.lt)
          have Hb := Lib.hid (Hb.out.trans (hb5.mono Hb.out.size))
          clear hw' hx hb5
          go_wp2
          rw [rounds_succ]
          go_wp2_with (go_at_call 19; refine (awake21_any _).mono ?_; rintro e w3 ⟨rfl, hb3⟩)
          go_ret
          exact ⟨rfl, bnext Hb.out hb3⟩
    · have hr' : a < 0 ∨ 4611686018427387904 < a := by omega
      have HR := Lib.hid hR
      clear hR hr
      go_enter Try.func6, Try.ntmps6
      go_wp2_with (first | (go_at_call 17; refine (RightMeta_any _ _ _ _ _ _ _ _ _ _).mono ?_; rintro e w1 ⟨rfl, hb1⟩; rw [HR.out]) | (go_at_call 19; refine (awake21_any _).mono ?_; rintro e w2 ⟨rfl, hb2⟩))
      all_goals first | (go_ret; exact ⟨rfl, bnext (bnew _ _) (bnext hb1 hb2)⟩) | (exfalso; omega)
theorem VoiceHomes_law (W : World) (v0 v1 : Value) (a0 : Arg W (.pair (.str) 1 (.pair (.int .i64) 1 (.pair (.int .i64) 1 (.pair (.int .i64) 1 (.pair (.bool) 1 (.pair (.int .i64) 1 (.pair (.int .i64) 1 (.pair (.int .i64) 1 (.pair (.int .i64) 1 (.unit)))))))))) v0) (a1 : Arg W (.int .i64) v1) :
    Calls Try.prog 6 #[v0, v1] W fun e w' => e = .returned (.bool true) ∧ Below W.heap.size W w' := by
  obtain ⟨cs, rfl, c1, r1, rfl, ⟨nm, rfl, hs⟩, c2, r2, rfl, ⟨len, rfl, l1, l2⟩, c3, r3, rfl, ⟨rate, rfl, l3, l4⟩, c4, r4, rfl, ⟨ch, rfl, l5, l6⟩, c5, r5, rfl, ⟨lp, rfl⟩, c6, r6, rfl, ⟨f, rfl, l7, l8⟩, c7, r7, rfl, ⟨t, rfl, l9, l10⟩, c8, r8, rfl, ⟨s1, rfl, l11, l12⟩, c9, r9, rfl, ⟨s2, rfl, l13, l14⟩, rfl⟩ := a0
  obtain ⟨a, ha, a1, a2⟩ := a1
  obtain rfl : v1 = .int .i64 a := by simpa using ha
  rw [min_i64] at a1
  rw [max_i64] at a2
  exact VoiceHomes_walk nm len rate ch lp f t s1 s2 a W a1 a2
end Go.Proofs.Ythlidkdclhibpaa
