/- Contracts of layer 4's Taps and layer 21's Blend, Phase, and the law VoiceBlends; conditions: as each theorem states. -/
import Derived.Test.YtibegmjkiceiiaaNumA
import Derived.Test.YtibegmjkiceiiaaMem
import Derived.Handy
namespace Go.Proofs.Ytibegmjkiceiiaa
open Go.RowKit

def tap0 (q : Int) : Int := if 0 ≤ q ∧ q < 32 then -q*q*q + 64*q*q - 1024*q else 0
def tap1 (q : Int) : Int := if 0 ≤ q ∧ q < 32 then 3*q*q*q - 160*q*q + 65536 else 0
def tap2 (q : Int) : Int := if 0 ≤ q ∧ q < 32 then -3*q*q*q + 128*q*q + 1024*q else 0
def tap3 (q : Int) : Int := if 0 ≤ q ∧ q < 32 then q*q*q - 32*q*q else 0
theorem tap_bds (q : Int) : (-65536 ≤ tap0 q ∧ tap0 q ≤ 65536) ∧ (-65536 ≤ tap1 q ∧ tap1 q ≤ 65536) ∧ (-65536 ≤ tap2 q ∧ tap2 q ≤ 65536) ∧ (-65536 ≤ tap3 q ∧ tap3 q ≤ 65536) := by
  by_cases h : 0 ≤ q ∧ q < 32
  · obtain ⟨n, rfl⟩ := Int.eq_ofNat_of_zero_le h.1
    have key : ∀ n : Fin 32, (-65536 ≤ tap0 n.val ∧ tap0 n.val ≤ 65536) ∧ (-65536 ≤ tap1 n.val ∧ tap1 n.val ≤ 65536) ∧ (-65536 ≤ tap2 n.val ∧ tap2 n.val ≤ 65536) ∧ (-65536 ≤ tap3 n.val ∧ tap3 n.val ≤ 65536) := by decide
    exact key ⟨n, by omega⟩
  · unfold tap0 tap1 tap2 tap3; simp [h]

theorem taps_facts (q : Int) (h0 : 0 ≤ q) (h1 : q < 32) : (-961 ≤ -q*q ∧ -q*q ≤ 0) ∧ (-29791 ≤ -q*q*q ∧ -q*q*q ≤ 0) ∧ (0 ≤ 64*q*q ∧ 64*q*q ≤ 61504) ∧ (0 ≤ 3*q*q ∧ 3*q*q ≤ 2883) ∧ (0 ≤ 3*q*q*q ∧ 3*q*q*q ≤ 89373) ∧
    (0 ≤ 160*q*q ∧ 160*q*q ≤ 153760) ∧ (-2883 ≤ -3*q*q ∧ -3*q*q ≤ 0) ∧ (-89373 ≤ -3*q*q*q ∧ -3*q*q*q ≤ 0) ∧ (0 ≤ 128*q*q ∧ 128*q*q ≤ 123008) ∧ (0 ≤ q*q ∧ q*q ≤ 961) ∧ (0 ≤ q*q*q ∧ q*q*q ≤ 29791) ∧ (0 ≤ 32*q*q ∧ 32*q*q ≤ 30752) := by
  obtain ⟨n, rfl⟩ := Int.eq_ofNat_of_zero_le h0
  have key : ∀ n : Fin 32, (-961 ≤ -(n.val : Int)*n.val ∧ -(n.val : Int)*n.val ≤ 0) ∧ (-29791 ≤ -(n.val : Int)*n.val*n.val ∧ -(n.val : Int)*n.val*n.val ≤ 0) ∧ (0 ≤ 64*(n.val : Int)*n.val ∧ 64*(n.val : Int)*n.val ≤ 61504) ∧ (0 ≤ 3*(n.val : Int)*n.val ∧ 3*(n.val : Int)*n.val ≤ 2883) ∧ (0 ≤ 3*(n.val : Int)*n.val*n.val ∧ 3*(n.val : Int)*n.val*n.val ≤ 89373) ∧
    (0 ≤ 160*(n.val : Int)*n.val ∧ 160*(n.val : Int)*n.val ≤ 153760) ∧ (-2883 ≤ -3*(n.val : Int)*n.val ∧ -3*(n.val : Int)*n.val ≤ 0) ∧ (-89373 ≤ -3*(n.val : Int)*n.val*n.val ∧ -3*(n.val : Int)*n.val*n.val ≤ 0) ∧ (0 ≤ 128*(n.val : Int)*n.val ∧ 128*(n.val : Int)*n.val ≤ 123008) ∧ (0 ≤ (n.val : Int)*n.val ∧ (n.val : Int)*n.val ≤ 961) ∧ (0 ≤ (n.val : Int)*n.val*n.val ∧ (n.val : Int)*n.val*n.val ≤ 29791) ∧ (0 ≤ 32*(n.val : Int)*n.val ∧ 32*(n.val : Int)*n.val ≤ 30752) := by decide
  exact key ⟨n, by omega⟩

set_option maxHeartbeats 1000000 in
theorem Taps_any (q : Int) (w : World) :
    Calls Try.prog 168 #[.int .i64 q] w fun e w' => e = .returned (.agg #[.int .i64 (tap0 q), .int .i64 (tap1 q), .int .i64 (tap2 q), .int .i64 (tap3 q)]) ∧ Below w.heap.size w w' := by
  by_cases h : 0 ≤ q ∧ q < 32
  · obtain ⟨h0, h1⟩ := h
    obtain ⟨f1, f2, f3, f4, f5, f6, f7, f8, f9, f10, f11, f12⟩ := taps_facts q h0 h1
    go_enter Try.func168, Try.ntmps168
    go_wp2
    go_returns
    refine ⟨?_, ?_⟩
    · unfold tap0 tap1 tap2 tap3
      rw [if_pos ⟨h0, h1⟩, if_pos ⟨h0, h1⟩, if_pos ⟨h0, h1⟩, if_pos ⟨h0, h1⟩]
    · exact bnew _ _
  · have e0 : tap0 q = 0 := by unfold tap0; rw [if_neg h]
    have e1 : tap1 q = 0 := by unfold tap1; rw [if_neg h]
    have e2 : tap2 q = 0 := by unfold tap2; rw [if_neg h]
    have e3 : tap3 q = 0 := by unfold tap3; rw [if_neg h]
    rw [e0, e1, e2, e3]
    clear e0 e1 e2 e3
    have h' : q < 0 ∨ 32 ≤ q := by omega
    clear h
    rcases h' with h' | h'
    all_goals
      go_enter Try.func168, Try.ntmps168
      go_wp2
      go_returns
      exact ⟨rfl, bnew _ _⟩

/-- four samples at a phase -/
def blendZ (x0 x1 x2 x3 q : Int) : Int := satZ (roundZ (tap0 q * x0 + tap1 q * x1 + tap2 q * x2 + tap3 q * x3) 16)

theorem mul_bd (t x : Int) (ht : -65536 ≤ t ∧ t ≤ 65536) (h1 : -1048576 ≤ x) (h2 : x ≤ 1048576) : -68719476736 ≤ t * x ∧ t * x ≤ 68719476736 := by
  have key : (t * x).natAbs ≤ 65536 * 1048576 := by
    rw [Int.natAbs_mul]
    exact Nat.mul_le_mul (by omega) (by omega)
  omega

set_option maxHeartbeats 1000000 in
theorem Blend_any (x0 x1 x2 x3 q : Int) (w : World) (h0 : -1048576 ≤ x0 ∧ x0 ≤ 1048576) (h1 : -1048576 ≤ x1 ∧ x1 ≤ 1048576) (h2 : -1048576 ≤ x2 ∧ x2 ≤ 1048576) (h3 : -1048576 ≤ x3 ∧ x3 ≤ 1048576) :
    Calls Try.prog 116 #[.agg #[.int .i64 x0, .int .i64 x1, .int .i64 x2, .int .i64 x3], .int .i64 q] w fun e w' => e = .returned (.int .i64 (blendZ x0 x1 x2 x3 q)) ∧ Below w.heap.size w w' := by
  obtain ⟨t0, t1, t2, t3⟩ := tap_bds q
  have m0 := mul_bd _ _ t0 h0.1 h0.2
  have m1 := mul_bd _ _ t1 h1.1 h1.2
  have m2 := mul_bd _ _ t2 h2.1 h2.2
  have m3 := mul_bd _ _ t3 h3.1 h3.2
  have HZ := Lib.hid (show blendZ x0 x1 x2 x3 q = satZ (roundZ (tap0 q * x0 + tap1 q * x1 + tap2 q * x2 + tap3 q * x3) 16) from rfl)
  generalize blendZ x0 x1 x2 x3 q = z at *
  have HT0 := Taps_any q
  generalize tap0 q = τ0 at *
  generalize tap1 q = τ1 at *
  generalize tap2 q = τ2 at *
  generalize tap3 q = τ3 at *
  have HT := Lib.hid HT0
  clear HT0 t0 t1 t2 t3
  have i0 : ∀ w, (Instr.index 238 (.agg #[.int .i64 τ0, .int .i64 τ1, .int .i64 τ2, .int .i64 τ3]) (.int .i64 0)).run Try.prog w = .ok (.int .i64 τ0) w := fun _ => by kernel_rfl
  have i1 : ∀ w, (Instr.index 238 (.agg #[.int .i64 τ0, .int .i64 τ1, .int .i64 τ2, .int .i64 τ3]) (.int .i64 1)).run Try.prog w = .ok (.int .i64 τ1) w := fun _ => by kernel_rfl
  have i2 : ∀ w, (Instr.index 238 (.agg #[.int .i64 τ0, .int .i64 τ1, .int .i64 τ2, .int .i64 τ3]) (.int .i64 2)).run Try.prog w = .ok (.int .i64 τ2) w := fun _ => by kernel_rfl
  have i3 : ∀ w, (Instr.index 238 (.agg #[.int .i64 τ0, .int .i64 τ1, .int .i64 τ2, .int .i64 τ3]) (.int .i64 3)).run Try.prog w = .ok (.int .i64 τ3) w := fun _ => by kernel_rfl
  go_enter Try.func116, Try.ntmps116
  go_wp2_with (go_at_call 168; refine (HT.out _).mono ?_; rintro e w1 ⟨rfl, hb⟩; have c0 := hb.cell (p := ⟨w.heap.size, 0, none⟩) (by simp); have c1 := hb.cell (p := ⟨w.heap.size, 1, none⟩) (by simp); have c2 := hb.cell (p := ⟨w.heap.size, 2, none⟩) (by simp); have c3 := hb.cell (p := ⟨w.heap.size, 3, none⟩) (by simp))
  refine wp_loop_rounds 5 ?_
  repeat any_goals (rw [rounds_succ]; go_wp2_with (first | (go_at_call 173; refine (Round_any _ _ _ (by omega) (by omega) (by omega) (by omega)).mono ?_; rintro e w2 ⟨rfl, n2, rfl⟩) | (go_at_call 172; refine (Sat_any _ _).mono ?_; rintro e w3 ⟨rfl, rfl⟩)))
  go_ret
  exact ⟨ret_int (by rw [HZ.out]), below_drewN (bnext (bnew _ _) hb) _⟩

theorem Phase_any (at_ : Int) (w : World) :
    Calls Try.prog 167 #[.int .i64 at_] w fun e w' => e = .returned (.int .i64 (at_ / 134217728 % 32)) ∧ w = w' := by
  have hm := i64_mask at_ 4294967295 32 (by decide) (by decide)
  go_enter Try.func167, Try.ntmps167
  go_wp2
  go_ret
  exact ⟨ret_int (by omega), rfl⟩

theorem awake21_any (w : World) :
    Calls Try.prog 57 #[] w fun e w' => e = .returned (.bool true) ∧ Below w.heap.size w w' := by
  have hz := Lib.hid (show blendZ 0 100 200 300 16 = 150 by decide)
  go_enter Try.func57, Try.ntmps57
  go_wp2_with (go_at_call 116; refine (Blend_any 0 100 200 300 16 _ (by omega) (by omega) (by omega) (by omega)).mono ?_; rintro e w' ⟨rfl, hb⟩; rw [hz.out])
  go_ret
  exact ⟨rfl, hb⟩

end Go.Proofs.Ytibegmjkiceiiaa
