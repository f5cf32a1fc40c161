/- LiftA. Conditions: as each theorem states. -/
import Derived.Handy
import Derived.Test.YthmgjielcmjenaaGreatZc04
import Derived.Test.YthmgjielcmjenaaGreatZc01
import Derived.Test.YthmgjielcmjenaaGreatZc06

namespace Go.Proofs.YthmgjielcmjenaaGreat
open Go.RowKit

def TurnV.cells (t : TurnV) : List Value := [.int .i64 t.p, .int .i64 t.u]
/-- a turn that may be -/
def TurnV.ok (t : TurnV) : Prop := (0 ≤ t.p ∧ t.p ≤ 16384) ∧ 0 ≤ t.u ∧ t.u ≤ 16384
theorem turnK_ok {k : Nat} (hk : k < 8) : (turnK k).ok := by
  have hk8 : k = 0 ∨ k = 1 ∨ k = 2 ∨ k = 3 ∨ k = 4 ∨ k = 5 ∨ k = 6 ∨ k = 7 := by omega
  unfold TurnV.ok
  rcases hk8 with rfl | rfl | rfl | rfl | rfl | rfl | rfl | rfl
  · rw [turnK_0]; simp
  · rw [turnK_1]; simp
  · rw [turnK_2]; simp
  · rw [turnK_3]; simp
  · rw [turnK_4]; simp
  · rw [turnK_5]; simp
  · rw [turnK_6]; simp
  · rw [turnK_7]; simp
theorem part_prod {c v B : Int} (hc : 0 ≤ c ∧ c ≤ 16384) (h1 : -B ≤ v) (h2 : v ≤ B) : -(16384 * B) ≤ c * v ∧ c * v ≤ 16384 * B := by
  have hB : 0 ≤ B := by omega
  have a := Int.mul_le_mul_of_nonneg_left h2 hc.1
  have b := Int.mul_le_mul_of_nonneg_left h1 hc.1
  have d := Int.mul_le_mul_of_nonneg_right hc.2 hB
  rw [Int.mul_neg] at b
  omega
theorem part_bd {c v B : Int} (hc : 0 ≤ c ∧ c ≤ 16384) (h1 : -B ≤ v) (h2 : v ≤ B) : -(B + 1) ≤ partZ c v ∧ partZ c v ≤ B + 1 := by
  have h := part_prod hc h1 h2
  have k := partZ_lin c v
  omega
set_option maxRecDepth 100000 in
theorem part_any (c v : Int) (w : World) (hc : 0 ≤ c ∧ c ≤ 16384) (h1 : -17592186044416 ≤ v) (h2 : v ≤ 17592186044416) :
    Calls Tryz.prog 83 #[.int .i64 c, .int .i64 v] w fun e w' => e = .returned (.int .i64 (partZ c v)) ∧ Below w.heap.size w w' := by
  have hp := part_prod hc h1 h2
  have hw : IntKind.i64.wrap (c * v) = c * v := IntWalk.i64_in _ (by omega)
  have hb14 : -9223372036854775808 ≤ c * v ∧ c * v ≤ 9223372036854775807 := by omega
  unfold partZ
  have HR := Lib.hid (fun W => Round_any (c * v) 14 W hb14.1 hb14.2 (by decide) (by decide))
  rw [show (14 : Int).toNat = 14 from rfl] at HR
  generalize roundZ (c * v) 14 = pz at *
  clear hb14 hp h1 h2 hc
  go_enter Tryz.func83, Tryz.ntmps83
  go_wp2_with (go_at_call 79; fail)
  refine (HR.out _).mono ?_
  rintro e w1 ⟨rfl, nd, hnd⟩
  have hb : Below w.heap.size w w1 := by rw [hnd]; exact below_drewN (Below.refl _ _) nd
  clear hnd
  go_wp2
  go_ret
  exact ⟨rfl, hb⟩

/-- numbers that are turned -/
def Turnable (a : Int) : Prop := -1099511627776 ≤ a ∧ a ≤ 1099511627776
set_option maxRecDepth 100000 in
theorem liftTurn_any (a b : Int) (t : TurnV) (w : World) (ht : t.ok) (ha : Turnable a) (hb : Turnable b) :
    Calls Tryz.prog 68 #[.int .i64 a, .int .i64 b, .agg #[.int .i64 t.p, .int .i64 t.u]] w fun e w' => e = .returned (.tuple #[.int .i64 (turnA a b t), .int .i64 (turnB a b t)]) ∧ Below w.heap.size w w' := by
  obtain ⟨p, u⟩ := t
  obtain ⟨hp, hu⟩ := ht
  simp only at hp hu
  have b1 := part_bd hp hb.1 hb.2
  have H1 := Lib.hid (fun W => part_any p b W hp (by have := hb.1; omega) (by have := hb.2; omega))
  obtain ⟨ha1, ha2⟩ := ha
  obtain ⟨hb1, hb2⟩ := hb
  have HA : turnA a b ⟨p, u⟩ = a + partZ p b + partZ p (b - partZ u (a + partZ p b)) := rfl
  have HB : turnB a b ⟨p, u⟩ = b - partZ u (a + partZ p b) := rfl
  rw [HA, HB]
  generalize partZ p b = X at *
  have b2 := part_bd (v := a + X) (B := 4398046511104) hu (by omega) (by omega)
  have H2 := Lib.hid (fun W => part_any u (a + X) W hu (by omega) (by omega))
  generalize partZ u (a + X) = Y at *
  have b3 := part_bd (v := b - Y) (B := 8796093022208) hp (by omega) (by omega)
  have H3 := Lib.hid (fun W => part_any p (b - Y) W hp (by omega) (by omega))
  generalize partZ p (b - Y) = Z at *
  have w1 : IntKind.i64.wrap (a + X) = a + X := IntWalk.i64_in _ (by omega)
  have w2 : IntKind.i64.wrap (b - Y) = b - Y := IntWalk.i64_in _ (by omega)
  have w3 : IntKind.i64.wrap (a + X + Z) = a + X + Z := IntWalk.i64_in _ (by omega)
  have HM := Lib.hid (heap_alloc_new w (.cells #[.int .i64 p, .int .i64 u] 52))
  clear HA HB b1 b2 b3 hp hu ha1 ha2 hb1 hb2
  go_enter Tryz.func68, Tryz.ntmps68
  go_wp2_with (go_at_call 83; fail)
  refine (H1.out _).mono ?_
  rintro e v1 ⟨rfl, hv1⟩
  have M1 := Lib.hid (hkeep HM.out hv1)
  have B1 := Lib.hid (bnext (bnew w _) hv1)
  have c1 := cell_of_row v1 w.heap.size 1 _ _ _ M1.out
  clear hv1
  go_wp2_with (go_at_call 83; fail)
  refine (H2.out _).mono ?_
  rintro e v2 ⟨rfl, hv2⟩
  have M2 := Lib.hid (hkeep M1.out hv2)
  have B2 := Lib.hid (bnext B1.out hv2)
  have c2 := cell_of_row v2 w.heap.size 0 _ _ _ M2.out
  clear hv2 c1
  go_wp2_with (go_at_call 83; fail)
  refine (H3.out _).mono ?_
  rintro e v3 ⟨rfl, hv3⟩
  go_wp2
  refine bodyPost_ret (results_tmp2 Tryz.results68 _ _ _) rfl ?_
  exact ⟨rfl, bnext B2.out hv3⟩
set_option maxRecDepth 100000 in
theorem liftBack_any (a b : Int) (t : TurnV) (w : World) (ht : t.ok) (ha : Turnable a) (hb : Turnable b) :
    Calls Tryz.prog 77 #[.int .i64 a, .int .i64 b, .agg #[.int .i64 t.p, .int .i64 t.u]] w fun e w' => e = .returned (.tuple #[.int .i64 (unA a b t), .int .i64 (unB a b t)]) ∧ Below w.heap.size w w' := by
  obtain ⟨p, u⟩ := t
  obtain ⟨hp, hu⟩ := ht
  simp only at hp hu
  have b1 := part_bd hp hb.1 hb.2
  have H1 := Lib.hid (fun W => part_any p b W hp (by have := hb.1; omega) (by have := hb.2; omega))
  obtain ⟨ha1, ha2⟩ := ha
  obtain ⟨hb1, hb2⟩ := hb
  have HA : unA a b ⟨p, u⟩ = a - partZ p b - partZ p (b + partZ u (a - partZ p b)) := rfl
  have HB : unB a b ⟨p, u⟩ = b + partZ u (a - partZ p b) := rfl
  rw [HA, HB]
  generalize partZ p b = X at *
  have b2 := part_bd (v := a - X) (B := 4398046511104) hu (by omega) (by omega)
  have H2 := Lib.hid (fun W => part_any u (a - X) W hu (by omega) (by omega))
  generalize partZ u (a - X) = Y at *
  have b3 := part_bd (v := b + Y) (B := 8796093022208) hp (by omega) (by omega)
  have H3 := Lib.hid (fun W => part_any p (b + Y) W hp (by omega) (by omega))
  generalize partZ p (b + Y) = Z at *
  have w1 : IntKind.i64.wrap (a - X) = a - X := IntWalk.i64_in _ (by omega)
  have w2 : IntKind.i64.wrap (b + Y) = b + Y := IntWalk.i64_in _ (by omega)
  have w3 : IntKind.i64.wrap (a - X - Z) = a - X - Z := IntWalk.i64_in _ (by omega)
  have HM := Lib.hid (heap_alloc_new w (.cells #[.int .i64 p, .int .i64 u] 52))
  clear HA HB b1 b2 b3 hp hu ha1 ha2 hb1 hb2
  go_enter Tryz.func77, Tryz.ntmps77
  go_wp2_with (go_at_call 83; fail)
  refine (H1.out _).mono ?_
  rintro e v1 ⟨rfl, hv1⟩
  have M1 := Lib.hid (hkeep HM.out hv1)
  have B1 := Lib.hid (bnext (bnew w _) hv1)
  have c1 := cell_of_row v1 w.heap.size 1 _ _ _ M1.out
  clear hv1
  go_wp2_with (go_at_call 83; fail)
  refine (H2.out _).mono ?_
  rintro e v2 ⟨rfl, hv2⟩
  have M2 := Lib.hid (hkeep M1.out hv2)
  have B2 := Lib.hid (bnext B1.out hv2)
  have c2 := cell_of_row v2 w.heap.size 0 _ _ _ M2.out
  clear hv2 c1
  go_wp2_with (go_at_call 83; fail)
  refine (H3.out _).mono ?_
  rintro e v3 ⟨rfl, hv3⟩
  go_wp2
  refine bodyPost_ret (results_tmp2 Tryz.results77 _ _ _) rfl ?_
  exact ⟨rfl, bnext B2.out hv3⟩
theorem inf_turn : (Tryz.prog.info? 52).map (·.size) = some 2 := by kernel_rfl
set_option maxRecDepth 100000 in
theorem tableTurn_any (k : Nat) (w : World) (hk : k < 8) :
    Calls Tryz.prog 63 #[.int .i64 k] w fun e w' => e = .returned (.agg #[.int .i64 (turnK k).p, .int .i64 (turnK k).u]) ∧ Below w.heap.size w w' := by
  have hk8 : k = 0 ∨ k = 1 ∨ k = 2 ∨ k = 3 ∨ k = 4 ∨ k = 5 ∨ k = 6 ∨ k = 7 := by omega
  rcases hk8 with rfl | rfl | rfl | rfl | rfl | rfl | rfl | rfl
  all_goals
    first | rw [turnK_0] | rw [turnK_1] | rw [turnK_2] | rw [turnK_3] | rw [turnK_4] | rw [turnK_5] | rw [turnK_6] | rw [turnK_7]
    go_enter Tryz.func63, Tryz.ntmps63
    go_wp2
    refine bodyPost_ret (v := _) (results_cell_row Tryz.results63 _ _ w.heap.size 52 _ (0, 0) _ rfl (heap_alloc_new w _) Tryz.underlying52 rfl inf_turn) rfl ?_
    exact ⟨rfl, bnew _ _⟩
end Go.Proofs.YthmgjielcmjenaaGreat
