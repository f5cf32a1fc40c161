/- Contracts of layer 1's Ratio and Note and of layer 24's Check; conditions: as each theorem states. -/
import Derived.Test.YtbgkoopfdfnmcaaKitB
import Derived.Test.YtbgkoopfdfnmcaaParts
namespace Go.Proofs.Ytbgkoopfdfnmcaa
open Go.RowKit

def ratioA (t : Int) : Int := if t = 0 then 1 else if t = 1 then 16 else if t = 2 then 9 else if t = 3 then 6 else if t = 4 then 5 else if t = 5 then 4 else if t = 6 then 45 else if t = 7 then 3 else if t = 8 then 8 else if t = 9 then 5 else if t = 10 then 9 else 15
def ratioB (t : Int) : Int := if t = 0 then 1 else if t = 1 then 15 else if t = 2 then 8 else if t = 3 then 5 else if t = 4 then 4 else if t = 5 then 3 else if t = 6 then 32 else if t = 7 then 2 else if t = 8 then 5 else if t = 9 then 3 else if t = 10 then 5 else 8
def ratioCells : Array Value := #[.int .i64 1, .int .i64 1, .int .i64 16, .int .i64 15, .int .i64 9, .int .i64 8, .int .i64 6, .int .i64 5, .int .i64 5, .int .i64 4, .int .i64 4, .int .i64 3, .int .i64 45, .int .i64 32, .int .i64 3, .int .i64 2, .int .i64 8, .int .i64 5, .int .i64 5, .int .i64 3, .int .i64 9, .int .i64 5, .int .i64 15, .int .i64 8]
theorem ratio_built : Try.prog.built 102 [(0, .agg #[.int .i64 1, .int .i64 1]), (1, .agg #[.int .i64 16, .int .i64 15]), (2, .agg #[.int .i64 9, .int .i64 8]), (3, .agg #[.int .i64 6, .int .i64 5]), (4, .agg #[.int .i64 5, .int .i64 4]), (5, .agg #[.int .i64 4, .int .i64 3]), (6, .agg #[.int .i64 45, .int .i64 32]), (7, .agg #[.int .i64 3, .int .i64 2]), (8, .agg #[.int .i64 8, .int .i64 5]), (9, .agg #[.int .i64 5, .int .i64 3]), (10, .agg #[.int .i64 9, .int .i64 5]), (11, .agg #[.int .i64 15, .int .i64 8])] = some ratioCells := by kernel_rfl
theorem ratio_at {t : Nat} (h : t < 12) : ratioCells[t * 2 + 0]? = some (.int .i64 (ratioA t)) ∧ ratioCells[t * 2 + 1]? = some (.int .i64 (ratioB t)) := by
  rcases (show t = 0 ∨ t = 1 ∨ t = 2 ∨ t = 3 ∨ t = 4 ∨ t = 5 ∨ t = 6 ∨ t = 7 ∨ t = 8 ∨ t = 9 ∨ t = 10 ∨ t = 11 by omega) with rfl | rfl | rfl | rfl | rfl | rfl | rfl | rfl | rfl | rfl | rfl | rfl <;> exact ⟨rfl, rfl⟩
set_option maxRecDepth 100000 in
set_option maxHeartbeats 4000000 in
theorem ratio_any (t : Nat) (w : World) (h : t < 12) : Calls Try.prog 52 #[.int .i64 t] w fun e w' => e = .returned (.tuple #[.int .i64 (ratioA t), .int .i64 (ratioB t)]) ∧ Below w.heap.size w w' := by
  have HB := Lib.hid ratio_built
  obtain ⟨ha, hb⟩ := ratio_at h
  have hs : ratioCells.size = 24 := rfl
  have h1 : ratioCells.all (·.oneCell') = true := by kernel_rfl
  generalize ratioCells = rc at *
  generalize ratioA t = ra at *
  generalize ratioB t = rb at *
  have Hs := Lib.hid hs
  have H1 := Lib.hid h1
  have HFa := Lib.hid (show (Try.prog.info? 102).map (·.size) = some rc.size by rw [hs]; kernel_rfl)
  have Hc := Lib.hid (heap_alloc_new w (.cells rc 102))
  have Ha := Lib.hid ha
  have Hb := Lib.hid hb
  clear ha hb hs h1
  have t1 : ¬ ((t : Int) < 0) := by omega
  have t2 : ¬ (12 ≤ (t : Int)) := by omega
  have t3 : (t : Int) < 12 := by omega
  have t4 : (0 : Int) ≤ (t : Int) := by omega
  go_enter Try.func52, Try.ntmps52
  go_wp2_with (first | (refine wpList_built rfl 102 _ rfl rc (by simpa [Act.eval, Act.put] using HB.out) ?_) | (refine wpList_store_row_w rfl 102 (.tmp 4) (.tmp 17) rfl w.heap.size rfl _ _ rc rfl (heap_alloc_new w _) HFa.out (by rw [Hs.out]; rfl) H1.out ?_; rw [World.setRow_alloc_new]))
  obtain ⟨w1, hw1⟩ : ∃ w1, w.alloc (.cells rc 102) = w1 := ⟨_, rfl⟩
  rw [hw1] at Hc ⊢
  have Hb1 := Lib.hid (show Below w.heap.size w w1 by rw [← hw1]; exact bnew w _)
  clear hw1
  have xa := fun (z : GW w1) => (show z.1.cell? ⟨w.heap.size, t * 2 + 0, none⟩ = some (.int .i64 ra) from (cell_of_row _ _ _ _ _ _ (gw_heap Hc.out _ ⟨z, rfl⟩)).trans Ha.out)
  have xb := fun (z : GW w1) => (show z.1.cell? ⟨w.heap.size, t * 2 + 1, none⟩ = some (.int .i64 rb) from (cell_of_row _ _ _ _ _ _ (gw_heap Hc.out _ ⟨z, rfl⟩)).trans Hb.out)
  simp only [Nat.add_zero] at xa
  refine wp_region_calm (by kernel_rfl) (by kernel_rfl) ?_
  repeat (go_big_quiet_step (fail))
  refine wpQuiet_nil ?_
  intro w5 hw'
  have B5 := Lib.hid (bnext Hb1.out (gw_below hw'))
  clear hw' xa xb
  go_wp2
  refine bodyPost_ret (results_tmp2 Try.results52 _ _ _) rfl ?_
  exact ⟨rfl, B5.out⟩
/-- how fast a step is played -/
def pitchZ (s : Int) : Int :=
  if s < -60 ∨ 36 < s then 0 else
    let p := ratioA (s % 12) * 4294967296 / ratioB (s % 12)
    let q := if s / 12 < 0 then p / 2 ^ (-(s / 12)).toNat else p * 2 ^ (s / 12).toNat
    if 34359738368 < q then 0 else q
theorem ratio_bd (t : Int) : (1 ≤ ratioA t ∧ ratioA t ≤ 45) ∧ 1 ≤ ratioB t ∧ ratioB t ≤ 32 := by
  unfold ratioA ratioB
  refine ⟨?_, ?_⟩ <;> (repeat' split) <;> omega
theorem div_bd {a b : Int} (ha : 0 ≤ a) (hb : 1 ≤ b) : 0 ≤ a / b ∧ a / b ≤ a := ⟨Int.ediv_nonneg ha (by omega), Int.ediv_le_self _ ha⟩
set_option maxRecDepth 100000 in
set_option maxHeartbeats 8000000 in
theorem pitch_any (s : Int) (w : World) : Calls Try.prog 32 #[.int .i64 s] w fun e w' => e = .returned (.int .i64 (pitchZ s)) ∧ Below w.heap.size w w' := by
  have HP := Lib.hid (show pitchZ s = if s < -60 ∨ 36 < s then 0 else if 34359738368 < (if s / 12 < 0 then ratioA (s % 12) * 4294967296 / ratioB (s % 12) / 2 ^ (-(s / 12)).toNat else ratioA (s % 12) * 4294967296 / ratioB (s % 12) * 2 ^ (s / 12).toNat) then 0 else (if s / 12 < 0 then ratioA (s % 12) * 4294967296 / ratioB (s % 12) / 2 ^ (-(s / 12)).toNat else ratioA (s % 12) * 4294967296 / ratioB (s % 12) * 2 ^ (s / 12).toNat) from rfl)
  generalize pitchZ s = Z at *
  by_cases h1 : s < -60 ∨ 36 < s
  · have hZ : Z = 0 := by rw [HP.out, if_pos h1]
    subst hZ
    have hsd : decide (s < -60) = true ∨ (decide (s < -60) = false ∧ decide (36 < s) = true) := by
      by_cases h : s < -60
      · exact .inl (decide_eq_true h)
      · exact .inr ⟨decide_eq_false h, decide_eq_true (by omega)⟩
    clear h1 HP
    rcases hsd with e1 | ⟨e1, e2⟩
    all_goals
      go_enter Try.func32, Try.ntmps32
      go_wp2
      go_ret
      exact ⟨rfl, Below.refl _ _⟩
  · have e1 : decide (s < -60) = false := decide_eq_false (by omega)
    have e2 : decide (36 < s) = false := decide_eq_false (by omega)
    have HZ := Lib.hid (fun (o : Int) (t : Nat) (h : s = 12 * o + t) (ht : t < 12) => (show Z = if 34359738368 < (if o < 0 then ratioA t * 4294967296 / ratioB t / 2 ^ (-o).toNat else ratioA t * 4294967296 / ratioB t * 2 ^ o.toNat) then 0 else (if o < 0 then ratioA t * 4294967296 / ratioB t / 2 ^ (-o).toNat else ratioA t * 4294967296 / ratioB t * 2 ^ o.toNat) from by
      rw [HP.out, if_neg h1, show s / 12 = o by omega, show s % 12 = (t : Int) by omega]))
    have HR := Lib.hid (fun (t : Nat) W (h : t < 12) => ratio_any t W h)
    have h2 : -60 ≤ s ∧ s ≤ 36 := by omega
    obtain ⟨h3, h4⟩ := h2
    clear h1 HP
    go_enter Try.func32, Try.ntmps32
    go_wp2
    go_loopw [3, 4] (fun o t wr => ∃ a b : Int, o = .int .i64 a ∧ t = .int .i64 b ∧ s = 12 * a + b ∧ a ≤ 0 ∧ -6 ≤ a ∧ (b < 12 ∨ a = 0) ∧ w = wr) (fun _ t _ => (12 - intOf t).toNat)
    case atStart => exact ⟨0, s, rfl, rfl, by omega, by omega, by omega, .inr rfl, rfl⟩
    case round =>
      obtain ⟨a, b, rfl, rfl, hab, ha1, ha2, hb1, rfl⟩ := hrel
      by_cases hb : b < 0
      · have t1 : decide (b < 0) = true := decide_eq_true hb
        go_wp2
        go_roundw
        case rel => exact ⟨a - 1, b + 12, rfl, rfl, by omega, by omega, by omega, .inl (by omega), trivial⟩
        case measure => simp [intOf]; omega
      · have t1 : decide (b < 0) = false := decide_eq_false hb
        go_wp2_with fail
        go_loopw [3, 4] (fun o t wx => ∃ (a : Int) (b : Nat), o = .int .i64 a ∧ t = .int .i64 b ∧ s = 12 * a + b ∧ -6 ≤ a ∧ a ≤ 4 ∧ w = wx) (fun _ t _ => (intOf t).toNat)
        case atStart => exact ⟨a, b.toNat, rfl, by rw [Int.toNat_of_nonneg (by omega)], by omega, by omega, by omega, rfl⟩
        case round =>
          obtain ⟨o, t, rfl, rfl, hot, ho1, ho2, rfl⟩ := hrel
          by_cases ht : 12 ≤ t
          · have t2 : (12 : Int) ≤ (t : Int) := by omega
            go_wp2
            go_roundw
            case rel => exact ⟨o + 1, t - 12, rfl, by go_num, by omega, by omega, by omega, trivial⟩
            case measure => simp [intOf]; omega
          · have t2 : ¬ ((12 : Int) ≤ (t : Int)) := by omega
            have HZ2 := Lib.hid (HZ.out o t hot (by omega))
            have HR2 := Lib.hid (fun W => HR.out t W (by omega))
            obtain ⟨⟨ra1, ra2⟩, rb1, rb2⟩ := ratio_bd t
            generalize ratioA t = ra at *
            generalize ratioB t = rb at *
            obtain ⟨p, hp⟩ : ∃ p, ra * 4294967296 / rb = p := ⟨_, rfl⟩
            have hpb := div_bd (a := ra * 4294967296) (b := rb) (by omega) rb1
            rw [hp] at hpb HZ2
            obtain ⟨hp1, hp2⟩ := hpb
            have t3 : rb ≠ 0 := by omega
            have t4 : (rb == 0) = false := beq_eq_false_iff_ne.2 t3
            by_cases ho : o < 0
            · obtain ⟨k, hk⟩ := Int.eq_ofNat_of_zero_le (show 0 ≤ -o by omega)
              have hko : o = -(k : Int) := by omega
              subst hko
              have t5 : decide (-(k : Int) < 0) = true := decide_eq_true ho
              have hnn : - -(k : Int) = (k : Int) := by omega
              have hZ := HZ2.out
              rw [if_pos ho, hnn, Int.toNat_natCast] at hZ
              obtain ⟨q, hq⟩ : ∃ q, p / 2 ^ k = q := ⟨_, rfl⟩
              rw [hq] at hZ
              have Hz := Lib.hid hZ
              have t6 : (0 : Int) ≤ (k : Int) := by omega
              have hk6 : k ≤ 6 := by omega
              clear hZ HZ2 hk hot ho1 ho2
              by_cases h6 : 34359738368 < q
              · have t7 : decide (34359738368 < q) = true := decide_eq_true h6
                have Hz2 := Lib.hid (show Z = 0 by rw [Hz.out, if_pos h6])
                clear h6
                go_wp2_with (go_at_call 52; refine (HR2.out _).mono ?_; rintro e w3 ⟨rfl, hb3⟩)
                go_ret
                exact ⟨by rw [Hz2.out]; rfl, hb3⟩
              · have t7 : decide (34359738368 < q) = false := decide_eq_false h6
                have Hz2 := Lib.hid (show Z = q by rw [Hz.out, if_neg h6])
                clear h6
                go_wp2_with (go_at_call 52; refine (HR2.out _).mono ?_; rintro e w3 ⟨rfl, hb3⟩)
                go_ret
                exact ⟨by rw [Hz2.out]; rfl, hb3⟩
            · obtain ⟨k, hk⟩ := Int.eq_ofNat_of_zero_le (show 0 ≤ o by omega)
              subst hk
              have t5 : decide ((k : Int) < 0) = false := decide_eq_false ho
              have hZ := HZ2.out
              rw [if_neg ho, Int.toNat_natCast] at hZ
              have hk3 : k ≤ 4 := by omega
              have hpk : p * 2 ^ k ≤ 45 * 4294967296 * 16 ∧ 0 ≤ p * 2 ^ k := by
                rcases (show k = 0 ∨ k = 1 ∨ k = 2 ∨ k = 3 ∨ k = 4 by omega) with rfl | rfl | rfl | rfl | rfl <;> omega
              obtain ⟨q, hq⟩ : ∃ q, p * 2 ^ k = q := ⟨_, rfl⟩
              rw [hq] at hZ hpk
              have hwq : IntKind.i64.wrap q = q := IntWalk.i64_in _ (by omega)
              have Hz := Lib.hid hZ
              clear hZ HZ2 hot ho1 ho2
              by_cases h6 : 34359738368 < q
              · have t7 : decide (34359738368 < q) = true := decide_eq_true h6
                have Hz2 := Lib.hid (show Z = 0 by rw [Hz.out, if_pos h6])
                clear h6
                go_wp2_with (go_at_call 52; refine (HR2.out _).mono ?_; rintro e w3 ⟨rfl, hb3⟩)
                go_ret
                exact ⟨by rw [Hz2.out]; rfl, hb3⟩
              · have t7 : decide (34359738368 < q) = false := decide_eq_false h6
                have Hz2 := Lib.hid (show Z = q by rw [Hz.out, if_neg h6])
                clear h6
                go_wp2_with (go_at_call 52; refine (HR2.out _).mono ?_; rintro e w3 ⟨rfl, hb3⟩)
                go_ret
                exact ⟨by rw [Hz2.out]; rfl, hb3⟩
end Go.Proofs.Ytbgkoopfdfnmcaa
