/- Contracts of layer 37's two and Right and of its law's Few; conditions: as each theorem states. -/
import Derived.Test.YtbgkoopfdfnmcaaKitB
import Derived.Test.YtbgkoopfdfnmcaaCalm
namespace Go.Proofs.Ytbgkoopfdfnmcaa
open Go.RowKit

structure MsgV where
  at_ : Int
  kind : Int
  ch : Int
  a : Int
  b : Int
def MsgV.cells (x : MsgV) : List Value := [.int .i64 x.at_, .int .i64 x.kind, .int .i64 x.ch, .int .i64 x.a, .int .i64 x.b]
def twoB (k : Int) : Bool := decide (k = 128) || (decide (k = 144) || (decide (k = 176) || decide (k = 224)))
theorem two_any (k : Int) (w : World) : Calls Try.prog 28 #[.int .i64 k] w fun e w' => e = .returned (.bool (twoB k)) ∧ w = w' := by
  have hc : (twoB k = true ∧ (k == 128) = true) ∨ (twoB k = true ∧ (k == 128) = false ∧ (k == 144) = true) ∨ (twoB k = true ∧ (k == 128) = false ∧ (k == 144) = false ∧ (k == 176) = true) ∨ (twoB k = decide (k = 224) ∧ (k == 128) = false ∧ (k == 144) = false ∧ (k == 176) = false) := by
    unfold twoB
    by_cases h1 : k = 128
    · left; subst h1; exact ⟨rfl, rfl⟩
    · by_cases h2 : k = 144
      · right; left; subst h2; exact ⟨rfl, rfl, rfl⟩
      · by_cases h3 : k = 176
        · right; right; left; subst h3; exact ⟨rfl, rfl, rfl, rfl⟩
        · right; right; right
          exact ⟨by simp [h1, h2, h3], beq_eq_false_iff_ne.2 h1, beq_eq_false_iff_ne.2 h2, beq_eq_false_iff_ne.2 h3⟩
  generalize twoB k = T at *
  rcases hc with ⟨hT, e1⟩ | ⟨hT, e1, e2⟩ | ⟨hT, e1, e2, e3⟩ | ⟨hT, e1, e2, e3⟩
  case inr.inr.inr =>
    obtain ⟨b, hb⟩ : ∃ b, (k == 224) = b := ⟨_, rfl⟩
    have hT2 : T = b := by rw [hT, ← hb]; rfl
    subst hT2
    clear hT
    go_enter Try.func28, Try.ntmps28
    go_wp2
    go_ret
    exact ⟨rfl, rfl⟩
  all_goals
    subst hT
    go_enter Try.func28, Try.ntmps28
    go_wp2
    go_ret
    exact ⟨rfl, rfl⟩
def rangeM (x : MsgV) : Bool := decide (0 ≤ x.at_) && (decide (x.at_ ≤ 268435455) && (decide (0 ≤ x.ch) && (decide (x.ch < 16) && (decide (0 ≤ min x.a x.b) && decide (max x.a x.b < 128)))))
def rightM (x : MsgV) : Bool := (twoB x.kind || (decide (x.kind = 192) && decide (x.b = 0))) && rangeM x
theorem and_true_l (b : Bool) : (true && b) = b := rfl
theorem and_false_l (b : Bool) : (false && b) = false := rfl
set_option maxRecDepth 100000 in
set_option maxHeartbeats 8000000 in
theorem midiRight_any (x : MsgV) (w : World) : Calls Try.prog 8 #[.agg x.cells.toArray] w fun e w' => e = .returned (.bool (rightM x)) ∧ Below w.heap.size w w' := by
  obtain ⟨at_, kd, ch, a, b⟩ := x
  have hR : rightM ⟨at_, kd, ch, a, b⟩ = ((twoB kd || (decide (kd = 192) && decide (b = 0))) && rangeM ⟨at_, kd, ch, a, b⟩) := rfl
  have hG : rangeM ⟨at_, kd, ch, a, b⟩ = (decide (0 ≤ at_) && (decide (at_ ≤ 268435455) && (decide (0 ≤ ch) && (decide (ch < 16) && (decide (0 ≤ min a b) && decide (max a b < 128)))))) := rfl
  obtain ⟨mn, hmn⟩ : ∃ mn, min a b = mn := ⟨_, rfl⟩
  obtain ⟨mx, hmx⟩ : ∃ mx, max a b = mx := ⟨_, rfl⟩
  have bmin : ∀ W, (Builtin.min_ #[3, 3] 3 #[.int .i64 a, .int .i64 b]).run Try.prog W = .ok (.int .i64 mn) W := fun W => by
    have e : (if b < a then b else a) = mn := by rw [← hmn]; split <;> omega
    simp [Builtin.min_, Builtin.min2, e]
  have bmax : ∀ W, (Builtin.max_ #[3, 3] 3 #[.int .i64 a, .int .i64 b]).run Try.prog W = .ok (.int .i64 mx) W := fun W => by
    have e : (if a < b then b else a) = mx := by rw [← hmx]; split <;> omega
    simp [Builtin.max_, Builtin.max2, e]
  rw [hmn, hmx] at hG
  have HT := Lib.hid (fun W => two_any kd W)
  generalize rightM ⟨at_, kd, ch, a, b⟩ = Z at *
  generalize rangeM ⟨at_, kd, ch, a, b⟩ = G at *
  show Calls Try.prog 8 #[.agg #[.int .i64 at_, .int .i64 kd, .int .i64 ch, .int .i64 a, .int .i64 b]] w _
  have hfirst : (Z = G ∧ twoB kd = true) ∨ (Z = G ∧ twoB kd = false ∧ (kd != 192) = false ∧ (b != 0) = false) ∨ (Z = false ∧ twoB kd = false ∧ (kd != 192) = true) ∨ (Z = false ∧ twoB kd = false ∧ (kd != 192) = false ∧ (b != 0) = true) := by
    cases h1 : twoB kd
    · by_cases h2 : kd = 192
      · by_cases h3 : b = 0
        · exact .inr (.inl ⟨by rw [hR, h1]; simp [h2, h3], rfl, by simp [h2], by simp [h3]⟩)
        · exact .inr (.inr (.inr ⟨by rw [hR, h1]; simp [h3], rfl, by simp [h2], by simp [h3]⟩))
      · exact .inr (.inr (.inl ⟨by rw [hR, h1]; simp [h2], rfl, by simp [h2]⟩))
    · exact .inl ⟨by rw [hR, h1]; rfl, rfl⟩
  generalize twoB kd = T at *
  clear hR hmn hmx
  have hsec : (G = false ∧ decide (0 ≤ at_) = false) ∨ (G = false ∧ decide (0 ≤ at_) = true ∧ decide (at_ ≤ 268435455) = false) ∨ (G = false ∧ decide (0 ≤ at_) = true ∧ decide (at_ ≤ 268435455) = true ∧ decide (0 ≤ ch) = false) ∨ (G = false ∧ decide (0 ≤ at_) = true ∧ decide (at_ ≤ 268435455) = true ∧ decide (0 ≤ ch) = true ∧ decide (ch < 16) = false) ∨ (G = false ∧ decide (0 ≤ at_) = true ∧ decide (at_ ≤ 268435455) = true ∧ decide (0 ≤ ch) = true ∧ decide (ch < 16) = true ∧ decide (0 ≤ mn) = false) ∨ (G = decide (mx < 128) ∧ decide (0 ≤ at_) = true ∧ decide (at_ ≤ 268435455) = true ∧ decide (0 ≤ ch) = true ∧ decide (ch < 16) = true ∧ decide (0 ≤ mn) = true) := by
    cases h1 : decide (0 ≤ at_)
    · exact .inl ⟨by rw [hG, h1]; rfl, rfl⟩
    · cases h2 : decide (at_ ≤ 268435455)
      · exact .inr (.inl ⟨by rw [hG, h1, h2]; rfl, rfl, rfl⟩)
      · cases h3 : decide (0 ≤ ch)
        · exact .inr (.inr (.inl ⟨by rw [hG, h1, h2, h3]; rfl, rfl, rfl, rfl⟩))
        · cases h4 : decide (ch < 16)
          · exact .inr (.inr (.inr (.inl ⟨by rw [hG, h1, h2, h3, h4]; rfl, rfl, rfl, rfl, rfl⟩)))
          · cases h5 : decide (0 ≤ mn)
            · exact .inr (.inr (.inr (.inr (.inl ⟨by rw [hG, h1, h2, h3, h4, h5]; rfl, rfl, rfl, rfl, rfl, rfl⟩))))
            · exact .inr (.inr (.inr (.inr (.inr ⟨by rw [hG, h1, h2, h3, h4, h5]; rfl, rfl, rfl, rfl, rfl, rfl⟩))))
  clear hG
  rcases hfirst with ⟨hz, hT⟩ | ⟨hz, hT, e1, e2⟩ | ⟨hz, hT, e1⟩ | ⟨hz, hT, e1, e2⟩
  case inr.inr.inl =>
    clear hsec
    subst hz hT
    go_enter Try.func8, Try.ntmps8
    go_wp2_with (go_at_call 28; refine (HT.out _).mono ?_; rintro e w3 ⟨rfl, rfl⟩)
    go_ret
    exact ⟨rfl, bnew _ _⟩
  case inr.inr.inr =>
    clear hsec
    subst hz hT
    go_enter Try.func8, Try.ntmps8
    go_wp2_with (go_at_call 28; refine (HT.out _).mono ?_; rintro e w3 ⟨rfl, rfl⟩)
    go_ret
    exact ⟨rfl, bnew _ _⟩
  all_goals
    subst hz hT
    rcases hsec with ⟨hg, d1⟩ | ⟨hg, d1, d2⟩ | ⟨hg, d1, d2, d3⟩ | ⟨hg, d1, d2, d3, d4⟩ | ⟨hg, d1, d2, d3, d4, d5⟩ | ⟨hg, d1, d2, d3, d4, d5⟩
    case inr.inr.inr.inr.inr =>
      obtain ⟨q, hq⟩ : ∃ q, decide (mx < 128) = q := ⟨_, rfl⟩
      have Hq := Lib.hid (hg.trans hq)
      clear hg
      go_enter Try.func8, Try.ntmps8
      go_wp2_with (go_at_call 28; refine (HT.out _).mono ?_; rintro e w3 ⟨rfl, rfl⟩)
      go_ret
      exact ⟨by rw [Hq.out]; rfl, bnew _ _⟩
    all_goals
      subst hg
      go_enter Try.func8, Try.ntmps8
      go_wp2_with (go_at_call 28; refine (HT.out _).mono ?_; rintro e w3 ⟨rfl, rfl⟩)
      go_ret
      exact ⟨rfl, bnew _ _⟩
end Go.Proofs.Ytbgkoopfdfnmcaa
