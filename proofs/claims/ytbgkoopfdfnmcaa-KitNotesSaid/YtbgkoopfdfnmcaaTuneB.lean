/- Contract of layer 24's Check; conditions: as each theorem states. -/
import Derived.Test.YtbgkoopfdfnmcaaTuneA
namespace Go.Proofs.Ytbgkoopfdfnmcaa
open Go.RowKit

structure NoteV where
  at_ : Int
  name : ByteArray
  step : Int
  len : Int
  vol : Int
  a : Int
  d : Int
  s : Int
  r : Int
def NoteV.cells (x : NoteV) : List Value := [.int .i64 x.at_, .string x.name, .int .i64 x.step, .int .i64 x.len, .int .i64 x.vol, .int .i64 x.a, .int .i64 x.d, .int .i64 x.s, .int .i64 x.r]
def NoteV.check (x : NoteV) : Int :=
  if x.at_ < 0 ∨ 65536 ≤ x.at_ ∨ x.len < 0 ∨ 65536 < x.len then 5
  else if x.vol < 0 ∨ 256 < x.vol then 5
  else if pitchZ x.step = 0 then 14
  else if shapeOk x.a x.d x.s x.r = false then 1 else 0
set_option maxRecDepth 100000 in
set_option maxHeartbeats 8000000 in
theorem tuneCheck_any (x : NoteV) (w : World) : Calls Try.prog 13 #[.agg x.cells.toArray] w fun e w' => e = .returned (.int .i64 x.check) ∧ Below w.heap.size w w' := by
  obtain ⟨at_, nm, st, ln, vl, a, d, s, r⟩ := x
  have HZ := Lib.hid (show NoteV.check ⟨at_, nm, st, ln, vl, a, d, s, r⟩ = if at_ < 0 ∨ 65536 ≤ at_ ∨ ln < 0 ∨ 65536 < ln then 5 else if vl < 0 ∨ 256 < vl then 5 else if pitchZ st = 0 then 14 else if shapeOk a d s r = false then 1 else 0 from rfl)
  generalize NoteV.check ⟨at_, nm, st, ln, vl, a, d, s, r⟩ = Z at *
  have HP := Lib.hid (fun W => pitch_any st W)
  have HS := Lib.hid (fun W => envRight_any a d s r W)
  generalize pitchZ st = p at *
  generalize shapeOk a d s r = so at *
  have hcase : (Z = 5 ∧ decide (at_ < 0) = true) ∨ (Z = 5 ∧ decide (at_ < 0) = false ∧ decide (65536 ≤ at_) = true) ∨ (Z = 5 ∧ decide (at_ < 0) = false ∧ decide (65536 ≤ at_) = false ∧ decide (ln < 0) = true) ∨ (Z = 5 ∧ decide (at_ < 0) = false ∧ decide (65536 ≤ at_) = false ∧ decide (ln < 0) = false ∧ decide (65536 < ln) = true) ∨
      (decide (at_ < 0) = false ∧ decide (65536 ≤ at_) = false ∧ decide (ln < 0) = false ∧ decide (65536 < ln) = false ∧ Z = if vl < 0 ∨ 256 < vl then 5 else if p = 0 then 14 else if so = false then 1 else 0) := by
    have hz := HZ.out
    by_cases h1 : at_ < 0
    · exact .inl ⟨by rw [hz, if_pos (.inl h1)], decide_eq_true h1⟩
    · by_cases h2 : 65536 ≤ at_
      · exact .inr (.inl ⟨by rw [hz, if_pos (.inr (.inl h2))], decide_eq_false h1, decide_eq_true h2⟩)
      · by_cases h3 : ln < 0
        · exact .inr (.inr (.inl ⟨by rw [hz, if_pos (.inr (.inr (.inl h3)))], decide_eq_false h1, decide_eq_false h2, decide_eq_true h3⟩))
        · by_cases h4 : 65536 < ln
          · exact .inr (.inr (.inr (.inl ⟨by rw [hz, if_pos (.inr (.inr (.inr h4)))], decide_eq_false h1, decide_eq_false h2, decide_eq_false h3, decide_eq_true h4⟩)))
          · exact .inr (.inr (.inr (.inr ⟨decide_eq_false h1, decide_eq_false h2, decide_eq_false h3, decide_eq_false h4, by rw [hz, if_neg (by omega)]⟩)))
  clear HZ
  show Calls Try.prog 13 #[.agg #[.int .i64 at_, .string nm, .int .i64 st, .int .i64 ln, .int .i64 vl, .int .i64 a, .int .i64 d, .int .i64 s, .int .i64 r]] w _
  rcases hcase with ⟨hz, e1⟩ | ⟨hz, e1, e2⟩ | ⟨hz, e1, e2, e3⟩ | ⟨hz, e1, e2, e3, e4⟩ | ⟨e1, e2, e3, e4, hz⟩
  case inr.inr.inr.inr =>
    have hc2 : (Z = 5 ∧ decide (vl < 0) = true) ∨ (Z = 5 ∧ decide (vl < 0) = false ∧ decide (256 < vl) = true) ∨ (decide (vl < 0) = false ∧ decide (256 < vl) = false ∧ Z = if p = 0 then 14 else if so = false then 1 else 0) := by
      by_cases h1 : vl < 0
      · exact .inl ⟨by rw [hz, if_pos (.inl h1)], decide_eq_true h1⟩
      · by_cases h2 : 256 < vl
        · exact .inr (.inl ⟨by rw [hz, if_pos (.inr h2)], decide_eq_false h1, decide_eq_true h2⟩)
        · exact .inr (.inr ⟨decide_eq_false h1, decide_eq_false h2, by rw [hz, if_neg (by omega)]⟩)
    clear hz
    rcases hc2 with ⟨hz, e5⟩ | ⟨hz, e5, e6⟩ | ⟨e5, e6, hz⟩
    case inr.inr =>
      have HZ := Lib.hid hz
      clear hz
      by_cases hp : p = 0
      · have t1 : (p == 0) = true := by rw [hp]; rfl
        have HZ2 := Lib.hid (show Z = 14 by rw [HZ.out, if_pos hp])
        clear hp HZ
        go_enter Try.func13, Try.ntmps13
        go_wp2_with (go_at_call 32; refine (HP.out _).mono ?_; rintro e w3 ⟨rfl, hb3⟩)
        go_ret
        exact ⟨by rw [HZ2.out]; rfl, bnext (bnew w (.cells #[.int .i64 at_, .string nm, .int .i64 st, .int .i64 ln, .int .i64 vl, .int .i64 a, .int .i64 d, .int .i64 s, .int .i64 r] 38)) hb3⟩
      · have t1 : (p == 0) = false := beq_eq_false_iff_ne.2 hp
        have HZ2 := Lib.hid (show Z = if so = false then 1 else 0 by rw [HZ.out, if_neg hp])
        obtain ⟨w1, hw1⟩ : ∃ w1, w.alloc (.cells #[.int .i64 at_, .string nm, .int .i64 st, .int .i64 ln, .int .i64 vl, .int .i64 a, .int .i64 d, .int .i64 s, .int .i64 r] 38) = w1 := ⟨_, rfl⟩
        have hx := Blk.new w 38 [.int .i64 at_, .string nm, .int .i64 st, .int .i64 ln, .int .i64 vl, .int .i64 a, .int .i64 d, .int .i64 s, .int .i64 r]
        have HB1 := Lib.hid (bnew w (.cells #[.int .i64 at_, .string nm, .int .i64 st, .int .i64 ln, .int .i64 vl, .int .i64 a, .int .i64 d, .int .i64 s, .int .i64 r] 38))
        rw [show ([.int .i64 at_, .string nm, .int .i64 st, .int .i64 ln, .int .i64 vl, .int .i64 a, .int .i64 d, .int .i64 s, .int .i64 r] : List Value).toArray = #[.int .i64 at_, .string nm, .int .i64 st, .int .i64 ln, .int .i64 vl, .int .i64 a, .int .i64 d, .int .i64 s, .int .i64 r] from rfl, hw1] at hx
        rw [hw1] at HB1
        have Hx := Lib.hid hx
        have x1 := blk_cells hx
        clear hp HZ hx
        go_enter Try.func13, Try.ntmps13
        go_wp2_with (go_at_call 32; fail)
        clear x1
        refine (HP.out _).mono ?_
        rintro e w3 ⟨rfl, hb3⟩
        have x3 := blk_cells (Hx.out.below hb3 Hx.out.lt)
        have E3 := Lib.hid (bnext HB1.out hb3)
        clear hb3
        cases so
        all_goals
          go_wp2_with (go_at_call 33; refine (HS.out _).mono ?_; rintro e w5 ⟨rfl, hb5⟩)
          go_ret
          exact ⟨by rw [HZ2.out]; rfl, bnext E3.out hb5⟩
    all_goals
      subst hz
      go_enter Try.func13, Try.ntmps13
      go_wp2
      go_ret
      exact ⟨rfl, bnew _ _⟩
  all_goals
    subst hz
    go_enter Try.func13, Try.ntmps13
    go_wp2
    go_ret
    exact ⟨rfl, bnew _ _⟩
end Go.Proofs.Ytbgkoopfdfnmcaa
