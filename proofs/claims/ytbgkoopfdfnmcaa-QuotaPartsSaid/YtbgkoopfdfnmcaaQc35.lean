/- WaveC. Conditions: as each theorem states. -/
import Derived.Test.YtbgkoopfdfnmcaaQc31

namespace Go.Proofs.Ytbgkoopfdfnmcaa
open Go.RowKit

set_option maxHeartbeats 2000000 in
theorem lawcheck_early (nm : ByteArray) (rate : Int) (lp : Bool) (f t : Int) (a : Option Addr) (cap : Nat) (vs : List Value) (rows : List (List Int)) (w : World) (hs : nm.size ≤ 9223372036854775807) (hr : Row w w.heap.size a vs) (hm : RowsAt w w.heap.size vs rows) (hcap : rows.length ≤ 9223372036854775807) (hsz : len0 rows ≤ 1048576)
    (hall : ¬ (isName nm = true ∧ 1 ≤ rate ∧ rate ≤ 192000 ∧ 1 ≤ rows.length ∧ rows.length ≤ 2 ∧ 1 ≤ len0 rows ∧ len0 rows ≤ 1048576 ∧ loopOk lp f t (len0 rows) = true)) :
    Calls Try.prog 16 #[.agg #[.string nm, .int .i64 rate, .bool lp, .int .i64 f, .int .i64 t, .slice a rows.length cap]] w
      fun e w' => e = .returned (.int .i64 (checkZ nm rate lp f t rows)) ∧ Below w.heap.size w w' := by
  have hz := checkZ_early hall
  generalize checkZ nm rate lp f t rows = z at *
  obtain ⟨N, hN⟩ : ∃ N, len0 rows = N := ⟨_, rfl⟩
  obtain ⟨R, hR⟩ : ∃ R, rows.length = R := ⟨_, rfl⟩
  rw [hN] at hsz
  rw [hN, hR] at hz
  have h0 : 1 ≤ R → ∃ (b off : Nat) (a0 : Option Addr) (c0 : Nat), a = some ⟨b, off, none⟩ ∧ w.cell? ⟨b, off, none⟩ = some (.slice a0 N c0) := by
    intro h1
    obtain ⟨x0, hx0⟩ : ∃ xs, rows[0]? = some xs := ⟨_, List.getElem?_eq_getElem (by omega)⟩
    obtain ⟨b, off, a0, c0, hab, _, hc0, _, _, _⟩ := first_row hr hm hx0
    have hx0N : x0.length = N := by
      rw [← hN]
      cases rows with
      | nil => simp at hx0
      | cons r rs => simp at hx0; subst hx0; rfl
    rw [Nat.add_zero, hx0N] at hc0
    exact ⟨b, off, a0, c0, hab, hc0⟩
  rw [hR]
  clear hN hR hcap hall hr hm
  rcases hz with ⟨h1, rfl⟩ | ⟨h1, h2, rfl⟩ | ⟨h1, h2, h3, h4, rfl⟩ | ⟨h1, h2, h3, h4, h5, h6, h7, h8, rfl⟩
  case inr.inr.inr =>
    have H1 := Lib.hid h1
    have H8 := Lib.hid h8
    obtain ⟨b, off, a0, c0, rfl, hc0⟩ := h0 (by omega)
    have hne := World.new_ne w _ hc0
    have hA := fun O => cell_alloc hc0 O
    have h00 : (0 : Int) < (R : Int) := by omega
    clear h1 h8 h0
    go_enter Try.func16, Try.ntmps16
    go_wp2_with (first | (go_at_call 36; refine (lawname_any _ _ hs).mono ?_; rintro e w' ⟨rfl, rfl⟩; rw [H1.out]) | (go_at_call 37; refine (lawloop_any _ _ _ _ _).mono ?_; rintro e w' ⟨rfl, rfl⟩; rw [H8.out]))
    go_ret
    exact ⟨rfl, bnew _ _⟩
  case inr.inr.inl =>
    have H1 := Lib.hid h1
    clear h1
    by_cases hb : 1 ≤ R ∧ R ≤ 2
    · obtain ⟨b, off, a0, c0, rfl, hc0⟩ := h0 hb.1
      have hne := World.new_ne w _ hc0
      have hN1 : N < 1 := by omega
      obtain ⟨hb1, hb2⟩ := hb
      have hA := fun O => cell_alloc hc0 O
      have h00 : (0 : Int) < (R : Int) := by omega
      clear h0 h4
      go_enter Try.func16, Try.ntmps16
      go_wp2_with (first | (go_at_call 36; refine (lawname_any _ _ hs).mono ?_; rintro e w' ⟨rfl, rfl⟩; rw [H1.out]))
      go_ret
      exact ⟨rfl, bnew _ _⟩
    · have hb' : R < 1 ∨ 2 < R := by omega
      clear h0 h4 hb
      go_enter Try.func16, Try.ntmps16
      go_wp2_with (first | (go_at_call 36; refine (lawname_any _ _ hs).mono ?_; rintro e w' ⟨rfl, rfl⟩; rw [H1.out]))
      all_goals first | (go_ret; exact ⟨rfl, bnew _ _⟩) | (exfalso; omega)
  all_goals
    have H1 := Lib.hid h1
    clear h1 h0
    go_enter Try.func16, Try.ntmps16
    go_wp2_with (first | (go_at_call 36; refine (lawname_any _ _ hs).mono ?_; rintro e w' ⟨rfl, rfl⟩; rw [H1.out]))
    all_goals (go_ret; exact ⟨rfl, bnew _ _⟩)


set_option maxHeartbeats 2000000 in
theorem lawcheck_any (nm : ByteArray) (rate : Int) (lp : Bool) (f t : Int) (a : Option Addr) (cap : Nat) (vs : List Value) (rows : List (List Int)) (w : World) (hs : nm.size ≤ 9223372036854775807) (hr : Row w w.heap.size a vs) (hm : RowsAt w w.heap.size vs rows) (hcap : rows.length ≤ 9223372036854775807) (hsz : len0 rows ≤ 1048576) :
    Calls Try.prog 16 #[.agg #[.string nm, .int .i64 rate, .bool lp, .int .i64 f, .int .i64 t, .slice a rows.length cap]] w
      fun e w' => e = .returned (.int .i64 (checkZ nm rate lp f t rows)) ∧ Below w.heap.size w w' := by
  by_cases hall : isName nm = true ∧ 1 ≤ rate ∧ rate ≤ 192000 ∧ 1 ≤ rows.length ∧ rows.length ≤ 2 ∧ 1 ≤ len0 rows ∧ len0 rows ≤ 1048576 ∧ loopOk lp f t (len0 rows) = true
  · have HZ := Lib.hid (checkZ_late hall)
    obtain ⟨h1, h2, h3, h4, h5, h6, h7, h8⟩ := hall
    have H1 := Lib.hid h1
    have H8 := Lib.hid h8
    clear h1 h8
    generalize checkZ nm rate lp f t rows = z at *
    obtain ⟨N, hN⟩ : ∃ N, len0 rows = N := ⟨_, rfl⟩
    have HN := Lib.hid hN
    obtain ⟨R, hR⟩ : ∃ R, rows.length = R := ⟨_, rfl⟩
    rw [HN.out] at h6 h7 H8
    rw [hR] at h4 h5 ⊢
    have HR := Lib.hid hR
    obtain ⟨x0, hx0⟩ : ∃ xs, rows[0]? = some xs := ⟨_, List.getElem?_eq_getElem (by omega)⟩
    have hx0N : x0.length = N := by
      rw [← hN]
      cases rows with
      | nil => simp at hx0
      | cons r rs => simp at hx0; subst hx0; rfl
    clear hN hR hcap hsz
    obtain ⟨b, off, a0, c0, rfl, _, hc0, hl1, hl2, _⟩ := first_row hr hm hx0
    rw [Nat.add_zero, hx0N] at hc0
    have hne := World.new_ne w _ hc0
    have Hr := Lib.hid hr
    have Hm := Lib.hid hm
    clear hr hm hl1
    have Hx0 := Lib.hid hx0
    have Hx0N := Lib.hid hx0N
    clear hx0 hx0N
    -- with two rows, is the second as long?
    have hR12 : (R = 1 ∧ rows.all (lenIs N) = true) ∨ (R = 2 ∧ ∃ (x1 : List Int) (a1 : Option Addr) (c1 : Nat), rows[1]? = some x1 ∧ w.cell? ⟨b, off + 1, none⟩ = some (.slice a1 x1.length c1) ∧ x1.length ≤ c1 ∧ c1 ≤ 9223372036854775807 ∧
        ((x1.length = N ∧ rows.all (lenIs N) = true) ∨ (x1.length ≠ N ∧ rows.all (lenIs N) = false))) := by
      have hR := HR.out
      have h0N := Hx0N.out
      have h0 := Hx0.out
      rcases (show R = 1 ∨ R = 2 by omega) with h1 | h1
      · left
        refine ⟨h1, ?_⟩
        match rows, hR.trans h1, h0 with
        | [r], _, h0 => simp at h0; subst h0; simp [lenIs, h0N]
      · right
        refine ⟨h1, ?_⟩
        obtain ⟨x1, hx1⟩ : ∃ xs, rows[1]? = some xs := ⟨_, List.getElem?_eq_getElem (by omega)⟩
        obtain ⟨b', off', a1, c1, hab, _, hc1, hl11, hl12, _⟩ := first_row Hr.out Hm.out hx1
        injection hab with hab
        injection hab with e1 e2
        subst e1 e2
        refine ⟨x1, a1, c1, hx1, hc1, hl11, hl12, ?_⟩
        match rows, hR.trans h1, h0, hx1 with
        | [r, r'], _, h0, hx1 =>
          simp at h0 hx1
          subst h0 hx1
          by_cases hn : r'.length = N
          · exact .inl ⟨hn, by simp [lenIs, h0N, hn]⟩
          · exact .inr ⟨hn, by simp [lenIs, hn]⟩
    clear h4 h5
    rcases hR12 with ⟨rfl, hall⟩ | ⟨rfl, x1, a1, c1, hx1, hc1, hl11, hl12, ⟨hn, hall⟩ | ⟨hn, hall⟩⟩
    case inr.inr =>
      have Hall := Lib.hid hall
      have hb1 : ((x1.length : Int) != (N : Int)) = true := by rw [bne_iff_ne]; omega
      clear hall hx1 hn
      go_enter Try.func16, Try.ntmps16
      go_wp2_with (first | (go_at_call 36; refine (lawname_any _ _ hs).mono ?_; rintro e w' ⟨rfl, rfl⟩; rw [H1.out]) | (go_at_call 37; refine (lawloop_any _ _ _ _ _).mono ?_; rintro e w' ⟨rfl, rfl⟩; rw [H8.out]))
      go_ret
      exact ⟨ret_int (by rw [HZ.out, HN.out, if_pos Hall.out]), bnew _ _⟩
    all_goals
      have Hall := Lib.hid hall
      clear hall
      try have hb1 : ((x1.length : Int) != (N : Int)) = false := by simp [hn]
      try have Hn := Lib.hid hn
      try clear hn hx1
      go_enter Try.func16, Try.ntmps16
      go_wp2_with (first | (go_at_call 36; refine (lawname_any _ _ hs).mono ?_; rintro e w' ⟨rfl, rfl⟩; rw [H1.out]) | (go_at_call 37; refine (lawloop_any _ _ _ _ _).mono ?_; rintro e w' ⟨rfl, rfl⟩; rw [H8.out]))
      go_loop [4] (fun i => ∃ k : Nat, k ≤ rows.length ∧ i = .int .i64 k ∧ (rows.take k).all allIn = true) (fun i => rows.length - (intOf i).toNat)
      case atStart => exact ⟨0, Nat.zero_le _, rfl, by simp⟩
      case round =>
        obtain ⟨k, hk, rfl, hpre⟩ := hrel
        have Hpre := Lib.hid hpre
        clear hpre
        rw [HR.out] at hk
        by_cases hlt : k < rows.length
        · obtain ⟨xs, hxs⟩ : ∃ xs, rows[k]? = some xs := ⟨_, List.getElem?_eq_getElem hlt⟩
          obtain ⟨b', off', a', c', hab, _, hc, hl1, hl2, hrow⟩ := first_row Hr.out Hm.out hxs
          injection hab with hab
          injection hab with e1 e2
          subst e1 e2
          have hxN : xs.length = N := by have := List.all_eq_true.1 Hall.out xs (List.mem_of_getElem? hxs); simpa [lenIs] using this
          rw [hxN] at hc
          rw [HR.out] at hlt
          have Hxs := Lib.hid hxs
          have Hrow := Lib.hid hrow
          have HxN := Lib.hid hxN
          clear hxs hrow hl1 hxN
          go_wp2
          go_loop [5] (fun j => ∃ m : Nat, m ≤ N ∧ j = .int .i64 m ∧ (xs.take m).all inS = true) (fun j => N - (intOf j).toNat)
          case atStart => exact ⟨0, Nat.zero_le _, rfl, by simp⟩
          case round =>
            obtain ⟨m, hm, rfl, hpin⟩ := hrel
            have Hpin := Lib.hid hpin
            clear hpin
            by_cases hmlt : m < N
            · obtain ⟨x, hx⟩ : ∃ x, xs[m]? = some x := ⟨_, List.getElem?_eq_getElem (by rw [HxN.out]; exact hmlt)⟩
              obtain ⟨b', off', rfl, _, hc'⟩ := Hrow.out m (.int .i64 x) (by simp [hx])
              have hne' := World.new_ne w _ hc'
              have Hx := Lib.hid hx
              clear hx
              by_cases hin : -32768 ≤ x ∧ x ≤ 32767
              · have H1' := Lib.hid (show inS x = true by unfold inS; simp [hin])
                obtain ⟨hin1, hin2⟩ := hin
                go_wp2
                go_round
                case rel => exact ⟨m + 1, by omega, by go_num, by rw [all_take_succ _ Hx.out, Hpin.out, H1'.out]; rfl⟩
                case measure => simp [intOf]; omega
              · have H1' := Lib.hid (show inS x = false by unfold inS; simp; omega)
                have hin' : x < -32768 ∨ 32767 < x := by omega
                clear hin
                go_wp2
                all_goals
                  go_ret
                  refine ⟨ret_int ?_, bnew _ _⟩
                  rw [HZ.out, HN.out, if_neg (by rw [Hall.out]; simp), if_pos (all_false_of allIn Hxs.out (all_false_of inS Hx.out H1'.out))]
            · have Hxall := Lib.hid (all_take_all inS (by rw [HxN.out]; omega) Hpin.out)
              go_wp2
              go_round
              case rel => exact ⟨k + 1, by rw [HR.out]; omega, by go_num, by rw [all_take_succ _ Hxs.out, Hpre.out]; exact Hxall.out⟩
              case measure => rw [HR.out]; simp [intOf]; omega
        · have Hall2 := Lib.hid (all_take_all allIn (by omega) Hpre.out)
          rw [HR.out] at hlt
          go_wp2
          go_ret
          refine ⟨ret_int ?_, bnew _ _⟩
          rw [HZ.out, HN.out, if_neg (by rw [Hall.out]; simp), if_neg (by rw [Hall2.out]; simp)]
  · exact lawcheck_early nm rate lp f t a cap vs rows w hs hr hm hcap hsz hall
end Go.Proofs.Ytbgkoopfdfnmcaa
