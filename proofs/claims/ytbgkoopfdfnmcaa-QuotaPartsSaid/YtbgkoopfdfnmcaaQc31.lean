/- WaveB. Conditions: as each theorem states. -/
import Derived.Test.YtbgkoopfdfnmcaaQc03
import Derived.Test.YtbgkoopfdfnmcaaQc01
import Derived.Test.YtbgkoopfdfnmcaaQc02

namespace Go.Proofs.Ytbgkoopfdfnmcaa
open Go.RowKit

def len0 : List (List Int) → Nat
  | [] => 0
  | r :: _ => r.length
def inS (x : Int) : Bool := decide (-32768 ≤ x) && decide (x ≤ 32767)
def lenIs (n : Nat) (r : List Int) : Bool := decide (r.length = n)
def allIn (r : List Int) : Bool := r.all inS
/-- why a sample may not be -/
def checkZ (nm : ByteArray) (rate : Int) (lp : Bool) (f t : Int) (rows : List (List Int)) : Int :=
  if isName nm = false then 10 else if rate < 1 ∨ 192000 < rate then 14
  else if rows.length < 1 ∨ 2 < rows.length ∨ len0 rows < 1 ∨ 1048576 < len0 rows then 12
  else if loopOk lp f t (len0 rows) = false then 13
  else if rows.all (lenIs (len0 rows)) = false then 12
  else if rows.all allIn = false then 5 else 0

/-- The first row. -/
theorem first_row {w : World} {B : Nat} {a : Option Addr} {vs : List Value} {rows : List (List Int)} (hr : Row w B a vs) (hm : RowsAt w B vs rows) {k : Nat} {xs : List Int} (hk : rows[k]? = some xs) :
    ∃ b off a' c', a = some ⟨b, off, none⟩ ∧ b < B ∧ w.cell? ⟨b, off + k, none⟩ = some (.slice a' xs.length c') ∧ xs.length ≤ c' ∧ c' ≤ 9223372036854775807 ∧ Row w B a' (xs.map (.int .i64)) := by
  have hl := (List.getElem?_eq_some_iff.1 hk).1
  obtain ⟨v, hv⟩ : ∃ v, vs[k]? = some v := ⟨_, List.getElem?_eq_getElem (by rw [hm.1]; exact hl)⟩
  obtain ⟨a', c', rfl, h1, h2, h3⟩ := hm.2 k v xs hv hk
  obtain ⟨b, off, ha, hb, hc⟩ := hr k _ hv
  exact ⟨b, off, a', c', ha, hb, hc, h1, h2, h3⟩

set_option maxHeartbeats 400000 in
theorem Length_any (nm : ByteArray) (rate : Int) (lp : Bool) (f t : Int) (a : Option Addr) (cap : Nat) (vs : List Value) (rows : List (List Int)) (w : World) (R : Nat) (hR : rows.length = R) (hr : Row w w.heap.size a vs) (hm : RowsAt w w.heap.size vs rows) :
    Calls Try.prog 19 #[.agg #[.string nm, .int .i64 rate, .bool lp, .int .i64 f, .int .i64 t, .slice a R cap]] w
      fun e w' => e = .returned (.int .i64 (len0 rows)) ∧ Below w.heap.size w w' := by
  subst hR
  cases rows with
  | nil =>
    go_enter Try.func19, Try.ntmps19
    go_wp2
    go_ret
    exact ⟨rfl, bnew _ _⟩
  | cons r rs =>
    obtain ⟨b, off, a', c', rfl, hb, hc, _, _, _⟩ := first_row hr hm (k := 0) (xs := r) rfl
    rw [Nat.add_zero] at hc
    have hne := World.new_ne w _ hc
    have h1 : ((rs.length + 1 : Nat) : Int) ≠ 0 := by omega
    have h2 : (((r :: rs).length : Int) == 0) = false := beq_eq_false_iff_ne.2 (by rw [List.length_cons]; omega)
    have h3 : (0 : Int) < ((r :: rs).length : Int) := by rw [List.length_cons]; omega
    clear hr hm
    generalize (r :: rs).length = R at *
    go_enter Try.func19, Try.ntmps19
    go_wp2
    go_ret
    exact ⟨rfl, bnew _ _⟩

theorem checkZ_early {nm : ByteArray} {rate : Int} {lp : Bool} {f t : Int} {rows : List (List Int)}
    (h : ¬ (isName nm = true ∧ 1 ≤ rate ∧ rate ≤ 192000 ∧ 1 ≤ rows.length ∧ rows.length ≤ 2 ∧ 1 ≤ len0 rows ∧ len0 rows ≤ 1048576 ∧ loopOk lp f t (len0 rows) = true)) :
    (isName nm = false ∧ checkZ nm rate lp f t rows = 10) ∨ (isName nm = true ∧ (rate < 1 ∨ 192000 < rate) ∧ checkZ nm rate lp f t rows = 14) ∨
    (isName nm = true ∧ 1 ≤ rate ∧ rate ≤ 192000 ∧ (rows.length < 1 ∨ 2 < rows.length ∨ len0 rows < 1 ∨ 1048576 < len0 rows) ∧ checkZ nm rate lp f t rows = 12) ∨
    (isName nm = true ∧ 1 ≤ rate ∧ rate ≤ 192000 ∧ 1 ≤ rows.length ∧ rows.length ≤ 2 ∧ 1 ≤ len0 rows ∧ len0 rows ≤ 1048576 ∧ loopOk lp f t (len0 rows) = false ∧ checkZ nm rate lp f t rows = 13) := by
  unfold checkZ
  cases h1 : isName nm
  · simp
  · by_cases h2 : rate < 1 ∨ 192000 < rate
    · simp [h2]
    · by_cases h3 : rows.length < 1 ∨ 2 < rows.length ∨ len0 rows < 1 ∨ 1048576 < len0 rows
      · rw [if_neg (by simp), if_neg h2, if_pos h3]
        exact .inr (.inr (.inl ⟨rfl, by omega, by omega, h3, rfl⟩))
      · cases h4 : loopOk lp f t (len0 rows)
        · rw [if_neg (by simp), if_neg h2, if_neg h3, if_pos rfl]
          exact .inr (.inr (.inr ⟨rfl, by omega, by omega, by omega, by omega, by omega, by omega, rfl, rfl⟩))
        · exact absurd ⟨h1, by omega, by omega, by omega, by omega, by omega, by omega, h4⟩ h

theorem checkZ_late {nm : ByteArray} {rate : Int} {lp : Bool} {f t : Int} {rows : List (List Int)}
    (h : isName nm = true ∧ 1 ≤ rate ∧ rate ≤ 192000 ∧ 1 ≤ rows.length ∧ rows.length ≤ 2 ∧ 1 ≤ len0 rows ∧ len0 rows ≤ 1048576 ∧ loopOk lp f t (len0 rows) = true) :
    checkZ nm rate lp f t rows = if rows.all (lenIs (len0 rows)) = false then 12 else if rows.all allIn = false then 5 else 0 := by
  obtain ⟨h1, h2, h3, h4, h5, h6, h7, h8⟩ := h
  unfold checkZ
  rw [h1, h8, if_neg (by simp), if_neg (by omega), if_neg (by omega), if_neg (by simp)]

set_option maxHeartbeats 2000000 in
theorem Check_any (nm : ByteArray) (rate : Int) (lp : Bool) (f t : Int) (a : Option Addr) (cap : Nat) (vs : List Value) (rows : List (List Int)) (w : World) (hr : Row w w.heap.size a vs) (hm : RowsAt w w.heap.size vs rows) (hcap : rows.length ≤ 9223372036854775807)  :
    Calls Try.prog 42 #[.agg #[.string nm, .int .i64 rate, .bool lp, .int .i64 f, .int .i64 t, .slice a rows.length cap]] w
      fun e w' => e = .returned (.int .i64 (checkZ nm rate lp f t rows)) ∧ Below w.heap.size w w' := by
  by_cases hall : isName nm = true ∧ 1 ≤ rate ∧ rate ≤ 192000 ∧ 1 ≤ rows.length ∧ rows.length ≤ 2 ∧ 1 ≤ len0 rows ∧ len0 rows ≤ 1048576 ∧ loopOk lp f t (len0 rows) = true
  · have HZ := Lib.hid (checkZ_late hall)
    obtain ⟨h1, h2, h3, h4, h5, h6, h7, h8⟩ := hall
    have H1 := Lib.hid h1
    have H8 := Lib.hid h8
    clear h1 h8
    generalize checkZ nm rate lp f t rows = z at *
    obtain ⟨N, hN⟩ : ∃ N, len0 rows = N := ⟨_, rfl⟩
    have HN := Lib.hid hN; clear hN
    obtain ⟨R, hR⟩ : ∃ R, rows.length = R := ⟨_, rfl⟩
    rw [HN.out] at h6 h7 H8
    rw [hR] at h4 h5 ⊢
    have HR := Lib.hid hR; have hq := hcap; clear hR hcap hq
    go_enter Try.func42, Try.ntmps42
    go_wp2_with (first | (go_at_call 19; refine (Length_any _ _ _ _ _ _ _ vs rows _ R HR.out (hr.later (bnew _ _)) (hm.later (bnew _ _))).mono ?_; rintro e w1 ⟨rfl, hb⟩; rw [HN.out]; have c0 := hb.cell (p := ⟨w.heap.size, 0, none⟩) (by simp); have c1 := hb.cell (p := ⟨w.heap.size, 1, none⟩) (by simp); have c2 := hb.cell (p := ⟨w.heap.size, 2, none⟩) (by simp); have c3 := hb.cell (p := ⟨w.heap.size, 3, none⟩) (by simp); have c4 := hb.cell (p := ⟨w.heap.size, 4, none⟩) (by simp); have c5 := hb.cell (p := ⟨w.heap.size, 5, none⟩) (by simp)) | (go_at_call 47; refine (IsName_any _ _).mono ?_; rintro e w' ⟨rfl, rfl⟩; rw [H1.out]) | (go_at_call 56; refine (waveloop_any _ _ _ _ _).mono ?_; rintro e w' ⟨rfl, rfl⟩; rw [H8.out]))
    have hr1 := (hr.later (bnew _ (.cells #[.string nm, .int .i64 rate, .bool lp, .int .i64 f, .int .i64 t, .slice a R cap] 51))).later hb
    have hm1 := (hm.later (bnew _ (.cells #[.string nm, .int .i64 rate, .bool lp, .int .i64 f, .int .i64 t, .slice a R cap] 51))).later hb
    have hB := Lib.hid (bnext (bnew w (.cells #[.string nm, .int .i64 rate, .bool lp, .int .i64 f, .int .i64 t, .slice a R cap] 51)) hb)
    clear hr hm hb
    have Hr := Lib.hid hr1
    have Hm := Lib.hid hm1
    clear hr1 hm1
    go_loop [58] (fun i => ∃ k : Nat, k ≤ R ∧ i = .int .i64 k ∧ (rows.take k).all (lenIs N) = true) (fun i => R - (intOf i).toNat)
    case atStart => exact ⟨0, Nat.zero_le _, rfl, by simp⟩
    case round =>
      obtain ⟨k, hk, rfl, hpre⟩ := hrel
      have Hpre := Lib.hid hpre
      clear hpre
      by_cases hlt : k < R
      · obtain ⟨xs, hxs⟩ : ∃ xs, rows[k]? = some xs := ⟨_, List.getElem?_eq_getElem (by rw [HR.out]; exact hlt)⟩
        obtain ⟨b, off, a', c', rfl, _, hc, hl1, hl2, _⟩ := first_row Hr.out Hm.out hxs
        have Hxs := Lib.hid hxs
        clear hxs
        by_cases hn : xs.length = N
        · have hb1 : ((xs.length : Int) != (N : Int)) = false := by simp [hn]
          have Hn := Lib.hid hn
          clear hn
          go_wp2
          go_round
          case rel => exact ⟨k + 1, by omega, by go_num, by rw [all_take_succ _ Hxs.out, Hpre.out]; simp [lenIs, Hn.out]⟩
          case measure => simp [intOf]; omega
        · have hb1 : ((xs.length : Int) != (N : Int)) = true := by rw [bne_iff_ne]; omega
          have Hn := Lib.hid hn
          clear hn
          go_wp2
          go_ret
          refine ⟨ret_int ?_, hB.out⟩
          rw [HZ.out, HN.out, if_pos (all_false_of (lenIs N) Hxs.out (by simp [lenIs, Hn.out]))]
      · have Hall := Lib.hid (all_take_all (lenIs N) (by rw [HR.out]; omega) Hpre.out)
        go_wp2
        go_loop [70] (fun i => ∃ k : Nat, k ≤ R ∧ i = .int .i64 k ∧ (rows.take k).all allIn = true) (fun i => R - (intOf i).toNat)
        case atStart => exact ⟨0, Nat.zero_le _, rfl, by simp⟩
        case round =>
          clear hlt hk Hpre
          obtain ⟨k, hk, rfl, hpre⟩ := hrel
          have Hpre := Lib.hid hpre
          clear hpre
          by_cases hlt : k < R
          · obtain ⟨xs, hxs⟩ : ∃ xs, rows[k]? = some xs := ⟨_, List.getElem?_eq_getElem (by rw [HR.out]; exact hlt)⟩
            obtain ⟨b, off, a', c', rfl, _, hc, hl1, hl2, hrow⟩ := first_row Hr.out Hm.out hxs
            have Hxs := Lib.hid hxs
            have Hrow := Lib.hid hrow
            clear hxs hrow
            go_wp2
            go_loop [76] (fun j => ∃ m : Nat, m ≤ xs.length ∧ j = .int .i64 m ∧ (xs.take m).all inS = true) (fun j => xs.length - (intOf j).toNat)
            case atStart => exact ⟨0, Nat.zero_le _, rfl, by simp⟩
            case round =>
              obtain ⟨m, hm, rfl, hpin⟩ := hrel
              have Hpin := Lib.hid hpin
              clear hpin
              by_cases hmlt : m < xs.length
              · obtain ⟨x, hx⟩ : ∃ x, xs[m]? = some x := ⟨_, List.getElem?_eq_getElem hmlt⟩
                obtain ⟨b', off', rfl, _, hc'⟩ := Hrow.out m (.int .i64 x) (by simp [hx])
                have Hx := Lib.hid hx
                clear hx
                by_cases hin : -32768 ≤ x ∧ x ≤ 32767
                · have h1 : inS x = true := by unfold inS; simp [hin]
                  have H1 := Lib.hid h1
                  clear h1
                  obtain ⟨hin1, hin2⟩ := hin
                  go_wp2
                  go_round
                  case rel => exact ⟨m + 1, by omega, by go_num, by rw [all_take_succ _ Hx.out, Hpin.out, H1.out]; rfl⟩
                  case measure => simp [intOf]; omega
                · have h1 : inS x = false := by unfold inS; simp; omega
                  have H1 := Lib.hid h1
                  clear h1
                  have hin' : x < -32768 ∨ 32768 ≤ x := by omega
                  clear hin
                  go_wp2
                  all_goals
                    go_ret
                    refine ⟨ret_int ?_, hB.out⟩
                    rw [HZ.out, HN.out, if_neg (by rw [Hall.out]; simp), if_pos (all_false_of allIn Hxs.out (all_false_of inS Hx.out H1.out))]
              · have Hxall := Lib.hid (all_take_all inS (by omega) Hpin.out)
                go_wp2
                go_round
                case rel => exact ⟨k + 1, by omega, by go_num, by rw [all_take_succ _ Hxs.out, Hpre.out]; exact Hxall.out⟩
                case measure => simp [intOf]; omega
          · have Hall2 := Lib.hid (all_take_all allIn (by rw [HR.out]; omega) Hpre.out)
            go_wp2
            go_ret
            refine ⟨ret_int ?_, hB.out⟩
            rw [HZ.out, HN.out, if_neg (by rw [Hall.out]; simp), if_neg (by rw [Hall2.out]; simp)]
  · have hz := checkZ_early hall
    generalize checkZ nm rate lp f t rows = z at *
    obtain ⟨N, hN⟩ : ∃ N, len0 rows = N := ⟨_, rfl⟩
    obtain ⟨R, hR⟩ : ∃ R, rows.length = R := ⟨_, rfl⟩
    rw [hN, hR] at hz
    have HN := Lib.hid hN; clear hN
    rw [hR]
    have HR := Lib.hid hR; have hq := hcap; clear hR hcap hq hall
    have Hr := Lib.hid hr
    have Hm := Lib.hid hm
    clear hr hm
    rcases hz with ⟨h1, rfl⟩ | ⟨h1, h2, rfl⟩ | ⟨h1, h2, h3, h4, rfl⟩ | ⟨h1, h2, h3, h4, h5, h6, h7, h8, rfl⟩
    all_goals
      have H1 := Lib.hid h1
      clear h1
      try have H8 := Lib.hid h8
      try clear h8
      go_enter Try.func42, Try.ntmps42
      go_wp2_with (first | (go_at_call 19; refine (Length_any _ _ _ _ _ _ _ vs rows _ R HR.out (Hr.out.later (bnew _ _)) (Hm.out.later (bnew _ _))).mono ?_; rintro e w1 ⟨rfl, hb⟩; rw [HN.out]; have c0 := hb.cell (p := ⟨w.heap.size, 0, none⟩) (by simp); have c1 := hb.cell (p := ⟨w.heap.size, 1, none⟩) (by simp); have c2 := hb.cell (p := ⟨w.heap.size, 2, none⟩) (by simp); have c3 := hb.cell (p := ⟨w.heap.size, 3, none⟩) (by simp); have c4 := hb.cell (p := ⟨w.heap.size, 4, none⟩) (by simp); have c5 := hb.cell (p := ⟨w.heap.size, 5, none⟩) (by simp)) | (go_at_call 47; refine (IsName_any _ _).mono ?_; rintro e w' ⟨rfl, rfl⟩; rw [H1.out]) | (go_at_call 56; refine (waveloop_any _ _ _ _ _).mono ?_; rintro e w' ⟨rfl, rfl⟩; rw [H8.out]))
      all_goals (go_ret; exact ⟨rfl, bnext (bnew _ _) hb⟩)
end Go.Proofs.Ytbgkoopfdfnmcaa
