/- CodeA, CodeB, CodeF. Conditions: as each theorem states. -/
import Derived.Deep.OwnRows
import Derived.Test.YthmgjielcmjenaaGreatZc05
import Derived.Test.YthmgjielcmjenaaGreatZc16
import Derived.Test.YthmgjielcmjenaaGreatZc01

namespace Go.Proofs.YthmgjielcmjenaaGreat
open Go.RowKit

/-- how many blocks so many samples have -/
def countN (n : Nat) : Nat := (n + 15) / 16
theorem Count_any (n : Nat) (w : World) (hn : n ≤ 1000000000) : Calls Tryz.prog 36 #[.int .i64 n] w fun e w' => e = .returned (.int .i64 (countN n)) ∧ w = w' := by
  by_cases h : (n : Int) < 1
  · have hn0 : n = 0 := by omega
    subst hn0
    go_enter Tryz.func36, Tryz.ntmps36
    go_wp2
    go_ret
    exact ⟨rfl, rfl⟩
  · have HC := Lib.hid (show ((n : Int) - 1) / 16 + 1 = (countN n : Int) by unfold countN; omega)
    have h0 : (0 : Int) ≤ (n : Int) - 1 := by omega
    go_enter Tryz.func36, Tryz.ntmps36
    go_wp2
    go_ret
    exact ⟨ret_int HC.out, rfl⟩

def coderA (size : Int) : Array Value := lapA.push (.int .i64 size)
theorem coderA_size (size : Int) : (coderA size).size = 33 := by simp [coderA, lapA_size]
theorem coderA_last (size : Int) : (coderA size)[32]? = some (.int .i64 size) := by
  unfold coderA
  rw [Array.getElem?_push, if_pos lapA_size.symm]
def CoderAt (W : World) (g : Nat) (size : Int) : Prop := W.heap[g]? = some (.cells (coderA size) 62 (0, 0))
theorem built_coder (size : Int) : Tryz.prog.built 62 [(0, .agg lapA), (1, .int .i64 size)] = some (coderA size) := by kernel_rfl
theorem codeNew_no (size : Int) (w : World) (h : size < 24 ∨ 96 < size) : Calls Tryz.prog 5 #[.int .i64 size] w fun e w' => e = .returned (.tuple #[.pointer none, .int .i64 12]) ∧ w = w' := by
  have hsd : decide (size < 24) = true ∨ (decide (size < 24) = false ∧ decide (96 < size) = true) := by
    by_cases h : size < 24
    · exact .inl (decide_eq_true h)
    · exact .inr ⟨decide_eq_false h, decide_eq_true (by omega)⟩
  clear h
  rcases hsd with e1 | ⟨e1, e2⟩
  all_goals
    go_enter Tryz.func5, Tryz.ntmps5
    go_wp2
    refine bodyPost_ret (results_tmp2 Tryz.results5 _ _ _) rfl ?_
    exact ⟨rfl, rfl⟩
set_option maxRecDepth 100000 in
theorem codeNew_any (size : Int) (w : World) (h1 : 24 ≤ size) (h2 : size ≤ 96) :
    Calls Tryz.prog 5 #[.int .i64 size] w fun e w' => ∃ g, e = .returned (.tuple #[.pointer (some ⟨g, 0, none⟩), .int .i64 0]) ∧ w.heap.size ≤ g ∧ CoderAt w' g size ∧ Below w.heap.size w w' := by
  have e1 : decide (size < 24) = false := decide_eq_false (by omega)
  have e2 : decide (96 < size) = false := decide_eq_false (by omega)
  have HL := Lib.hid lapNew_any
  have HT := Lib.hid (built_coder size)
  have HC := Lib.hid (fun (W : World) (g : Nat) (h : W.heap[g]? = some (.cells (coderA size) 62 (0, 0))) => (show CoderAt W g size from h))
  generalize coderA size = cv at *
  generalize lapA = lv at *
  clear h1 h2
  go_enter Tryz.func5, Tryz.ntmps5
  go_wp2_with (go_at_call 16; fail)
  refine (HL.out _).mono ?_
  rintro e w1 ⟨rfl, hb1⟩
  go_wp2_with (refine wpList_built rfl 62 _ rfl cv (by simpa [Act.eval, Act.put] using HT.out) ?_)
  refine bodyPost_ret (results_tmp2 Tryz.results5 _ _ _) rfl ?_
  exact ⟨w1.heap.size, rfl, hb1.size, HC.out _ _ (heap_alloc_new w1 _), bnext hb1 (bnew w1 _)⟩
theorem Size_any (g : Nat) (size : Int) (w : World) (h : CoderAt w g size) : Calls Tryz.prog 9 #[.pointer (some ⟨g, 0, none⟩)] w fun e w' => e = .returned (.int .i64 size) ∧ w = w' := by
  have c : w.cell? ⟨g, 32, none⟩ = some (.int .i64 size) := (cell_of_row w g 32 _ _ _ h).trans (coderA_last size)
  clear h
  go_enter Tryz.func9, Tryz.ntmps9
  go_wp2
  go_ret
  exact ⟨rfl, rfl⟩
theorem Size_nil (w : World) : Calls Tryz.prog 9 #[.pointer none] w fun e w' => e = .returned (.int .i64 0) ∧ w = w' := by
  go_enter Tryz.func9, Tryz.ntmps9
  go_wp2
  go_ret
  exact ⟨rfl, rfl⟩
theorem CExact_any (g : Nat) (size : Int) (w : World) (h : CoderAt w g size) : Calls Tryz.prog 37 #[.pointer (some ⟨g, 0, none⟩)] w fun e w' => e = .returned (.bool (decide (55 ≤ size))) ∧ w = w' := by
  have H := Lib.hid (Size_any g size w h)
  clear h
  go_enter Tryz.func37, Tryz.ntmps37
  go_wp2_with (go_at_call 9; refine H.out.mono ?_; rintro e w' ⟨rfl, rfl⟩)
  go_ret
  exact ⟨rfl, rfl⟩
def rateA (size n : Int) : Int := if n < 0 ∨ 1048576 < n then 0 else (n + 15) / 16 * size
def rateB (n : Int) : Int := if n < 0 ∨ 1048576 < n then 0 else 2 * n
set_option maxRecDepth 100000 in
theorem Rate_any (g : Nat) (size n : Int) (w : World) (h : CoderAt w g size) (h1 : 24 ≤ size) (h2 : size ≤ 96) :
    Calls Tryz.prog 14 #[.pointer (some ⟨g, 0, none⟩), .int .i64 n] w fun e w' => e = .returned (.tuple #[.int .i64 (rateA size n), .int .i64 (rateB n)]) ∧ w = w' := by
  have c : w.cell? ⟨g, 32, none⟩ = some (.int .i64 size) := (cell_of_row w g 32 _ _ _ h).trans (coderA_last size)
  clear h
  unfold rateA rateB
  by_cases hn : n < 0 ∨ 1048576 < n
  · rw [if_pos hn, if_pos hn]
    have hsd : decide (n < 0) = true ∨ (decide (n < 0) = false ∧ decide (1048576 < n) = true) := by
      by_cases h : n < 0
      · exact .inl (decide_eq_true h)
      · exact .inr ⟨decide_eq_false h, decide_eq_true (by omega)⟩
    clear hn h1 h2
    rcases hsd with e1 | ⟨e1, e2⟩
    all_goals
      go_enter Tryz.func14, Tryz.ntmps14
      go_wp2
      refine bodyPost_ret (results_tmp2 Tryz.results14 _ _ _) rfl ?_
      exact ⟨rfl, rfl⟩
  · rw [if_neg hn, if_neg hn]
    have e1 : decide (n < 0) = false := decide_eq_false (by omega)
    have e2 : decide (1048576 < n) = false := decide_eq_false (by omega)
    have hn1 : 0 ≤ n := by omega
    have hn2 : n ≤ 1048576 := by omega
    have a1 : IntKind.i64.wrap (n + 16) = n + 16 := IntWalk.i64_in _ (by omega)
    have a2 : n + 16 - 1 = n + 15 := by omega
    have a0 : (0 : Int) ≤ n + 15 := by omega
    obtain ⟨q, hq⟩ : ∃ q, (n + 15) / 16 = q := ⟨_, rfl⟩
    have hq1 : 0 ≤ q := by omega
    have hq2 : q ≤ 65537 := by omega
    have b1 := Int.mul_le_mul_of_nonneg_left h2 hq1
    have b2 := Int.mul_nonneg hq1 (show 0 ≤ size by omega)
    have a3 : IntKind.i64.wrap (q * size) = q * size := IntWalk.i64_in _ (by omega)
    have a4 : IntKind.i64.wrap (2 * n) = 2 * n := IntWalk.i64_in _ (by omega)
    have hq' : (n + 16 - 1) / 16 = q := by rw [a2, hq]
    rw [hq]
    have Hq := Lib.hid hq
    clear hn b1 b2 hq1 hq2 a2 hq
    go_enter Tryz.func14, Tryz.ntmps14
    go_wp2
    refine bodyPost_ret (results_tmp2 Tryz.results14 _ _ _) rfl ?_
    exact ⟨rfl, rfl⟩
end Go.Proofs.YthmgjielcmjenaaGreat

namespace Go.Proofs.YthmgjielcmjenaaGreat
open Go.RowKit

/-- a number that is a sample -/
def in16 (x : Int) : Bool := decide (-32768 ≤ x) && decide (x < 32768)
set_option maxRecDepth 100000 in
set_option maxHeartbeats 1000000 in
theorem cright_any (l : List Int) (A : Option Addr) (cap : Nat) (w : World) (hl : l.length ≤ 1000000000) (hr : Row w w.heap.size A (l.map (.int .i64))) :
    Calls Tryz.prog 17 #[.slice A l.length cap] w fun e w' => e = .returned (.bool (l.all in16)) ∧ w = w' := by
  have Hr := Lib.hid hr
  obtain ⟨n, hn⟩ : ∃ n, l.length = n := ⟨_, rfl⟩
  rw [hn] at hl ⊢
  have Hn := Lib.hid hn
  clear hr hn
  go_enter Tryz.func17, Tryz.ntmps17
  go_wp2
  go_loop [7] (fun k => ∃ m : Nat, m ≤ n ∧ (l.take m).all in16 = true ∧ k = .int .i64 m) (fun k => (n - (intOf k)).toNat)
  case atStart => exact ⟨0, by omega, rfl, rfl⟩
  case round =>
    obtain ⟨m, hm, hall, rfl⟩ := hrel
    have HA := Lib.hid hall
    clear hall
    by_cases hlk : m < n
    · have t1 : (m : Int) < (n : Int) := by omega
      obtain ⟨x, hx⟩ := list_get (k := m) Hn.out hlk
      obtain ⟨b, off, hA, hb, k0⟩ := Hr.out m (.int .i64 x) (by rw [List.getElem?_map, hx]; rfl)
      subst hA
      have HT := Lib.hid (all_take_succ in16 hx)
      have HFa := Lib.hid (fun h => all_false_of in16 hx h)
      clear hx
      by_cases h0 : x < -32768
      · have d0 : decide (x < -32768) = true := decide_eq_true h0
        have hf := Lib.hid (HFa.out (by unfold in16; rw [decide_eq_false (by omega)]; rfl))
        go_wp2
        go_ret
        exact ⟨ret_bool hf.out.symm, rfl⟩
      · have d0 : decide (x < -32768) = false := decide_eq_false h0
        by_cases h1 : 32768 ≤ x
        · have d1 : decide (32768 ≤ x) = true := decide_eq_true h1
          have hf := Lib.hid (HFa.out (by unfold in16; rw [decide_eq_false (show ¬ x < 32768 by omega), Bool.and_false]))
          go_wp2
          go_ret
          exact ⟨ret_bool hf.out.symm, rfl⟩
        · have d1 : decide (32768 ≤ x) = false := decide_eq_false h1
          have hf := Lib.hid (show in16 x = true by unfold in16; rw [decide_eq_true (show -32768 ≤ x by omega), decide_eq_true (show x < 32768 by omega)]; rfl)
          go_wp2
          go_round
          case rel => exact ⟨m + 1, by omega, by rw [HT.out, HA.out, hf.out]; rfl, by go_num⟩
          case measure => simp [intOf]; omega
    · have hmn : m = n := by omega
      have t1 : ¬ ((m : Int) < (n : Int)) := by omega
      have hf := Lib.hid (all_take_all in16 (l := l) (k := m) (by rw [Hn.out]; omega) HA.out)
      go_wp2
      go_ret
      exact ⟨ret_bool hf.out.symm, rfl⟩

theorem inf_i64 : (Tryz.prog.info? 2).map (fun i => (i.zero, i.size, i.bytes)) = some (some (.int .i64 0), 1, 8) := by kernel_rfl
/-- a new row of numbers -/
def NewRow (W : World) (xs : List Int) (e : Ending) (w' : World) : Prop :=
  ∃ g, e = .returned (.slice (some ⟨g, 0, none⟩) xs.length xs.length) ∧ W.heap.size ≤ g ∧ Blk w' g 2 (xs.map (.int .i64)) ∧ Below W.heap.size W w'
def wideTo (l : List Int) (n m : Nat) : List Int := (List.range n).map fun k => if k < m then bgt l k else 0
theorem wideTo_succ (l : List Int) {n m : Nat} (hm : m < n) : (wideTo l n m).set m (bgt l m) = wideTo l n (m + 1) := by
  refine range_map_set _ (fun k => if k < m + 1 then bgt l k else 0) hm ?_ (fun i hi => ?_)
  · rw [if_pos (by omega)]
  · by_cases h : i < m
    · rw [if_pos h, if_pos (by omega)]
    · rw [if_neg h, if_neg (by omega)]
theorem wideTo_all {l : List Int} {n : Nat} (hn : l.length = n) : wideTo l n n = l := by
  refine Eq.trans ?_ (self_map hn).symm
  unfold wideTo
  apply List.map_congr_left
  intro k hk
  rw [if_pos (List.mem_range.1 hk)]
theorem wideTo_len (l : List Int) (n m : Nat) : (wideTo l n m).length = n := by simp [wideTo]
theorem wideTo_get (l : List Int) {n m k : Nat} (hk : k < n) (hm : m ≤ k) : (wideTo l n m)[k]? = some 0 := by
  unfold wideTo
  rw [range_map_get _ hk, if_neg (by omega)]
theorem wideTo_zero (l : List Int) (n : Nat) : (wideTo l n 0).map (Value.int .i64) = List.replicate n (.int .i64 0) := by
  unfold wideTo
  apply List.ext_getElem?
  intro i
  rw [List.getElem?_map, List.getElem?_map, List.getElem?_replicate]
  rcases Nat.lt_or_ge i n with hi | hi
  · rw [List.getElem?_range hi, if_pos hi]; simp
  · rw [List.getElem?_eq_none (by simpa using hi), if_neg (by omega)]; rfl

set_option maxRecDepth 100000 in
set_option maxHeartbeats 1000000 in
theorem cwide_any (l : List Int) (A : Option Addr) (cap : Nat) (w : World) (hl : l.length ≤ 1000000000) (hr : Row w w.heap.size A (l.map (.int .i64))) :
    Calls Tryz.prog 18 #[.slice A l.length cap] w (NewRow w l) := by
  have Hr := Lib.hid hr
  unfold NewRow
  obtain ⟨n, hn⟩ : ∃ n, l.length = n := ⟨_, rfl⟩
  rw [hn] at hl ⊢
  have Hn := Lib.hid hn
  obtain ⟨i0, hi, hz0, hz1, hz2⟩ : ∃ i, Tryz.prog.info? 2 = some i ∧ i.zero = some (.int .i64 0) ∧ i.size = 1 ∧ i.bytes = 8 := by
    have := inf_i64
    cases h : Tryz.prog.info? 2 with
    | none => rw [h] at this; cases this
    | some i => rw [h] at this; simp at this; exact ⟨i, rfl, this.1, this.2.1, this.2.2⟩
  have Hms := Lib.hid (show (madeCells #[Value.int .i64 0] n).toList = List.replicate n (.int .i64 0) from toList_madeCells_one _ _)
  obtain ⟨mc, hmc⟩ : ∃ mc, madeCells #[Value.int .i64 0] n = mc := ⟨_, rfl⟩
  rw [hmc] at Hms
  have hmc2 : mc = ((wideTo l n 0).map (Value.int .i64)).toArray := by
    apply Array.toList_inj.1
    rw [Hms.out, wideTo_zero]
  have HB0 := Lib.hid (show Blk (w.alloc (.cells mc 2)) w.heap.size 2 ((wideTo l n 0).map (.int .i64)) by rw [hmc2]; exact Blk.new w _ _)
  clear hr hn hmc2 Hms
  go_enter Tryz.func18, Tryz.ntmps18
  go_wp2_with (refine wpList_make_row w rfl (.tmp 7) (.tmp 7) 64 rfl 2 i0 (.int .i64 0) Tryz.underlying64 hi hz0 hz1 rfl .i64 .i64 n rfl rfl (by rw [hz2]; omega) (by omega) ?_; rw [hmc])
  go_loopw [11] (fun i wr => ∃ m : Nat, m ≤ n ∧ i = .int .i64 m ∧ Blk wr w.heap.size 2 ((wideTo l n m).map (.int .i64)) ∧ Below w.heap.size w wr) (fun i _ => n - (intOf i).toNat)
  case atStart => exact ⟨0, by omega, rfl, HB0.out, bnew w _⟩
  case round =>
    obtain ⟨m, hm, rfl, hB, hbel⟩ := hrel
    have HB := Lib.hid hB
    have Hbel := Lib.hid hbel
    clear HB0
    by_cases hlk : m < n
    · have t1 : (m : Int) < (n : Int) := by omega
      obtain ⟨x, hx⟩ := list_get (k := m) Hn.out hlk
      obtain ⟨b, off, hA, hb, k0⟩ := Hr.out m (.int .i64 x) (by rw [List.getElem?_map, hx]; rfl)
      have k1 := (Hbel.out.cell (p := ⟨b, off + m, none⟩) hb).trans k0
      subst hA
      have HS := Lib.hid (show (wideTo l n m).set m x = wideTo l n (m + 1) by rw [← wideTo_succ l hlk, bgt_get hx])
      have ce : wr.cell? ⟨w.heap.size, m, none⟩ = some (.int .i64 0) := by rw [hB.cell, List.getElem?_map, wideTo_get l hlk (Nat.le_refl m)]; rfl
      have fz := hB.frozen m
      clear hx k0 hB hbel
      go_wp2
      go_roundw
      case rel =>
        refine ⟨m + 1, by omega, by go_num, ?_, Hbel.out.setCell (by simp) _⟩
        rw [← HS.out, List.map_set]
        exact HB.out.set_ m _
      case measure => simp [intOf]; omega
    · have hmn : m = n := by omega
      have t1 : ¬ ((m : Int) < (n : Int)) := by omega
      have HE := Lib.hid (show wideTo l n m = l by rw [hmn]; exact wideTo_all Hn.out)
      go_wp2
      go_ret
      exact ⟨w.heap.size, rfl, Nat.le_refl _, by rw [← HE.out]; exact HB.out, Hbel.out⟩

/-- a list, the other way round -/
def flipZ (l : List Int) (n : Nat) : List Int := (List.range n).map fun k => bgt l (n - 1 - k)
def flipTo (l : List Int) (n m : Nat) : List Int := (List.range n).map fun k => if n ≤ k + m then bgt l (n - 1 - k) else 0
theorem flipTo_succ (l : List Int) {n m : Nat} (hm : m < n) : (flipTo l n m).set (n - 1 - m) (bgt l m) = flipTo l n (m + 1) := by
  refine range_map_set _ (fun k => if n ≤ k + (m + 1) then bgt l (n - 1 - k) else 0) (by omega) ?_ (fun i hi => ?_)
  · rw [if_pos (by omega), show n - 1 - (n - 1 - m) = m by omega]
  · by_cases h : n ≤ i + m
    · rw [if_pos h, if_pos (by omega)]
    · rw [if_neg h, if_neg (by omega)]
theorem flipTo_all (l : List Int) (n : Nat) : flipTo l n n = flipZ l n := by
  unfold flipTo flipZ
  apply List.map_congr_left
  intro k hk
  rw [if_pos (by omega)]
theorem flipTo_zero (l : List Int) (n : Nat) : (flipTo l n 0).map (Value.int .i64) = List.replicate n (.int .i64 0) := by
  unfold flipTo
  apply List.ext_getElem?
  intro i
  rw [List.getElem?_map, List.getElem?_map, List.getElem?_replicate]
  rcases Nat.lt_or_ge i n with hi | hi
  · rw [List.getElem?_range hi, if_pos hi]
    simp only [Option.map_some]
    rw [if_neg (by omega)]
  · rw [List.getElem?_eq_none (by simpa using hi), if_neg (by omega)]; rfl
theorem flipTo_get (l : List Int) {n m : Nat} (hm : m < n) : (flipTo l n m)[n - 1 - m]? = some 0 := by
  unfold flipTo
  rw [range_map_get _ (by omega), if_neg (by omega)]
theorem flipZ_len (l : List Int) (n : Nat) : (flipZ l n).length = n := by simp [flipZ]

set_option maxRecDepth 100000 in
set_option maxHeartbeats 1000000 in
theorem Flip_any (l : List Int) (A : Option Addr) (cap : Nat) (w : World) (hl : l.length ≤ 1000000000) (hr : Row w w.heap.size A (l.map (.int .i64))) :
    Calls Tryz.prog 80 #[.slice A l.length cap] w (NewRow w (flipZ l l.length)) := by
  have Hr := Lib.hid hr
  unfold NewRow
  rw [flipZ_len]
  obtain ⟨n, hn⟩ : ∃ n, l.length = n := ⟨_, rfl⟩
  rw [hn] at hl ⊢
  have Hn := Lib.hid hn
  obtain ⟨i0, hi, hz0, hz1, hz2⟩ : ∃ i, Tryz.prog.info? 2 = some i ∧ i.zero = some (.int .i64 0) ∧ i.size = 1 ∧ i.bytes = 8 := by
    have := inf_i64
    cases h : Tryz.prog.info? 2 with
    | none => rw [h] at this; cases this
    | some i => rw [h] at this; simp at this; exact ⟨i, rfl, this.1, this.2.1, this.2.2⟩
  have Hms := Lib.hid (show (madeCells #[Value.int .i64 0] n).toList = List.replicate n (.int .i64 0) from toList_madeCells_one _ _)
  obtain ⟨mc, hmc⟩ : ∃ mc, madeCells #[Value.int .i64 0] n = mc := ⟨_, rfl⟩
  rw [hmc] at Hms
  have hmc2 : mc = ((flipTo l n 0).map (Value.int .i64)).toArray := by
    apply Array.toList_inj.1
    rw [Hms.out, flipTo_zero]
  have HB0 := Lib.hid (show Blk (w.alloc (.cells mc 2)) w.heap.size 2 ((flipTo l n 0).map (.int .i64)) by rw [hmc2]; exact Blk.new w _ _)
  clear hr hn hmc2 Hms
  go_enter Tryz.func80, Tryz.ntmps80
  go_wp2_with (refine wpList_make_row w rfl (.tmp 7) (.tmp 7) 64 rfl 2 i0 (.int .i64 0) Tryz.underlying64 hi hz0 hz1 rfl .i64 .i64 n rfl rfl (by rw [hz2]; omega) (by omega) ?_; rw [hmc])
  go_loopw [11] (fun i wr => ∃ m : Nat, m ≤ n ∧ i = .int .i64 m ∧ Blk wr w.heap.size 2 ((flipTo l n m).map (.int .i64)) ∧ Below w.heap.size w wr) (fun i _ => n - (intOf i).toNat)
  case atStart => exact ⟨0, by omega, rfl, HB0.out, bnew w _⟩
  case round =>
    obtain ⟨m, hm, rfl, hB, hbel⟩ := hrel
    have HB := Lib.hid hB
    have Hbel := Lib.hid hbel
    clear HB0
    by_cases hlk : m < n
    · have t1 : (m : Int) < (n : Int) := by omega
      obtain ⟨x, hx⟩ := list_get (k := m) Hn.out hlk
      obtain ⟨b, off, hA, hb, k0⟩ := Hr.out m (.int .i64 x) (by rw [List.getElem?_map, hx]; rfl)
      have k1 := (Hbel.out.cell (p := ⟨b, off + m, none⟩) hb).trans k0
      subst hA
      obtain ⟨r, hrr⟩ : ∃ r, n - 1 - m = r := ⟨_, rfl⟩
      have HS := Lib.hid (show (flipTo l n m).set r x = flipTo l n (m + 1) by rw [← flipTo_succ l hlk, bgt_get hx, hrr])
      have ce : wr.cell? ⟨w.heap.size, r, none⟩ = some (.int .i64 0) := by rw [hB.cell, List.getElem?_map, ← hrr, flipTo_get l hlk]; rfl
      have fz := hB.frozen r
      have t2 : (n : Int) - 1 - (m : Int) = (r : Int) := by omega
      have t3 : (0 : Int) ≤ (r : Int) := by omega
      have t4 : (r : Int) < (n : Int) := by omega
      clear hx k0 hB hbel hrr
      go_wp2
      go_roundw
      case rel =>
        refine ⟨m + 1, by omega, by go_num, ?_, Hbel.out.setCell (by simp) _⟩
        rw [← HS.out, List.map_set]
        exact HB.out.set_ r _
      case measure => simp [intOf]; omega
    · have hmn : m = n := by omega
      have t1 : ¬ ((m : Int) < (n : Int)) := by omega
      have HE := Lib.hid (show flipTo l n m = flipZ l n by rw [hmn]; exact flipTo_all l n)
      go_wp2
      go_ret
      exact ⟨w.heap.size, rfl, Nat.le_refl _, by rw [← HE.out]; exact HB.out, Hbel.out⟩
end Go.Proofs.YthmgjielcmjenaaGreat

namespace Go.Proofs.YthmgjielcmjenaaGreat
open Go.RowKit

def farM (a b : List Int) : Nat → Int
  | 0 => 0
  | m + 1 => max (farM a b m) (absZ (bgt a m - bgt b m))
def cntM (a b : List Int) : Nat → Int
  | 0 => 0
  | m + 1 => if 0 < absZ (bgt a m - bgt b m) then cntM a b m + 1 else cntM a b m
theorem cntM_bd (a b : List Int) : ∀ m, 0 ≤ cntM a b m ∧ cntM a b m ≤ (m : Int)
  | 0 => ⟨Int.le_refl _, Int.le_refl _⟩
  | m + 1 => by
    have := cntM_bd a b m
    unfold cntM
    split <;> omega
/-- numbers far from the ends of 64 bits -/
def Small (l : List Int) : Prop := ∀ (k : Nat) (x : Int), l[k]? = some x → -1099511627776 ≤ x ∧ x ≤ 1099511627776
theorem farM_bd {a b : List Int} (ha : Small a) (hb : Small b) : ∀ m, m ≤ a.length → m ≤ b.length → 0 ≤ farM a b m ∧ farM a b m ≤ 2199023255552
  | 0, _, _ => by unfold farM; omega
  | m + 1, h1, h2 => by
    have h := farM_bd ha hb m (by omega) (by omega)
    obtain ⟨x, hx⟩ := list_get (k := m) (b := a) rfl (by omega)
    obtain ⟨y, hy⟩ := list_get (k := m) (b := b) rfl (by omega)
    have hxb := ha m x hx
    have hyb := hb m y hy
    unfold farM
    rw [bgt_get hx, bgt_get hy]
    have h3 := absZ_nn (v := x - y)
    have h4 : absZ (x - y) ≤ 2199023255552 := absZ_le (by omega) (by omega) (by omega)
    omega

end Go.Proofs.YthmgjielcmjenaaGreat
