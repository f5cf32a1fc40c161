/- Contracts of layer 9's Scales.Right, layer 7's Right, layer 4's Step; conditions: as each theorem states. -/
import Derived.Test.YtibegmjkiceiiaaFitP
import Derived.Test.YtibegmjkiceiiaaNumB
namespace Go.Proofs.Ytibegmjkiceiiaa
open Go.RowKit

theorem inf_four : (Try.prog.info? 67).map (·.size) = some 4 := by kernel_rfl
theorem inf_scales : (Try.prog.info? 166).map (·.size) = some 4 := by kernel_rfl
def inB (hi : Int) (x : Int) : Bool := decide (0 ≤ x) && decide (x ≤ hi)
theorem scaleOk_eq (s : List Int) : scaleOk s = s.all (inB 23) := rfl

set_option maxRecDepth 100000 in
set_option maxHeartbeats 1000000 in
theorem scalesRight_any (s : List Int) (w : World) (hs : s.length = 4) :
    Calls Try.prog 125 #[blockV s] w fun e w' => e = .returned (.bool (scaleOk s)) ∧ Below w.heap.size w w' := by
  unfold blockV
  rw [scaleOk_eq]
  have HC := Lib.hid (fun (k : Nat) (x : Int) (h : s[k]? = some x) => blk_get h)
  have hsz : (s.map (Value.int .i64)).toArray.size = 4 := by simp [hs]
  generalize (s.map (Value.int .i64)).toArray = cs at *
  have HF := Lib.hid (show (Try.prog.info? 166).map (·.size) = some cs.size by rw [hsz]; exact inf_scales)
  have Hs := Lib.hid hs
  have hB := Lib.hid (heap_alloc_new w (.cells cs 166))
  clear hs hsz
  go_enter Try.func125, Try.ntmps125
  go_wp2_with (refine wpList_load_row_w rfl 166 (.tmp 1) rfl w.heap.size rfl _ cs _ _ hB.out Try.underlying166 rfl HF.out ?_)
  go_loop [6] (fun k => ∃ m : Nat, m ≤ 4 ∧ (s.take m).all (inB 23) = true ∧ k = .int .i64 m) (fun k => (4 - (intOf k)).toNat)
  case atStart => exact ⟨0, by omega, rfl, rfl⟩
  case round =>
    obtain ⟨m, hm, hall, rfl⟩ := hrel
    have HA := Lib.hid hall
    clear hall
    by_cases hlt : m < 4
    · have t1 : (m : Int) < 4 := by omega
      obtain ⟨x, hx⟩ := list_get (k := m) Hs.out (by omega)
      have hix := run_index_arr (P := Try.prog) Try.underlying166 hlt (fun W => by kernel_rfl) (fun W => by kernel_rfl) (HC.out _ _ hx)
      have HT := Lib.hid (all_take_succ (inB 23) hx)
      have HFa := Lib.hid (fun h => all_false_of (inB 23) hx h)
      clear hx
      by_cases h0 : x < 0
      · have d0 : decide (x < 0) = true := decide_eq_true h0
        have hf := Lib.hid (HFa.out (by unfold inB; rw [decide_eq_false (by omega)]; rfl))
        go_wp2
        go_ret
        exact ⟨ret_bool hf.out.symm, bnew _ _⟩
      · have d0 : decide (x < 0) = false := decide_eq_false h0
        by_cases h1 : 23 < x
        · have d1 : decide (23 < x) = true := decide_eq_true h1
          have hf := Lib.hid (HFa.out (by unfold inB; rw [decide_eq_false (show ¬ x ≤ 23 by omega), Bool.and_false]))
          go_wp2
          go_ret
          exact ⟨ret_bool hf.out.symm, bnew _ _⟩
        · have d1 : decide (23 < x) = false := decide_eq_false h1
          have hf := Lib.hid (show inB 23 x = true by unfold inB; rw [decide_eq_true (show 0 ≤ x by omega), decide_eq_true (show x ≤ 23 by omega)]; rfl)
          go_wp2
          go_round
          case rel => exact ⟨m + 1, by omega, by rw [HT.out, HA.out, hf.out]; rfl, by go_num⟩
          case measure => simp [intOf]; omega
    · have t1 : ¬ ((m : Int) < 4) := by omega
      have hf := Lib.hid (all_take_all (inB 23) (l := s) (k := m) (by rw [Hs.out]; omega) HA.out)
      go_wp2
      go_ret
      exact ⟨ret_bool hf.out.symm, bnew _ _⟩
def gainOk (g : List Int) : Bool := g.all (inB 3)
set_option maxRecDepth 100000 in
set_option maxHeartbeats 1000000 in
theorem gainRight_any (s : List Int) (w : World) (hs : s.length = 4) :
    Calls Try.prog 123 #[blockV s] w fun e w' => e = .returned (.bool (gainOk s)) ∧ Below w.heap.size w w' := by
  unfold blockV gainOk
  have HC := Lib.hid (fun (k : Nat) (x : Int) (h : s[k]? = some x) => blk_get h)
  have hsz : (s.map (Value.int .i64)).toArray.size = 4 := by simp [hs]
  generalize (s.map (Value.int .i64)).toArray = cs at *
  have HF := Lib.hid (show (Try.prog.info? 67).map (·.size) = some cs.size by rw [hsz]; exact inf_four)
  have Hs := Lib.hid hs
  have hB := Lib.hid (heap_alloc_new w (.cells cs 67))
  clear hs hsz
  go_enter Try.func123, Try.ntmps123
  go_wp2_with (refine wpList_load_row_w rfl 67 (.tmp 1) rfl w.heap.size rfl _ cs _ _ hB.out Try.underlying67 rfl HF.out ?_)
  go_loop [6] (fun k => ∃ m : Nat, m ≤ 4 ∧ (s.take m).all (inB 3) = true ∧ k = .int .i64 m) (fun k => (4 - (intOf k)).toNat)
  case atStart => exact ⟨0, by omega, rfl, rfl⟩
  case round =>
    obtain ⟨m, hm, hall, rfl⟩ := hrel
    have HA := Lib.hid hall
    clear hall
    by_cases hlt : m < 4
    · have t1 : (m : Int) < 4 := by omega
      obtain ⟨x, hx⟩ := list_get (k := m) Hs.out (by omega)
      have hix := run_index_arr (P := Try.prog) Try.underlying67 hlt (fun W => by kernel_rfl) (fun W => by kernel_rfl) (HC.out _ _ hx)
      have HT := Lib.hid (all_take_succ (inB 3) hx)
      have HFa := Lib.hid (fun h => all_false_of (inB 3) hx h)
      clear hx
      by_cases h0 : x < 0
      · have d0 : decide (x < 0) = true := decide_eq_true h0
        have hf := Lib.hid (HFa.out (by unfold inB; rw [decide_eq_false (by omega)]; rfl))
        go_wp2
        go_ret
        exact ⟨ret_bool hf.out.symm, bnew _ _⟩
      · have d0 : decide (x < 0) = false := decide_eq_false h0
        by_cases h1 : 3 < x
        · have d1 : decide (3 < x) = true := decide_eq_true h1
          have hf := Lib.hid (HFa.out (by unfold inB; rw [decide_eq_false (show ¬ x ≤ 3 by omega), Bool.and_false]))
          go_wp2
          go_ret
          exact ⟨ret_bool hf.out.symm, bnew _ _⟩
        · have d1 : decide (3 < x) = false := decide_eq_false h1
          have hf := Lib.hid (show inB 3 x = true by unfold inB; rw [decide_eq_true (show 0 ≤ x by omega), decide_eq_true (show x ≤ 3 by omega)]; rfl)
          go_wp2
          go_round
          case rel => exact ⟨m + 1, by omega, by rw [HT.out, HA.out, hf.out]; rfl, by go_num⟩
          case measure => simp [intOf]; omega
    · have t1 : ¬ ((m : Int) < 4) := by omega
      have hf := Lib.hid (all_take_all (inB 3) (l := s) (k := m) (by rw [Hs.out]; omega) HA.out)
      go_wp2
      go_ret
      exact ⟨ret_bool hf.out.symm, bnew _ _⟩
set_option maxHeartbeats 1000000 in
theorem Step_any (k : Nat) (w : World) (hk : k ≤ 23) :
    Calls Try.prog 164 #[.int .i64 k] w fun e w' => e = .returned (.int .i64 (2 ^ k)) ∧ w = w' := by
  have hd1 : (2 : Int) ^ k ≤ 8388608 := by
    rw [show (2 : Int) ^ k = ((2 ^ k : Nat) : Int) by rw [Int.natCast_pow]; rfl]
    exact Int.ofNat_le.2 (Nat.pow_le_pow_right (by decide) hk)
  have hd0 : (0 : Int) < 2 ^ k := Int.pow_pos (by decide)
  have hx1 : IntKind.i64.wrap (2 ^ k) = 2 ^ k := IntWalk.i64_in _ (by omega)
  have t1 : decide ((k : Int) < 0) = false := decide_eq_false (by omega)
  have t2 : decide (23 < (k : Int)) = false := decide_eq_false (by omega)
  clear hd1 hd0
  go_enter Try.func164, Try.ntmps164
  go_wp2
  go_ret
  exact ⟨rfl, rfl⟩
end Go.Proofs.Ytibegmjkiceiiaa
