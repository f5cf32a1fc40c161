/- LiftB. Conditions: as each theorem states. -/
import Derived.Test.YthmgjielcmjenaaGreatZc14
import Derived.Test.YthmgjielcmjenaaGreatZc15

namespace Go.Proofs.YthmgjielcmjenaaGreat
open Go.RowKit

def turnsTo (m : Nat) : List Value := ((List.range 8).map fun k => if k < m then (turnK k).cells else [.int .i64 0, .int .i64 0]).flatten
def turnsA : Array Value := (turnsTo 8).toArray
theorem turnsTo_len (m : Nat) : (turnsTo m).length = 16 := by
  unfold turnsTo
  simp [List.range, List.range.loop]
  repeat' split
  all_goals rfl
theorem turnsTo_set {m : Nat} (hm : m < 8) : ((turnsTo m).set (m * 2) (.int .i64 (turnK m).p)).set (m * 2 + 1) (.int .i64 (turnK m).u) = turnsTo (m + 1) := by
  have hk8 : m = 0 ∨ m = 1 ∨ m = 2 ∨ m = 3 ∨ m = 4 ∨ m = 5 ∨ m = 6 ∨ m = 7 := by omega
  rcases hk8 with rfl | rfl | rfl | rfl | rfl | rfl | rfl | rfl <;> rfl
theorem turnsTo_get {m : Nat} (hm : m < 8) : (turnsTo m)[m * 2]? = some (.int .i64 0) ∧ (turnsTo m)[m * 2 + 1]? = some (.int .i64 0) := by
  have hk8 : m = 0 ∨ m = 1 ∨ m = 2 ∨ m = 3 ∨ m = 4 ∨ m = 5 ∨ m = 6 ∨ m = 7 := by omega
  rcases hk8 with rfl | rfl | rfl | rfl | rfl | rfl | rfl | rfl <;> exact ⟨rfl, rfl⟩
theorem turnsTo_one (m : Nat) : (turnsTo m).toArray.all (·.oneCell') = true := by
  rw [Array.all_eq_true_iff_forall_mem]
  intro v hv
  rw [List.mem_toArray] at hv
  unfold turnsTo at hv
  obtain ⟨l, hl, hv⟩ := List.mem_flatten.1 hv
  obtain ⟨k, _, rfl⟩ := List.mem_map.1 hl
  split at hv
  · simp [TurnV.cells] at hv
    rcases hv with rfl | rfl <;> rfl
  · simp at hv
    subst hv; rfl
theorem inf_turns : (Tryz.prog.info? 53).map (·.size) = some 16 := by kernel_rfl
theorem inf_pairs : (Tryz.prog.info? 55).map (·.size) = some 16 := by kernel_rfl
theorem inf_net : (Tryz.prog.info? 57).map (·.size) = some 16 := by kernel_rfl
theorem inf_lap : (Tryz.prog.info? 59).map (·.size) = some 32 := by kernel_rfl

set_option maxRecDepth 100000 in
set_option maxHeartbeats 4000000 in
theorem Turns_any (w : World) : Calls Tryz.prog 34 #[] w fun e w' => e = .returned (.agg turnsA) ∧ Below w.heap.size w w' := by
  have H2 := Lib.hid (heap2 w (.cells (List.replicate 16 (Value.int .i64 0)).toArray 53) (.cells (List.replicate 16 (Value.int .i64 0)).toArray 53))
  go_enter Tryz.func34, Tryz.ntmps34
  go_wp2
  go_loopw [3] (fun i wr => ∃ m : Nat, m ≤ 8 ∧ i = .int .i64 m ∧ Blk wr (w.heap.size + 1) 53 (turnsTo m) ∧ Blk wr w.heap.size 53 (List.replicate 16 (.int .i64 0)) ∧ Below w.heap.size w wr) (fun i _ => 8 - (intOf i).toNat)
  case atStart => exact ⟨0, by omega, rfl, H2.out.2.1, H2.out.1, H2.out.2.2.2⟩
  case round =>
    obtain ⟨m, hm, rfl, hB, hZ, hbel⟩ := hrel
    have HB := Lib.hid hB
    have HZ := Lib.hid hZ
    have Hbel := Lib.hid hbel
    clear hB hZ hbel H2
    by_cases hlk : m < 8
    · have t1 : (m : Int) < 8 := by omega
      have HS := Lib.hid (turnsTo_set hlk)
      have HG := Lib.hid (turnsTo_get hlk)
      have HT := Lib.hid (fun W => tableTurn_any m W hlk)
      generalize turnK m = tk at *
      obtain ⟨p, u⟩ := tk
      simp only at HS HT
      go_wp2_with (go_at_call 63; fail)
      refine (HT.out _).mono ?_
      rintro e w1 ⟨rfl, hb1⟩
      have B1 := Lib.hid (HB.out.below hb1 HB.out.lt)
      have Z1 := Lib.hid (HZ.out.below hb1 HZ.out.lt)
      have L1 := Lib.hid (bnext Hbel.out hb1)
      have ce1 : w1.cell? ⟨w.heap.size + 1, m * 2, none⟩ = some (.int .i64 0) := (B1.out.cell _).trans HG.out.1
      have fz1 := B1.out.frozen (m * 2)
      have S1 := Lib.hid (B1.out.set_ (m * 2) (.int .i64 p))
      have ce2 : (w1.setCell ⟨w.heap.size + 1, m * 2, none⟩ (.int .i64 p)).cell? ⟨w.heap.size + 1, m * 2 + 1, none⟩ = some (.int .i64 0) := by
        rw [S1.out.cell, List.getElem?_set, if_neg (by omega)]; exact HG.out.2
      have fz2 := S1.out.frozen (m * 2 + 1)
      clear hb1
      go_wp2
      go_roundw
      case rel =>
        refine ⟨m + 1, by omega, by go_num, ?_, (Z1.out.far (by simp) _).far (by simp) _, (L1.out.setCell (by simp) _).setCell (by simp) _⟩
        rw [← HS.out]
        exact S1.out.set_ _ _
      case measure => simp [intOf]; omega
    · have hm8 : m = 8 := by omega
      subst hm8
      have t1 : ¬ (((8 : Nat) : Int) < 8) := by omega
      have hH := Lib.hid (show wr.heap[w.heap.size + 1]? = some (.cells (turnsTo 8).toArray 53 (0, 0)) from HB.out)
      have hH2 := Lib.hid (show wr.heap[w.heap.size]? = some (.cells (List.replicate 16 (Value.int .i64 0)).toArray 53 (0, 0)) from HZ.out)
      have H1 := Lib.hid (turnsTo_one 8)
      have hsz2 : (turnsTo 8).toArray.size = 16 := by simp [turnsTo_len]
      obtain ⟨xs, hxs⟩ : ∃ xs, (turnsTo 8).toArray = xs := ⟨_, rfl⟩
      rw [hxs] at hH H1 hsz2
      have HE := Lib.hid hxs
      clear hxs
      have HF2 := Lib.hid (show (Tryz.prog.info? 53).map (·.size) = some xs.size by rw [hsz2]; exact inf_turns)
      have Hsz := Lib.hid hsz2
      clear hsz2
      go_wp2_with (first | (refine wpList_load_row_w rfl 53 (.tmp 1) rfl (w.heap.size + 1) rfl _ xs _ _ hH.out Tryz.underlying53 rfl HF2.out ?_) | (refine wpList_store_row_w rfl 53 (.tmp 0) (.tmp 11) rfl w.heap.size rfl _ _ xs rfl hH2.out HF2.out (by rw [Hsz.out]; simp) H1.out ?_))
      refine bodyPost_ret (v := .agg xs) (results_cell_row Tryz.results34 _ _ w.heap.size 53 xs (0, 0) _ rfl (setRow_at wr _ _ _ xs hH2.out) Tryz.underlying53 rfl HF2.out) rfl ?_
      exact ⟨by rw [← HE.out]; rfl, setRow_below Hbel.out _ (by omega) _⟩

theorem turnsA_size : turnsA.size = 16 := by simp [turnsA, turnsTo_len]
theorem turnsA_one : turnsA.all (·.oneCell') = true := turnsTo_one 8
def lapA : Array Value := turnsA ++ turnsA
theorem lapA_size : lapA.size = 32 := by simp [lapA, turnsA_size]
theorem lapA_one : lapA.all (·.oneCell') = true := by
  unfold lapA
  rw [Array.all_append, turnsA_one]; rfl
theorem built_pairs : Tryz.prog.built 55 [(0, .agg turnsA)] = some turnsA := by kernel_rfl
theorem built_net : Tryz.prog.built 57 [(0, .agg turnsA)] = some turnsA := by kernel_rfl
theorem built_lap : Tryz.prog.built 59 [(0, .agg turnsA), (1, .agg turnsA)] = some lapA := by kernel_rfl
set_option maxRecDepth 100000 in
theorem liftNew_any (w : World) : Calls Tryz.prog 33 #[.agg turnsA] w fun e w' => e = .returned (.agg turnsA) ∧ Below w.heap.size w w' := by
  have HT := Lib.hid built_pairs
  have HF := Lib.hid (show (Tryz.prog.info? 53).map (·.size) = some turnsA.size by rw [turnsA_size]; exact inf_turns)
  have HP := Lib.hid (show (Tryz.prog.info? 55).map (·.size) = some turnsA.size by rw [turnsA_size]; exact inf_pairs)
  have H1 := Lib.hid turnsA_one
  have Hs := Lib.hid (show (List.replicate 16 (Value.int .i64 0)).toArray.size = turnsA.size by rw [turnsA_size]; rfl)
  generalize turnsA = tv at *
  have H2 := Lib.hid (heap2 w (.cells tv 53) (.cells (List.replicate 16 (Value.int .i64 0)).toArray 55))
  go_enter Tryz.func33, Tryz.ntmps33
  go_wp2_with (refine wpList_load_row_w rfl 53 (.tmp 1) rfl w.heap.size rfl _ tv _ _ H2.out.1 Tryz.underlying53 rfl HF.out ?_; refine wpList_built rfl 55 _ rfl tv (by simpa [Act.eval, Act.put] using HT.out) ?_; refine wpList_store_row_w rfl 55 (.tmp 2) (.tmp 4) rfl (w.heap.size + 1) rfl _ _ tv rfl H2.out.2.1 HP.out Hs.out H1.out ?_)
  refine bodyPost_ret (v := .agg tv) (results_cell_row Tryz.results33 _ _ (w.heap.size + 1) 55 tv (0, 0) _ rfl (setRow_at _ _ _ _ tv H2.out.2.1) Tryz.underlying55 rfl HP.out) rfl ?_
  exact ⟨rfl, setRow_below H2.out.2.2.2 _ (by omega) _⟩
set_option maxRecDepth 100000 in
theorem netNew_any (w : World) : Calls Tryz.prog 35 #[] w fun e w' => e = .returned (.agg turnsA) ∧ Below w.heap.size w w' := by
  have HT := Lib.hid built_net
  have HTu := Lib.hid Turns_any
  have HP := Lib.hid (show (Tryz.prog.info? 57).map (·.size) = some turnsA.size by rw [turnsA_size]; exact inf_net)
  have H1 := Lib.hid turnsA_one
  have Hs := Lib.hid (show (List.replicate 16 (Value.int .i64 0)).toArray.size = turnsA.size by rw [turnsA_size]; rfl)
  generalize turnsA = tv at *
  have HM := Lib.hid (heap_alloc_new w (.cells (List.replicate 16 (Value.int .i64 0)).toArray 57))
  go_enter Tryz.func35, Tryz.ntmps35
  go_wp2_with (go_at_call 34; fail)
  refine (HTu.out _).mono ?_
  rintro e w1 ⟨rfl, hb1⟩
  have M1 := Lib.hid (hkeep HM.out hb1)
  have B1 := Lib.hid (bnext (bnew w _) hb1)
  clear hb1
  go_wp2_with (first | (refine wpList_built rfl 57 _ rfl tv (by simpa [Act.eval] using HT.out) ?_) | (refine wpList_store_row_w rfl 57 (.tmp 0) (.tmp 2) rfl w.heap.size rfl _ _ tv rfl M1.out HP.out Hs.out H1.out ?_))
  refine bodyPost_ret (v := .agg tv) (results_cell_row Tryz.results35 _ _ w.heap.size 57 tv (0, 0) _ rfl (setRow_at _ _ _ _ tv M1.out) Tryz.underlying57 rfl HP.out) rfl ?_
  exact ⟨rfl, setRow_below B1.out _ (by omega) _⟩
set_option maxRecDepth 100000 in
theorem lapNew_any (w : World) : Calls Tryz.prog 16 #[] w fun e w' => e = .returned (.agg lapA) ∧ Below w.heap.size w w' := by
  have HT := Lib.hid built_lap
  have HTu := Lib.hid Turns_any
  have HLi := Lib.hid liftNew_any
  have HNe := Lib.hid netNew_any
  have HP := Lib.hid (show (Tryz.prog.info? 59).map (·.size) = some lapA.size by rw [lapA_size]; exact inf_lap)
  have H1 := Lib.hid lapA_one
  have Hs := Lib.hid (show (List.replicate 32 (Value.int .i64 0)).toArray.size = lapA.size by rw [lapA_size]; rfl)
  generalize lapA = lv at *
  generalize turnsA = tv at *
  have HM := Lib.hid (heap_alloc_new w (.cells (List.replicate 32 (Value.int .i64 0)).toArray 59))
  go_enter Tryz.func16, Tryz.ntmps16
  go_wp2_with (go_at_call 34; fail)
  refine (HTu.out _).mono ?_
  rintro e w1 ⟨rfl, hb1⟩
  have M1 := Lib.hid (hkeep HM.out hb1)
  have B1 := Lib.hid (bnext (bnew w _) hb1)
  clear hb1
  go_wp2_with (go_at_call 33; fail)
  refine (HLi.out _).mono ?_
  rintro e w2 ⟨rfl, hb2⟩
  have M2 := Lib.hid (hkeep M1.out hb2)
  have B2 := Lib.hid (bnext B1.out hb2)
  clear hb2
  go_wp2_with (go_at_call 35; fail)
  refine (HNe.out _).mono ?_
  rintro e w3 ⟨rfl, hb3⟩
  have M3 := Lib.hid (hkeep M2.out hb3)
  have B3 := Lib.hid (bnext B2.out hb3)
  clear hb3
  go_wp2_with (first | (refine wpList_built rfl 59 _ rfl lv (by simpa [Act.eval] using HT.out) ?_) | (refine wpList_store_row_w rfl 59 (.tmp 0) (.tmp 4) rfl w.heap.size rfl _ _ lv rfl M3.out HP.out Hs.out H1.out ?_))
  refine bodyPost_ret (v := .agg lv) (results_cell_row Tryz.results16 _ _ w.heap.size 59 lv (0, 0) _ rfl (setRow_at _ _ _ _ lv M3.out) Tryz.underlying59 rfl HP.out) rfl ?_
  exact ⟨rfl, setRow_below B3.out _ (by omega) _⟩
end Go.Proofs.YthmgjielcmjenaaGreat
