/- The laws ToneIs and ToneFinds; conditions: as each theorem states. -/
import Derived.Test.YthlidkdclhibpaaToneF
namespace Go.Proofs.Ythlidkdclhibpaa
open Go.RowKit

def spike : List Int := [0, 0, 0, 0, 0, 1000, 0, 0, 0, 0, 0, 0, 0, 0, 0, 0]
theorem spike_find : findT spike = [⟨5, 1000⟩] := by decide +kernel
theorem spike_is : isTone spike 5 = true := by decide +kernel
theorem spike_not : isTone spike 4 = false := by decide +kernel
theorem spike_big : BigB spike := near_big (by decide +kernel)

set_option maxRecDepth 100000 in
set_option maxHeartbeats 2000000 in
theorem awake11_any (w : World) : Calls Try.prog 49 #[] w fun e w' => e = .returned (.bool true) ∧ Below w.heap.size w w' := by
  have HF := Lib.hid (fun W => toneFind_any spike W rfl spike_big)
  rw [spike_find] at HF
  have H5 := Lib.hid (fun W => toneIs_any spike 5 W rfl spike_big)
  rw [spike_is] at H5
  have H4 := Lib.hid (fun W => toneIs_any spike 4 W rfl spike_big)
  rw [spike_not] at H4
  go_enter Try.func49, Try.ntmps49
  go_wp2_with (first | (refine wpList_load_row_w rfl 83 (.tmp 1) rfl w.heap.size rfl _ _ _ _ (heap_alloc_new w _) Try.underlying83 rfl inf_block ?_) | (go_at_call 52; fail))
  refine (HF.out _).mono ?_
  rintro e w1 ⟨A, c, rfl, _, _, hrow, hb1⟩
  obtain ⟨b, off, rfl, _, k0⟩ := hrow 0 (.int .i64 5) rfl
  obtain ⟨b', off', hA, _, k1⟩ := hrow 1 (.int .i64 1000) rfl
  injection hA with hA
  injection hA with e1 e2
  subst e1 e2
  rw [Nat.add_zero] at k0
  have Hb1 := Lib.hid hb1
  have hB1 := Lib.hid ((hb1.block w.heap.size (by simp)).trans (heap_alloc_new w _))
  clear hrow hb1
  go_wp2_with (first | (refine wpList_load_row_w rfl 83 (.tmp 1) rfl w.heap.size rfl _ _ _ _ hB1.out Try.underlying83 rfl inf_block ?_) | (go_at_call 50; fail))
  refine (H5.out _).mono ?_
  rintro e w2 ⟨rfl, hb2⟩
  have Hb2 := Lib.hid (bnext (bnew _ _) (bnext Hb1.out hb2))
  have hB2 := Lib.hid ((hb2.block w.heap.size (by have := Hb1.out.size; simp at this; omega)).trans hB1.out)
  clear hb2
  go_wp2_with (first | (refine wpList_load_row_w rfl 83 (.tmp 1) rfl w.heap.size rfl _ _ _ _ hB2.out Try.underlying83 rfl inf_block ?_) | (go_at_call 50; fail))
  refine (H4.out _).mono ?_
  rintro e w3 ⟨rfl, hb3⟩
  have Hb3 := Lib.hid (bnext Hb2.out hb3)
  clear hb3
  go_wp2_with fail
  go_ret
  exact ⟨rfl, Hb3.out⟩

set_option maxRecDepth 100000 in
set_option maxHeartbeats 2000000 in
theorem ToneIs_walk (b : List Int) (i : Int) (w : World) (hb : b.length = 16) :
    Calls Try.prog 10 #[blockV b, .int .i64 i] w fun e w' => e = .returned (.bool true) ∧ Below w.heap.size w w' := by
  have HN := Lib.hid (fun W => lawnear_any b W hb)
  obtain ⟨N, hN⟩ : ∃ N, b.all nearI = N := ⟨_, rfl⟩
  rw [hN] at HN
  have H1 := Lib.hid (fun (h : b.all nearI = true) W => toneIs_any b i W hb (near_big h))
  have H2 := Lib.hid (fun (h : b.all nearI = true) W => lawis_any b i W hb (near_big h))
  rw [hN] at H1 H2
  generalize isTone b i = T at *
  unfold blockV at *
  have hsz : (b.map (Value.int .i64)).toArray.size = 16 := by simp [hb]
  generalize (b.map (Value.int .i64)).toArray = cs at *
  have HF := Lib.hid (show (Try.prog.info? 83).map (·.size) = some cs.size by rw [hsz]; exact inf_block)
  have hB := Lib.hid (heap_alloc_new w (.cells cs 83))
  clear hN hb hsz
  cases N
  · go_enter Try.func10, Try.ntmps10
    go_wp2_with (first | (go_at_call 48; refine (HN.out _).mono ?_; rintro e w1 ⟨rfl, hb1⟩) | (go_at_call 49; refine (awake11_any _).mono ?_; rintro e w2 ⟨rfl, hb2⟩) | (refine wpList_load_row_w rfl 83 (.tmp 2) rfl w.heap.size rfl _ cs _ _ hB.out Try.underlying83 rfl HF.out ?_))
    go_ret
    exact ⟨rfl, bnext (bnew _ _) (bnext hb1 hb2)⟩
  · have G1 := Lib.hid (H1.out rfl)
    have G2 := Lib.hid (H2.out rfl)
    clear H1 H2
    cases T
    all_goals
     go_enter Try.func10, Try.ntmps10
     go_wp2_with (first | (go_at_call 48; refine (HN.out _).mono ?_; rintro e w1 ⟨rfl, hb1⟩; have hB1 := Lib.hid ((hb1.block w.heap.size (by simp)).trans hB.out)) | (refine wpList_load_row_w rfl 83 (.tmp 2) rfl w.heap.size rfl _ cs _ _ hB.out Try.underlying83 rfl HF.out ?_))
     refine wp_region_calm (by kernel_rfl) (by kernel_rfl) ?_
     repeat (first | (go_big_quiet_want; refine quiet_load_row 83 (.tmp 2) rfl w.heap.size rfl _ cs _ _ (gw_heap hB1.out) Try.underlying83 rfl HF.out ?_; go_simp; go_big_quiet_on) | go_big_quiet_step ((first | (go_at_call 50; exact calm_call (G1.out _)) | (go_at_call 51; exact calm_call (G2.out _)) | (go_at_call 49; exact calm_call (awake11_any _)))))
     refine wpQuiet_nil ?_
     intro w5 hw'
     have hb5 := gw_below hw'
     go_wp2
     go_ret
     exact ⟨rfl, bnext (bnew _ _) (bnext hb1 hb5)⟩
theorem ToneIs_law (W : World) (v0 v1 : Value) (a0 : Arg W (tyRep (.int .i64) 1 16) v0) (a1 : Arg W (.int .i64) v1) :
    Calls Try.prog 10 #[v0, v1] W fun e w' => e = .returned (.bool true) ∧ Below W.heap.size W w' := by
  obtain ⟨b, hb, rfl, _⟩ := arr_arg a0
  obtain ⟨i, ha, _, _⟩ := a1
  obtain rfl : v1 = .int .i64 i := by simpa using ha
  exact ToneIs_walk b i W hb
end Go.Proofs.Ythlidkdclhibpaa
