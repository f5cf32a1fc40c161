/- QuantA, QuantB, QuantC. Conditions: as each theorem states. -/
import Derived.Test.YtbgkoopfdfnmcaaGreatCc14
import Derived.Test.YtbgkoopfdfnmcaaGreatCc08

namespace Go.Proofs.YtbgkoopfdfnmcaaGreat
open Go.RowKit

theorem inf_four : (Tryz.prog.info? 75).map (·.size) = some 4 := by kernel_rfl
theorem inf_scales : (Tryz.prog.info? 156).map (·.size) = some 4 := by kernel_rfl
def inB (hi : Int) (x : Int) : Bool := decide (0 ≤ x) && decide (x ≤ hi)
theorem scaleOk_eq (s : List Int) : scaleOk s = s.all (inB 23) := rfl

set_option maxRecDepth 100000 in
set_option maxHeartbeats 1000000 in
theorem scalesRight_any (s : List Int) (w : World) (hs : s.length = 4) :
    Calls Tryz.prog 88 #[blockV s] w fun e w' => e = .returned (.bool (scaleOk s)) ∧ Below w.heap.size w w' := by
  unfold blockV
  rw [scaleOk_eq]
  have HC := Lib.hid (fun (k : Nat) (x : Int) (h : s[k]? = some x) => blk_get h)
  have hsz : (s.map (Value.int .i64)).toArray.size = 4 := by simp [hs]
  generalize (s.map (Value.int .i64)).toArray = cs at *
  have HF := Lib.hid (show (Tryz.prog.info? 156).map (·.size) = some cs.size by rw [hsz]; exact inf_scales)
  have Hs := Lib.hid hs
  have hB := Lib.hid (heap_alloc_new w (.cells cs 156))
  clear hs hsz
  go_enter Tryz.func88, Tryz.ntmps88
  go_wp2_with (refine wpList_load_row_w rfl 156 (.tmp 1) rfl w.heap.size rfl _ cs _ _ hB.out Tryz.underlying156 rfl HF.out ?_)
  go_loop [6] (fun k => ∃ m : Nat, m ≤ 4 ∧ (s.take m).all (inB 23) = true ∧ k = .int .i64 m) (fun k => (4 - (intOf k)).toNat)
  case atStart => exact ⟨0, by omega, rfl, rfl⟩
  case round =>
    obtain ⟨m, hm, hall, rfl⟩ := hrel
    have HA := Lib.hid hall
    clear hall
    by_cases hlt : m < 4
    · have t1 : (m : Int) < 4 := by omega
      obtain ⟨x, hx⟩ := list_get (k := m) Hs.out (by omega)
      have hix := run_index_arr (P := Tryz.prog) Tryz.underlying156 hlt (fun W => by kernel_rfl) (fun W => by kernel_rfl) (HC.out _ _ hx)
      have HT := Lib.hid (all_take_succ (inB 23) hx)
      have HFa := Lib.hid (fun h => all_false_of (inB 23) hx h)
      clear hx
      by_cases h0 : x < 0
      · have d0 : decide (x < 0) = true := decide_eq_true h0
        have hf := Lib.hid (HFa.out (by unfold inB; rw [decide_eq_false (by omega)]; rfl))
        go_wp2
        go_ret
        exact ⟨ret_bool hf.out.symm, bnew _ _⟩
      · have d0 : decide (x < 0) = false := decide_eq_false h0
        by_cases h1 : 23 < x
        · have d1 : decide (23 < x) = true := decide_eq_true h1
          have hf := Lib.hid (HFa.out (by unfold inB; rw [decide_eq_false (show ¬ x ≤ 23 by omega), Bool.and_false]))
          go_wp2
          go_ret
          exact ⟨ret_bool hf.out.symm, bnew _ _⟩
        · have d1 : decide (23 < x) = false := decide_eq_false h1
          have hf := Lib.hid (show inB 23 x = true by unfold inB; rw [decide_eq_true (show 0 ≤ x by omega), decide_eq_true (show x ≤ 23 by omega)]; rfl)
          go_wp2
          go_round
          case rel => exact ⟨m + 1, by omega, by rw [HT.out, HA.out, hf.out]; rfl, by go_num⟩
          case measure => simp [intOf]; omega
    · have t1 : ¬ ((m : Int) < 4) := by omega
      have hf := Lib.hid (all_take_all (inB 23) (l := s) (k := m) (by rw [Hs.out]; omega) HA.out)
      go_wp2
      go_ret
      exact ⟨ret_bool hf.out.symm, bnew _ _⟩
def gainOk (g : List Int) : Bool := g.all (inB 3)
set_option maxRecDepth 100000 in
set_option maxHeartbeats 1000000 in
theorem gainRight_any (s : List Int) (w : World) (hs : s.length = 4) :
    Calls Tryz.prog 100 #[blockV s] w fun e w' => e = .returned (.bool (gainOk s)) ∧ Below w.heap.size w w' := by
  unfold blockV gainOk
  have HC := Lib.hid (fun (k : Nat) (x : Int) (h : s[k]? = some x) => blk_get h)
  have hsz : (s.map (Value.int .i64)).toArray.size = 4 := by simp [hs]
  generalize (s.map (Value.int .i64)).toArray = cs at *
  have HF := Lib.hid (show (Tryz.prog.info? 75).map (·.size) = some cs.size by rw [hsz]; exact inf_four)
  have Hs := Lib.hid hs
  have hB := Lib.hid (heap_alloc_new w (.cells cs 75))
  clear hs hsz
  go_enter Tryz.func100, Tryz.ntmps100
  go_wp2_with (refine wpList_load_row_w rfl 75 (.tmp 1) rfl w.heap.size rfl _ cs _ _ hB.out Tryz.underlying75 rfl HF.out ?_)
  go_loop [6] (fun k => ∃ m : Nat, m ≤ 4 ∧ (s.take m).all (inB 3) = true ∧ k = .int .i64 m) (fun k => (4 - (intOf k)).toNat)
  case atStart => exact ⟨0, by omega, rfl, rfl⟩
  case round =>
    obtain ⟨m, hm, hall, rfl⟩ := hrel
    have HA := Lib.hid hall
    clear hall
    by_cases hlt : m < 4
    · have t1 : (m : Int) < 4 := by omega
      obtain ⟨x, hx⟩ := list_get (k := m) Hs.out (by omega)
      have hix := run_index_arr (P := Tryz.prog) Tryz.underlying75 hlt (fun W => by kernel_rfl) (fun W => by kernel_rfl) (HC.out _ _ hx)
      have HT := Lib.hid (all_take_succ (inB 3) hx)
      have HFa := Lib.hid (fun h => all_false_of (inB 3) hx h)
      clear hx
      by_cases h0 : x < 0
      · have d0 : decide (x < 0) = true := decide_eq_true h0
        have hf := Lib.hid (HFa.out (by unfold inB; rw [decide_eq_false (by omega)]; rfl))
        go_wp2
        go_ret
        exact ⟨ret_bool hf.out.symm, bnew _ _⟩
      · have d0 : decide (x < 0) = false := decide_eq_false h0
        by_cases h1 : 3 < x
        · have d1 : decide (3 < x) = true := decide_eq_true h1
          have hf := Lib.hid (HFa.out (by unfold inB; rw [decide_eq_false (show ¬ x ≤ 3 by omega), Bool.and_false]))
          go_wp2
          go_ret
          exact ⟨ret_bool hf.out.symm, bnew _ _⟩
        · have d1 : decide (3 < x) = false := decide_eq_false h1
          have hf := Lib.hid (show inB 3 x = true by unfold inB; rw [decide_eq_true (show 0 ≤ x by omega), decide_eq_true (show x ≤ 3 by omega)]; rfl)
          go_wp2
          go_round
          case rel => exact ⟨m + 1, by omega, by rw [HT.out, HA.out, hf.out]; rfl, by go_num⟩
          case measure => simp [intOf]; omega
    · have t1 : ¬ ((m : Int) < 4) := by omega
      have hf := Lib.hid (all_take_all (inB 3) (l := s) (k := m) (by rw [Hs.out]; omega) HA.out)
      go_wp2
      go_ret
      exact ⟨ret_bool hf.out.symm, bnew _ _⟩
set_option maxHeartbeats 1000000 in
theorem Step_any (k : Nat) (w : World) (hk : k ≤ 23) :
    Calls Tryz.prog 89 #[.int .i64 k] w fun e w' => e = .returned (.int .i64 (2 ^ k)) ∧ w = w' := by
  have hd1 : (2 : Int) ^ k ≤ 8388608 := by
    rw [show (2 : Int) ^ k = ((2 ^ k : Nat) : Int) by rw [Int.natCast_pow]; rfl]
    exact Int.ofNat_le.2 (Nat.pow_le_pow_right (by decide) hk)
  have hd0 : (0 : Int) < 2 ^ k := Int.pow_pos (by decide)
  have hx1 : IntKind.i64.wrap (2 ^ k) = 2 ^ k := IntWalk.i64_in _ (by omega)
  have t1 : decide ((k : Int) < 0) = false := decide_eq_false (by omega)
  have t2 : decide (23 < (k : Int)) = false := decide_eq_false (by omega)
  clear hd1 hd0
  go_enter Tryz.func89, Tryz.ntmps89
  go_wp2
  go_ret
  exact ⟨rfl, rfl⟩
end Go.Proofs.YtbgkoopfdfnmcaaGreat

namespace Go.Proofs.YtbgkoopfdfnmcaaGreat
open Go.RowKit

theorem Near_below (v : Int) (p : Nat) (w : World) (h1 : -4611686018427387904 ≤ v) (h2 : v ≤ 4611686018427387904) (hp : p ≤ 61) :
    Calls Tryz.prog 134 #[.int .i64 v, .int .i64 p] w fun e w' => e = .returned (.int .i64 (nearZ v p)) ∧ Below w.heap.size w w' :=
  (Near_any v p w h1 h2 hp).mono fun e w' ⟨he, n, hn⟩ => ⟨he, by rw [hn]; exact below_drewN (Below.refl _ _) n⟩
theorem BigB.get {b : List Int} (h : BigB b) {k : Nat} {x : Int} (hx : b[k]? = some x) : -4611686018427387904 ≤ x ∧ x ≤ 4611686018427387904 := h k x hx

set_option maxRecDepth 100000 in
set_option maxHeartbeats 4000000 in
theorem Steps_any (b s : List Int) (w : World) (hb : b.length = 16) (hs : s.length = 4) (hr : BigB b) (hok : scaleOk s = true) :
    Calls Tryz.prog 110 #[blockV b, blockV s] w fun e w' => e = .returned (blockV (stepsTo b s 16)) ∧ Below w.heap.size w w' := by
  have HR := Lib.hid (fun W => scalesRight_any s W hs)
  have HQ := Lib.hid (fun (k : Nat) (x : Int) (hx : s[k]? = some x) => (show 0 ≤ x ∧ x ≤ 23 by
    unfold scaleOk at hok
    rw [List.all_eq_true] at hok
    have := hok x (List.mem_of_getElem? hx)
    simp at this; exact this))
  rw [hok] at HR
  clear hok
  unfold blockV at *
  have HC := Lib.hid (fun (k : Nat) (x : Int) (h : s[k]? = some x) => blk_get h)
  have hsz : (s.map (Value.int .i64)).toArray.size = 4 := by simp [hs]
  generalize (s.map (Value.int .i64)).toArray = cs at *
  have HF := Lib.hid (show (Tryz.prog.info? 156).map (·.size) = some cs.size by rw [hsz]; exact inf_scales)
  have Hs := Lib.hid hs
  have Hb := Lib.hid hb
  have Hr := Lib.hid hr
  have HB0 := Lib.hid (Blk.new w 74 (b.map (Value.int .i64)))
  have HS1 := Lib.hid (heap_alloc_new (w.alloc (.cells (b.map (Value.int .i64)).toArray 74)) (.cells cs 156))
  have Hb3 := Lib.hid (((bnew w (.cells (b.map (Value.int .i64)).toArray 74)).alloc (by simp) (.cells cs 156)).alloc (by simp; omega) (.cells (List.replicate 16 (Value.int .i64 0)).toArray 74))
  rw [World.size_alloc] at HS1
  clear hs hsz hb hr
  go_enter Tryz.func110, Tryz.ntmps110
  go_wp2_with (first | (go_at_call 88; fail) | (refine wpList_load_row_w rfl 156 (.tmp 3) rfl (w.heap.size + 1) rfl _ cs _ _ (by exact (heap_alloc_old _ _ (by simp)).trans HS1.out) Tryz.underlying156 rfl HF.out ?_))
  refine (HR.out _).mono ?_
  rintro e w1 ⟨rfl, hbb⟩
  have hb1 := bnext Hb3.out hbb
  have hB1 := ((HB0.out.alloc (.cells cs 156)).alloc (.cells (List.replicate 16 (Value.int .i64 0)).toArray 74)).below hbb (by simp; omega)
  have hS1 := (hbb.block (w.heap.size + 1) (by simp)).trans ((heap_alloc_old _ (.cells (List.replicate 16 (Value.int .i64 0)).toArray 74) (by simp)).trans HS1.out)
  have hZ1 := (Blk.new ((w.alloc (.cells (b.map (Value.int .i64)).toArray 74)).alloc (.cells cs 156)) 74 (List.replicate 16 (.int .i64 0))).below hbb (by simp)
  simp only [World.size_alloc] at hZ1
  have hsz1 := hbb.size
  simp at hsz1
  have Hb1 := Lib.hid hb1
  have HB1 := Lib.hid hB1
  have HZ1 := Lib.hid hZ1
  have HS1 := Lib.hid hS1
  clear hbb hb1 hB1 hS1 hZ1 HB0 Hb3
  go_wp2_with fail
  go_loopw [10] (fun i wr => ∃ (m : Nat), m ≤ 16 ∧ i = .int .i64 m ∧ Blk wr w.heap.size 74 ((stepsTo b s m).map (Value.int .i64)) ∧ wr.heap[w.heap.size + 1]? = some (.cells cs 156 (0, 0)) ∧ Blk wr (w.heap.size + 1 + 1) 74 (List.replicate 16 (.int .i64 0)) ∧ Below w.heap.size w wr ∧ w.heap.size + 3 ≤ wr.heap.size) (fun i _ => 16 - (intOf i).toNat)
  case atStart => exact ⟨0, by omega, rfl, by rw [stepsTo_zero s Hb.out]; exact HB1.out, HS1.out, HZ1.out, Hb1.out, by omega⟩
  case round =>
    obtain ⟨m, hm, rfl, hB, hS, hZ, hbel, hsz⟩ := hrel
    have HB := Lib.hid hB
    have HS := Lib.hid hS
    have HZ := Lib.hid hZ
    have Hbel := Lib.hid hbel
    by_cases hlt : m < 16
    · obtain ⟨x, hx⟩ := list_get (k := m) Hb.out hlt
      obtain ⟨q, hq⟩ : ∃ q, m / 4 = q := ⟨_, rfl⟩
      have hq4 : q < 4 := by omega
      obtain ⟨p, hp⟩ := list_get (k := q) Hs.out hq4
      have hpb := HQ.out q p hp
      obtain ⟨hp0, hp1⟩ := hpb
      obtain ⟨k, rfl⟩ := Int.eq_ofNat_of_zero_le hp0
      have HBand := Lib.hid (show ∀ W, Calls Tryz.prog 90 #[.int .i64 m] W fun e w' => e = .returned (.int .i64 (q : Int)) ∧ W = w' from fun W => (Band_any m W hlt).mono fun e w' ⟨he, hw⟩ => ⟨he.trans (ret_int (by omega)), hw⟩)
      have hxb := Hr.out.get hx
      have HNear := Lib.hid (fun W => Near_below x k W hxb.1 hxb.2 (by omega))
      have HSt := Lib.hid (show (stepsTo b s m).set m (nearZ x k) = stepsTo b s (m + 1) by
        rw [← stepsTo_succ b s hlt, bgt_get hx, hq, bgt_get hp, Int.toNat_natCast])
      have hc1 := HC.out q _ hp
      have hc2 : ((stepsTo b s m).map (Value.int .i64))[m]? = some (.int .i64 x) := by rw [List.getElem?_map, stepsTo_get b s hlt (Nat.le_refl m) hx]; rfl
      have t1 : (m : Int) < 16 := by omega
      have hx5 := gw_blk hB
      have hy5 := gw_cells hS
      clear hx hq hp hp0 hB hS hZ hbel
      generalize nearZ x k = y at *
      go_wp2_with fail
      refine wp_region_calm_tail 10 (by kernel_rfl) (by kernel_rfl) ?_
      simp only [List.take_succ_cons, List.take_zero, List.drop_succ_cons, List.drop_zero]
      repeat (go_big_quiet_step ((first | (go_at_call 90; exact calm_same (HBand.out _)) | (go_at_call 134; exact calm_call (HNear.out _)))))
      refine wpQuiet_nil ?_
      intro w5 hw'
      have hb5 := gw_below hw'
      have hB5 := HB.out.below hb5 HB.out.lt
      have hZ5 := HZ.out.below hb5 HZ.out.lt
      have hS5 := (hb5.block (w.heap.size + 1) (by omega)).trans HS.out
      have HB5 := Lib.hid hB5
      have HZ5 := Lib.hid hZ5
      have HS5 := Lib.hid hS5
      have Hb5 := Lib.hid (bnext Hbel.out hb5)
      have hsz5 := Nat.le_trans hsz hb5.size
      have ce : w5.cell? ⟨w.heap.size, m, none⟩ = some (.int .i64 x) := by rw [hB5.cell]; exact hc2
      have fz := hB5.frozen m
      clear hw' hb5 hx5 hy5 hB5 hZ5 hS5
      go_wp2
      go_roundw
      case rel =>
        refine ⟨m + 1, by omega, by go_num, ?_, (Below.heap_setCell w5 ⟨w.heap.size, m, none⟩ _ (w.heap.size + 1) (by simp)).trans HS5.out, HZ5.out.far (by simp; omega) _, Hb5.out.setCell (by simp) _, by simp; omega⟩
        rw [← HSt.out, List.map_set]
        exact HB5.out.set_ m _
      case measure => simp [intOf]; omega
    · have hm16 : m = 16 := by omega
      subst hm16
      have t1 : ¬ (((16 : Nat) : Int) < 16) := by omega
      have hH := Lib.hid (show wr.heap[w.heap.size]? = some (.cells ((stepsTo b s 16).map (Value.int .i64)).toArray 74 (0, 0)) from HB.out)
      have hH2 := Lib.hid (show wr.heap[w.heap.size + 1 + 1]? = some (.cells (List.replicate 16 (Value.int .i64 0)).toArray 74 (0, 0)) from HZ.out)
      have H1 := Lib.hid (ints_one (stepsTo b s 16))
      have hsz2 : ((stepsTo b s 16).map (Value.int .i64)).toArray.size = 16 := by simp [stepsTo_len]
      obtain ⟨xs, hxs⟩ : ∃ xs, ((stepsTo b s 16).map (Value.int .i64)).toArray = xs := ⟨_, rfl⟩
      rw [hxs] at hH H1 hsz2
      have HE := Lib.hid hxs
      clear hxs
      have HF2 := Lib.hid (show (Tryz.prog.info? 74).map (·.size) = some xs.size by rw [hsz2]; exact inf_block)
      have Hsz := Lib.hid hsz2
      clear hsz2
      go_wp2_with (first | (refine wpList_load_row_w rfl 74 (.tmp 2) rfl w.heap.size rfl _ xs _ _ hH.out Tryz.underlying74 rfl HF2.out ?_) | (refine wpList_store_row_w rfl 74 (.tmp 4) (.tmp 24) rfl (w.heap.size + 1 + 1) rfl _ _ xs rfl hH2.out HF2.out (by rw [Hsz.out]; simp) H1.out ?_))
      refine bodyPost_ret (v := .agg xs) (results_cell_row Tryz.results110 _ _ (w.heap.size + 1 + 1) 74 xs (0, 0) _ rfl (setRow_at wr _ _ _ xs hH2.out) Tryz.underlying74 rfl HF2.out) rfl ?_
      exact ⟨by rw [← HE.out], setRow_below Hbel.out _ (by omega) _⟩
end Go.Proofs.YtbgkoopfdfnmcaaGreat

namespace Go.Proofs.YtbgkoopfdfnmcaaGreat
open Go.RowKit

theorem step_wrap {x : Int} {k : Nat} (h : -68719476736 ≤ x ∧ x ≤ 68719476736) (hk : k ≤ 23) : IntKind.i64.wrap (x * 2 ^ k) = x * 2 ^ k := by
  have h1 : (2 : Int) ^ k ≤ 8388608 := by
    rw [show (2 : Int) ^ k = ((2 ^ k : Nat) : Int) by rw [Int.natCast_pow]; rfl]
    exact Int.ofNat_le.2 (Nat.pow_le_pow_right (by decide) hk)
  have h0 : (0 : Int) < 2 ^ k := Int.pow_pos (by decide)
  generalize (2 : Int) ^ k = s at *
  have a1 : x * s ≤ 68719476736 * s := Int.mul_le_mul_of_nonneg_right h.2 (by omega)
  have a2 : -68719476736 * s ≤ x * s := Int.mul_le_mul_of_nonneg_right h.1 (by omega)
  exact IntWalk.i64_in _ (by omega)

set_option maxRecDepth 100000 in
set_option maxHeartbeats 4000000 in
theorem Values_any (b s : List Int) (w : World) (hb : b.length = 16) (hs : s.length = 4) (hr : ∀ (k : Nat) (x : Int), b[k]? = some x → -68719476736 ≤ x ∧ x ≤ 68719476736) (hok : scaleOk s = true) :
    Calls Tryz.prog 57 #[blockV b, blockV s] w fun e w' => e = .returned (blockV (valuesTo b s 16)) ∧ Below w.heap.size w w' := by
  have HR := Lib.hid (fun W => scalesRight_any s W hs)
  have HQ := Lib.hid (fun (k : Nat) (x : Int) (hx : s[k]? = some x) => (show 0 ≤ x ∧ x ≤ 23 by
    unfold scaleOk at hok
    rw [List.all_eq_true] at hok
    have := hok x (List.mem_of_getElem? hx)
    simp at this; exact this))
  rw [hok] at HR
  clear hok
  unfold blockV at *
  have HC := Lib.hid (fun (k : Nat) (x : Int) (h : s[k]? = some x) => blk_get h)
  have hsz : (s.map (Value.int .i64)).toArray.size = 4 := by simp [hs]
  generalize (s.map (Value.int .i64)).toArray = cs at *
  have HF := Lib.hid (show (Tryz.prog.info? 156).map (·.size) = some cs.size by rw [hsz]; exact inf_scales)
  have Hs := Lib.hid hs
  have Hb := Lib.hid hb
  have Hr := Lib.hid hr
  have HB0 := Lib.hid (Blk.new w 74 (b.map (Value.int .i64)))
  have HS1 := Lib.hid (heap_alloc_new (w.alloc (.cells (b.map (Value.int .i64)).toArray 74)) (.cells cs 156))
  have Hb3 := Lib.hid (((bnew w (.cells (b.map (Value.int .i64)).toArray 74)).alloc (by simp) (.cells cs 156)).alloc (by simp; omega) (.cells (List.replicate 16 (Value.int .i64 0)).toArray 74))
  rw [World.size_alloc] at HS1
  clear hs hsz hb hr
  go_enter Tryz.func57, Tryz.ntmps57
  go_wp2_with (first | (go_at_call 88; fail) | (refine wpList_load_row_w rfl 156 (.tmp 3) rfl (w.heap.size + 1) rfl _ cs _ _ (by exact (heap_alloc_old _ _ (by simp)).trans HS1.out) Tryz.underlying156 rfl HF.out ?_))
  refine (HR.out _).mono ?_
  rintro e w1 ⟨rfl, hbb⟩
  have hb1 := bnext Hb3.out hbb
  have hB1 := ((HB0.out.alloc (.cells cs 156)).alloc (.cells (List.replicate 16 (Value.int .i64 0)).toArray 74)).below hbb (by simp; omega)
  have hS1 := (hbb.block (w.heap.size + 1) (by simp)).trans ((heap_alloc_old _ (.cells (List.replicate 16 (Value.int .i64 0)).toArray 74) (by simp)).trans HS1.out)
  have hZ1 := (Blk.new ((w.alloc (.cells (b.map (Value.int .i64)).toArray 74)).alloc (.cells cs 156)) 74 (List.replicate 16 (.int .i64 0))).below hbb (by simp)
  simp only [World.size_alloc] at hZ1
  have hsz1 := hbb.size
  simp at hsz1
  have Hb1 := Lib.hid hb1
  have HB1 := Lib.hid hB1
  have HZ1 := Lib.hid hZ1
  have HS1 := Lib.hid hS1
  clear hbb hb1 hB1 hS1 hZ1 HB0 Hb3
  go_wp2_with fail
  go_loopw [10] (fun i wr => ∃ (m : Nat), m ≤ 16 ∧ i = .int .i64 m ∧ Blk wr w.heap.size 74 ((valuesTo b s m).map (Value.int .i64)) ∧ wr.heap[w.heap.size + 1]? = some (.cells cs 156 (0, 0)) ∧ Blk wr (w.heap.size + 1 + 1) 74 (List.replicate 16 (.int .i64 0)) ∧ Below w.heap.size w wr ∧ w.heap.size + 3 ≤ wr.heap.size) (fun i _ => 16 - (intOf i).toNat)
  case atStart => exact ⟨0, by omega, rfl, by rw [valuesTo_zero s Hb.out]; exact HB1.out, HS1.out, HZ1.out, Hb1.out, by omega⟩
  case round =>
    obtain ⟨m, hm, rfl, hB, hS, hZ, hbel, hsz⟩ := hrel
    have HB := Lib.hid hB
    have HS := Lib.hid hS
    have HZ := Lib.hid hZ
    have Hbel := Lib.hid hbel
    by_cases hlt : m < 16
    · obtain ⟨x, hx⟩ := list_get (k := m) Hb.out hlt
      obtain ⟨q, hq⟩ : ∃ q, m / 4 = q := ⟨_, rfl⟩
      have hq4 : q < 4 := by omega
      obtain ⟨p, hp⟩ := list_get (k := q) Hs.out hq4
      have hpb := HQ.out q p hp
      obtain ⟨hp0, hp1⟩ := hpb
      obtain ⟨k, rfl⟩ := Int.eq_ofNat_of_zero_le hp0
      have HBand := Lib.hid (show ∀ W, Calls Tryz.prog 90 #[.int .i64 m] W fun e w' => e = .returned (.int .i64 (q : Int)) ∧ W = w' from fun W => (Band_any m W hlt).mono fun e w' ⟨he, hw⟩ => ⟨he.trans (ret_int (by omega)), hw⟩)
      have HNear := Lib.hid (fun W => Step_any k W (by omega))
      have hwr := step_wrap (Hr.out m x hx) (show k ≤ 23 by omega)
      have HSt := Lib.hid (show (valuesTo b s m).set m (x * 2 ^ k) = valuesTo b s (m + 1) by
        rw [← valuesTo_succ b s hlt, bgt_get hx, hq, bgt_get hp, Int.toNat_natCast])
      have hc1 := HC.out q _ hp
      have hc2 : ((valuesTo b s m).map (Value.int .i64))[m]? = some (.int .i64 x) := by rw [List.getElem?_map, valuesTo_get b s hlt (Nat.le_refl m) hx]; rfl
      have t1 : (m : Int) < 16 := by omega
      have hx5 := gw_blk hB
      have hy5 := gw_cells hS
      clear hx hq hp hp0 hB hS hZ hbel
      obtain ⟨s2, hs2⟩ : ∃ s2 : Int, (2 : Int) ^ k = s2 := ⟨_, rfl⟩
      rw [hs2] at HNear HSt hwr
      clear hs2
      go_wp2_with fail
      refine wp_region_calm_tail 10 (by kernel_rfl) (by kernel_rfl) ?_
      simp only [List.take_succ_cons, List.take_zero, List.drop_succ_cons, List.drop_zero]
      repeat (go_big_quiet_step ((first | (go_at_call 90; exact calm_same (HBand.out _)) | (go_at_call 89; exact calm_same (HNear.out _)))))
      refine wpQuiet_nil ?_
      intro w5 hw'
      have hb5 := gw_below hw'
      have hB5 := HB.out.below hb5 HB.out.lt
      have hZ5 := HZ.out.below hb5 HZ.out.lt
      have hS5 := (hb5.block (w.heap.size + 1) (by omega)).trans HS.out
      have HB5 := Lib.hid hB5
      have HZ5 := Lib.hid hZ5
      have HS5 := Lib.hid hS5
      have Hb5 := Lib.hid (bnext Hbel.out hb5)
      have hsz5 := Nat.le_trans hsz hb5.size
      have ce : w5.cell? ⟨w.heap.size, m, none⟩ = some (.int .i64 x) := by rw [hB5.cell]; exact hc2
      have fz := hB5.frozen m
      clear hw' hb5 hx5 hy5 hB5 hZ5 hS5
      go_wp2
      go_roundw
      case rel =>
        refine ⟨m + 1, by omega, by go_num, ?_, (Below.heap_setCell w5 ⟨w.heap.size, m, none⟩ _ (w.heap.size + 1) (by simp)).trans HS5.out, HZ5.out.far (by simp; omega) _, Hb5.out.setCell (by simp) _, by simp; omega⟩
        rw [← HSt.out, List.map_set]
        exact HB5.out.set_ m _
      case measure => simp [intOf]; omega
    · have hm16 : m = 16 := by omega
      subst hm16
      have t1 : ¬ (((16 : Nat) : Int) < 16) := by omega
      have hH := Lib.hid (show wr.heap[w.heap.size]? = some (.cells ((valuesTo b s 16).map (Value.int .i64)).toArray 74 (0, 0)) from HB.out)
      have hH2 := Lib.hid (show wr.heap[w.heap.size + 1 + 1]? = some (.cells (List.replicate 16 (Value.int .i64 0)).toArray 74 (0, 0)) from HZ.out)
      have H1 := Lib.hid (ints_one (valuesTo b s 16))
      have hsz2 : ((valuesTo b s 16).map (Value.int .i64)).toArray.size = 16 := by simp [valuesTo_len]
      obtain ⟨xs, hxs⟩ : ∃ xs, ((valuesTo b s 16).map (Value.int .i64)).toArray = xs := ⟨_, rfl⟩
      rw [hxs] at hH H1 hsz2
      have HE := Lib.hid hxs
      clear hxs
      have HF2 := Lib.hid (show (Tryz.prog.info? 74).map (·.size) = some xs.size by rw [hsz2]; exact inf_block)
      have Hsz := Lib.hid hsz2
      clear hsz2
      go_wp2_with (first | (refine wpList_load_row_w rfl 74 (.tmp 2) rfl w.heap.size rfl _ xs _ _ hH.out Tryz.underlying74 rfl HF2.out ?_) | (refine wpList_store_row_w rfl 74 (.tmp 4) (.tmp 24) rfl (w.heap.size + 1 + 1) rfl _ _ xs rfl hH2.out HF2.out (by rw [Hsz.out]; simp) H1.out ?_))
      refine bodyPost_ret (v := .agg xs) (results_cell_row Tryz.results57 _ _ (w.heap.size + 1 + 1) 74 xs (0, 0) _ rfl (setRow_at wr _ _ _ xs hH2.out) Tryz.underlying74 rfl HF2.out) rfl ?_
      exact ⟨by rw [← HE.out], setRow_below Hbel.out _ (by omega) _⟩

set_option maxRecDepth 100000 in
set_option maxHeartbeats 4000000 in
theorem Widths_any (b : List Int) (w : World) (hb : b.length = 16) (hr : BigB b) :
    Calls Tryz.prog 111 #[blockV b] w fun e w' => e = .returned (blockV (widthsZ b)) ∧ Below w.heap.size w w' := by
  unfold blockV
  have HC := Lib.hid (fun (k : Nat) (x : Int) (h : b[k]? = some x) => blk_get h)
  have hsz : (b.map (Value.int .i64)).toArray.size = 16 := by simp [hb]
  generalize (b.map (Value.int .i64)).toArray = cs at *
  have HF := Lib.hid (show (Tryz.prog.info? 74).map (·.size) = some cs.size by rw [hsz]; exact inf_block)
  have Hb := Lib.hid hb
  have Hr := Lib.hid hr
  have HB0 := Lib.hid (heap_alloc_new w (.cells cs 74))
  clear hsz hb hr
  go_enter Tryz.func111, Tryz.ntmps111
  go_wp2_with (refine wpList_load_row_w rfl 74 (.tmp 1) rfl w.heap.size rfl _ cs _ _ (by exact (heap_alloc_old _ _ (by simp only [World.size_alloc]; omega)).trans ((heap_alloc_old _ _ (by simp only [World.size_alloc]; omega)).trans HB0.out)) Tryz.underlying74 rfl HF.out ?_)
  go_loopw [7] (fun i wr => ∃ (m : Nat), m ≤ 16 ∧ i = .int .i64 m ∧ Blk wr (w.heap.size + 1) 75 (List.replicate 4 (.int .i64 0)) ∧ Blk wr (w.heap.size + 1 + 1) 75 ((widthsTo b m).map (Value.int .i64)) ∧ Below w.heap.size w wr ∧ w.heap.size + 3 ≤ wr.heap.size) (fun i _ => 16 - (intOf i).toNat)
  case atStart =>
    refine ⟨0, by omega, rfl, ?_, ?_, ((bnew _ _).alloc (by simp only [World.size_alloc]; omega) _).alloc (by simp only [World.size_alloc]; omega) _, by simp only [World.size_alloc]; omega⟩
    · have := (Blk.new (w.alloc (.cells cs 74)) 75 (List.replicate 4 (.int .i64 0))).alloc (.cells (List.replicate 4 (.int .i64 0)).toArray 75)
      rw [World.size_alloc] at this
      exact this
    · have := Blk.new ((w.alloc (.cells cs 74)).alloc (.cells (List.replicate 4 (.int .i64 0)).toArray 75)) 75 (List.replicate 4 (.int .i64 0))
      rw [World.size_alloc, World.size_alloc] at this
      exact this
  case round =>
    obtain ⟨m, hm, rfl, hZ, hB, hbel, hsz⟩ := hrel
    have HB := Lib.hid hB
    have HZ := Lib.hid hZ
    have Hbel := Lib.hid hbel
    by_cases hlt : m < 16
    · obtain ⟨x, hx⟩ := list_get (k := m) Hb.out hlt
      obtain ⟨q, hq⟩ : ∃ q, m / 4 = q := ⟨_, rfl⟩
      have hq4 : q < 4 := by omega
      have HBand := Lib.hid (show ∀ W, Calls Tryz.prog 90 #[.int .i64 m] W fun e w' => e = .returned (.int .i64 (q : Int)) ∧ W = w' from fun W => (Band_any m W hlt).mono fun e w' ⟨he, hw⟩ => ⟨he.trans (ret_int (by omega)), hw⟩)
      have hxb := Hr.out.get hx
      have HWd := Lib.hid (fun W => Width_any x W (by omega) (by omega))
      have HSt := Lib.hid (show (widthsTo b m).set q (max (widthTo b m q) (widthZ x) : Nat) = widthsTo b (m + 1) by
        rw [← widthsTo_succ b m hlt, bgt_get hx, hq])
      obtain ⟨V, hV⟩ : ∃ V : Nat, widthZ x = V := ⟨_, rfl⟩
      obtain ⟨U, hU⟩ : ∃ U : Nat, widthTo b m q = U := ⟨_, rfl⟩
      rw [hV] at HWd HSt
      rw [hU] at HSt
      have hc2 : ((widthsTo b m).map (Value.int .i64))[q]? = some (.int .i64 (U : Int)) := by rw [List.getElem?_map, widthsTo_get b m hq4, hU]; rfl
      have hix := run_index_arr (P := Tryz.prog) Tryz.underlying74 hlt (fun W => by kernel_rfl) (fun W => by kernel_rfl) (HC.out _ _ hx)
      have hmax : max (U : Int) (V : Int) = ((max U V : Nat) : Int) := by omega
      have t1 : (m : Int) < 16 := by omega
      have hx5 := gw_blk hB
      clear hx hq hB hZ hbel hV hU
      generalize max U V = M at *
      go_wp2_with fail
      refine wp_region_calm_tail 10 (by kernel_rfl) (by kernel_rfl) ?_
      simp only [List.take_succ_cons, List.take_zero, List.drop_succ_cons, List.drop_zero]
      repeat (go_big_quiet_step ((first | (go_at_call 90; exact calm_same (HBand.out _)) | (go_at_call 52; exact calm_same (HWd.out _)))))
      refine wpQuiet_nil ?_
      intro w5 hw'
      have hb5 := gw_below hw'
      have hB5 := HB.out.below hb5 HB.out.lt
      have hZ5 := HZ.out.below hb5 HZ.out.lt
      have HB5 := Lib.hid hB5
      have HZ5 := Lib.hid hZ5
      have Hb5 := Lib.hid (bnext Hbel.out hb5)
      have hsz5 := Nat.le_trans hsz hb5.size
      have ce : w5.cell? ⟨w.heap.size + 1 + 1, q, none⟩ = some (.int .i64 (U : Int)) := by rw [hB5.cell]; exact hc2
      have fz := hB5.frozen q
      clear hw' hb5 hx5 hB5 hZ5
      go_wp2
      go_roundw
      case rel =>
        refine ⟨m + 1, by omega, by go_num, HZ5.out.far (by simp) _, ?_, Hb5.out.setCell (by simp; omega) _, by simp; omega⟩
        rw [← HSt.out, List.map_set]
        exact HB5.out.set_ q _
      case measure => simp [intOf]; omega
    · have hm16 : m = 16 := by omega
      subst hm16
      have t1 : ¬ (((16 : Nat) : Int) < 16) := by omega
      have hH := Lib.hid (show wr.heap[w.heap.size + 1 + 1]? = some (.cells ((widthsTo b 16).map (Value.int .i64)).toArray 75 (0, 0)) from HB.out)
      have hH2 := Lib.hid (show wr.heap[w.heap.size + 1]? = some (.cells (List.replicate 4 (Value.int .i64 0)).toArray 75 (0, 0)) from HZ.out)
      have H1 := Lib.hid (ints_one (widthsTo b 16))
      have hsz2 : ((widthsTo b 16).map (Value.int .i64)).toArray.size = 4 := by simp [widthsTo_len]
      obtain ⟨xs, hxs⟩ : ∃ xs, ((widthsTo b 16).map (Value.int .i64)).toArray = xs := ⟨_, rfl⟩
      rw [hxs] at hH H1 hsz2
      have HE := Lib.hid hxs
      clear hxs
      have HF2 := Lib.hid (show (Tryz.prog.info? 75).map (·.size) = some xs.size by rw [hsz2]; exact inf_four)
      have Hsz := Lib.hid hsz2
      clear hsz2
      go_wp2_with (first | (refine wpList_load_row_w rfl 75 (.tmp 3) rfl (w.heap.size + 1 + 1) rfl _ xs _ _ hH.out Tryz.underlying75 rfl HF2.out ?_) | (refine wpList_store_row_w rfl 75 (.tmp 2) (.tmp 22) rfl (w.heap.size + 1) rfl _ _ xs rfl hH2.out HF2.out (by rw [Hsz.out]; simp) H1.out ?_))
      refine bodyPost_ret (v := .agg xs) (results_cell_row Tryz.results111 _ _ (w.heap.size + 1) 75 xs (0, 0) _ rfl (setRow_at wr _ _ _ xs hH2.out) Tryz.underlying75 rfl HF2.out) rfl ?_
      exact ⟨by rw [← HE.out]; rfl, setRow_below Hbel.out _ (by omega) _⟩

def subTo (a b : List Int) (m : Nat) : List Int := (List.range 16).map fun k => if k < m then bgt a k - bgt b k else 0
theorem subTo_zero (a b : List Int) : subTo a b 0 = List.replicate 16 0 := by simp [subTo, List.range, List.range.loop, List.replicate]
theorem subTo_succ (a b : List Int) {m : Nat} (hm : m < 16) : (subTo a b m).set m (bgt a m - bgt b m) = subTo a b (m + 1) := by
  refine range_map_set _ (fun k => if k < m + 1 then bgt a k - bgt b k else 0) hm ?_ (fun i hi => ?_)
  · rw [if_pos (by omega)]
  · by_cases h : i < m
    · rw [if_pos h, if_pos (by omega)]
    · rw [if_neg h, if_neg (by omega)]
theorem subTo_len (a b : List Int) (m : Nat) : (subTo a b m).length = 16 := by simp [subTo]
theorem subTo_get (a b : List Int) {m k : Nat} (hk : k < 16) (hm : m ≤ k) : (subTo a b m)[k]? = some 0 := by
  unfold subTo
  rw [range_map_get _ hk, if_neg (by omega)]
def QB (b : List Int) : Prop := ∀ (k : Nat) (x : Int), b[k]? = some x → -2305843009213693952 ≤ x ∧ x ≤ 2305843009213693952

def costTo (w : List Int) : Nat → Int
  | 0 => 0
  | m + 1 => costTo w m + 4 * bgt w m
set_option maxRecDepth 100000 in
set_option maxHeartbeats 1000000 in
theorem Cost_any (wd : List Int) (w : World) (hb : wd.length = 4) (hr : ∀ (k : Nat) (x : Int), wd[k]? = some x → 0 ≤ x ∧ x ≤ 1000) :
    Calls Tryz.prog 112 #[blockV wd] w fun e w' => e = .returned (.int .i64 (4 * (bgt wd 0 + bgt wd 1 + bgt wd 2 + bgt wd 3))) ∧ Below w.heap.size w w' := by
  unfold blockV
  have HC := Lib.hid (fun (k : Nat) (x : Int) (h : wd[k]? = some x) => blk_get h)
  have hsz : (wd.map (Value.int .i64)).toArray.size = 4 := by simp [hb]
  generalize (wd.map (Value.int .i64)).toArray = cs at *
  have HF := Lib.hid (show (Tryz.prog.info? 75).map (·.size) = some cs.size by rw [hsz]; exact inf_four)
  have Hb := Lib.hid hb
  have Hr := Lib.hid hr
  have HB0 := Lib.hid (heap_alloc_new w (.cells cs 75))
  clear hsz hb hr
  go_enter Tryz.func112, Tryz.ntmps112
  go_wp2_with (refine wpList_load_row_w rfl 75 (.tmp 1) rfl w.heap.size rfl _ cs _ _ HB0.out Tryz.underlying75 rfl HF.out ?_)
  go_loop [3, 7] (fun n i => ∃ (m : Nat), m ≤ 4 ∧ i = .int .i64 m ∧ n = .int .i64 (costTo wd m) ∧ 0 ≤ costTo wd m ∧ costTo wd m ≤ 4000 * (m : Int)) (fun _ i => 4 - (intOf i).toNat)
  case atStart => exact ⟨0, by omega, rfl, rfl, by simp [costTo], by simp [costTo]⟩
  case round =>
    obtain ⟨m, hm, rfl, rfl, h0, h1⟩ := hrel
    by_cases hlt : m < 4
    · obtain ⟨x, hx⟩ := list_get (k := m) Hb.out hlt
      have hxb := Hr.out m x hx
      have HS := Lib.hid (show costTo wd (m + 1) = costTo wd m + 4 * x by rw [← bgt_get hx]; rfl)
      have hix := run_index_arr (P := Tryz.prog) Tryz.underlying75 hlt (fun W => by kernel_rfl) (fun W => by kernel_rfl) (HC.out _ _ hx)
      have t1 : (m : Int) < 4 := by omega
      generalize costTo wd m = C at *
      clear hx
      go_wp2
      go_round
      case rel => exact ⟨m + 1, by omega, by go_num, val_int (by rw [HS.out]), by rw [HS.out]; omega, by rw [HS.out]; omega⟩
      case measure => simp [intOf]; omega
    · have hm4 : m = 4 := by omega
      subst hm4
      have t1 : ¬ (((4 : Nat) : Int) < 4) := by omega
      have HE := Lib.hid (show costTo wd 4 = 4 * (bgt wd 0 + bgt wd 1 + bgt wd 2 + bgt wd 3) by unfold costTo costTo costTo costTo costTo; omega)
      go_wp2
      go_ret
      exact ⟨ret_int HE.out, bnew _ _⟩
end Go.Proofs.YtbgkoopfdfnmcaaGreat
