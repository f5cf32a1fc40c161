/- Contract of layer 11's law's ahead; conditions: as each theorem states. -/
import Derived.Test.YthlidkdclhibpaaToneB
namespace Go.Proofs.Ythlidkdclhibpaa
open Go.RowKit

/-- is a tone greater than another number, or alike and ahead of it? -/
def aheadB (b : List Int) (i k : Nat) : Bool := isTone b (k : Int) && (decide (absZ (bgt b i) < absZ (bgt b k)) || (decide (absZ (bgt b k) = absZ (bgt b i)) && decide (k < i)))
def aheadTo (b : List Int) (i m : Nat) : Nat := ((List.range m).filter (aheadB b i)).length
def aheadZ (b : List Int) (i : Nat) : Nat := aheadTo b i 16
theorem aheadTo_succ (b : List Int) (i m : Nat) : aheadTo b i (m + 1) = aheadTo b i m + if aheadB b i m = true then 1 else 0 := by
  unfold aheadTo
  rw [List.range_succ, List.filter_append, List.length_append]
  cases h : aheadB b i m <;> simp [h]
theorem aheadTo_le (b : List Int) (i m : Nat) : aheadTo b i m ≤ m := by
  unfold aheadTo
  have := List.length_filter_le (aheadB b i) (List.range m)
  simpa using this

set_option maxRecDepth 100000 in
set_option maxHeartbeats 4000000 in
theorem lawahead_any (b : List Int) (n : Nat) (w : World) (hb : b.length = 16) (hr : BigB b) (hn : n < 16) :
    Calls Try.prog 53 #[blockV b, .int .i64 n] w fun e w' => e = .returned (.int .i64 (aheadZ b n)) ∧ Below w.heap.size w w' := by
  obtain ⟨x, hx⟩ := list_get (k := n) hb hn
  have hxb := hr _ _ hx
  have hab := absZ_bd hxb
  have HX := Lib.hid (bgt_get hx)
  have HSx := Lib.hid (fun W => lawsize_any x W (by omega))
  obtain ⟨y, hy⟩ : ∃ y, absZ x = y := ⟨_, rfl⟩
  have HI := Lib.hid (fun (i : Int) W => lawis_any b i W hb hr)
  rw [hy] at hab HSx
  have Hy := Lib.hid hy
  unfold blockV at HI ⊢
  have HC := Lib.hid (fun (k : Nat) (x : Int) (h : b[k]? = some x) => blk_get h)
  have hc := blk_get hx
  have hsz : (b.map (Value.int .i64)).toArray.size = 16 := by simp [hb]
  generalize (b.map (Value.int .i64)).toArray = cs at *
  have HF := Lib.hid (show (Try.prog.info? 83).map (·.size) = some cs.size by rw [hsz]; exact inf_block)
  have Hb := Lib.hid hb
  have HR := Lib.hid hr
  have hB := Lib.hid (heap_alloc_new w (.cells cs 83))
  clear hx hy hb hr hsz
  go_enter Try.func53, Try.ntmps53
  go_wp2
  go_loopw [5, 6] (fun c k wr => ∃ (m z : Nat), m ≤ 16 ∧ z ≤ m ∧ z = aheadTo b n m ∧ c = .int .i64 z ∧ k = .int .i64 m ∧ Below (w.heap.size + 1) (w.alloc (.cells cs 83)) wr) (fun _ k _ => (16 - (intOf k)).toNat)
  case atStart => exact ⟨0, 0, by omega, by omega, rfl, rfl, by go_num, Below.refl _ _⟩
  case round =>
    obtain ⟨m, z, hm, hzm, hz, rfl, rfl, hbel⟩ := hrel
    have Hz := Lib.hid hz
    have Hbel := Lib.hid hbel
    have hB2 := Lib.hid ((hbel.block w.heap.size (by omega)).trans hB.out)
    clear hz hbel
    by_cases hlt : m < 16
    · have t1 : (m : Int) < 16 := by omega
      obtain ⟨x2, hx2⟩ := list_get (k := m) Hb.out (by omega)
      have hc2 := HC.out _ _ hx2
      have hxb2 := HR.out _ _ hx2
      have hab2 := absZ_bd hxb2
      have HSx2 := Lib.hid (fun W => lawsize_any x2 W (by omega))
      obtain ⟨T, hT⟩ : ∃ T, isTone b (m : Int) = T := ⟨_, rfl⟩
      obtain ⟨u, hu⟩ : ∃ u, absZ x2 = u := ⟨_, rfl⟩
      have HIm := Lib.hid (HI.out (m : Int))
      rw [hT] at HIm
      have HS := Lib.hid (show aheadTo b n (m + 1) = z + if (T && (decide (y < u) || (decide (u = y) && decide (m < n)))) = true then 1 else 0 by
        rw [aheadTo_succ, Hz.out]; unfold aheadB; rw [bgt_get hx2, HX.out, Hy.out, hu, hT])
      rw [hu] at hab2 HSx2
      clear hx2 hu hT
      have hx5 := gw_cells hB2.out
      cases T
      · have HS2 := Lib.hid (show aheadTo b n (m + 1) = z by rw [HS.out]; simp)
        go_wp2
        refine wp_region_calm (by kernel_rfl) (by kernel_rfl) ?_
        repeat (first | (go_big_quiet_want; refine quiet_load_row 83 (.tmp 2) rfl w.heap.size rfl _ cs _ _ (gw_heap hB2.out) Try.underlying83 rfl HF.out ?_; go_simp; go_big_quiet_on) | go_big_quiet_step ((first | (go_at_call 51; exact calm_call (HIm.out _)) | (first | (go_at_call_of 80 (Value.int .i64 x); exact calm_same (HSx.out _)) | (go_at_call_of 80 (Value.int .i64 x2); exact calm_same (HSx2.out _))))))
        refine wpQuiet_nil ?_
        intro w5 hw'
        have hb5 := gw_below hw'
        have Hb5 := Lib.hid (btail Hbel.out (by simp) hb5)
        clear hw' hb5 hx5
        go_wp2
        go_roundw
        case rel => exact ⟨m + 1, z, by omega, by omega, HS2.out.symm, rfl, by go_num, Hb5.out⟩
        case measure => simp [intOf]; omega
      · by_cases h1 : y < u
        · have t2 : decide (y < u) = true := decide_eq_true h1
          have HS2 := Lib.hid (show aheadTo b n (m + 1) = z + 1 by rw [HS.out]; rw [decide_eq_true h1]; simp)
          go_wp2
          refine wp_region_calm (by kernel_rfl) (by kernel_rfl) ?_
          repeat (first | (go_big_quiet_want; refine quiet_load_row 83 (.tmp 2) rfl w.heap.size rfl _ cs _ _ (gw_heap hB2.out) Try.underlying83 rfl HF.out ?_; go_simp; go_big_quiet_on) | go_big_quiet_step ((first | (go_at_call 51; exact calm_call (HIm.out _)) | (first | (go_at_call_of 80 (Value.int .i64 x); exact calm_same (HSx.out _)) | (go_at_call_of 80 (Value.int .i64 x2); exact calm_same (HSx2.out _))))))
          refine wpQuiet_nil ?_
          intro w5 hw'
          have hb5 := gw_below hw'
          have Hb5 := Lib.hid (btail Hbel.out (by simp) hb5)
          clear hw' hb5 hx5
          go_wp2
          go_roundw
          case rel => exact ⟨m + 1, z + 1, by omega, by omega, HS2.out.symm, by go_num, by go_num, Hb5.out⟩
          case measure => simp [intOf]; omega
        · have t2 : decide (y < u) = false := decide_eq_false h1
          by_cases h2 : u = y
          · have t3 : (u == y) = true := beq_iff_eq.2 h2
            have H2 := Lib.hid h2
            clear h2
            by_cases h3 : m < n
            · have t4 : (m : Int) < (n : Int) := by omega
              have t5 : decide ((m : Int) < (n : Int)) = true := decide_eq_true t4
              have HS2 := Lib.hid (show aheadTo b n (m + 1) = z + 1 by rw [HS.out]; rw [decide_eq_true H2.out, decide_eq_true h3]; simp)
              go_wp2
              refine wp_region_calm (by kernel_rfl) (by kernel_rfl) ?_
              repeat (first | (go_big_quiet_want; refine quiet_load_row 83 (.tmp 2) rfl w.heap.size rfl _ cs _ _ (gw_heap hB2.out) Try.underlying83 rfl HF.out ?_; go_simp; go_big_quiet_on) | go_big_quiet_step ((first | (go_at_call 51; exact calm_call (HIm.out _)) | (first | (go_at_call_of 80 (Value.int .i64 x); exact calm_same (HSx.out _)) | (go_at_call_of 80 (Value.int .i64 x2); exact calm_same (HSx2.out _))))))
              refine wpQuiet_nil ?_
              intro w5 hw'
              have hb5 := gw_below hw'
              have Hb5 := Lib.hid (btail Hbel.out (by simp) hb5)
              clear hw' hb5 hx5
              go_wp2
              go_roundw
              case rel => exact ⟨m + 1, z + 1, by omega, by omega, HS2.out.symm, by go_num, by go_num, Hb5.out⟩
              case measure => simp [intOf]; omega
            · have t4 : ¬ (m : Int) < (n : Int) := by omega
              have t5 : decide ((m : Int) < (n : Int)) = false := decide_eq_false t4
              have HS2 := Lib.hid (show aheadTo b n (m + 1) = z + 0 by rw [HS.out]; rw [decide_eq_false h1, decide_eq_false h3]; simp)
              go_wp2
              refine wp_region_calm (by kernel_rfl) (by kernel_rfl) ?_
              repeat (first | (go_big_quiet_want; refine quiet_load_row 83 (.tmp 2) rfl w.heap.size rfl _ cs _ _ (gw_heap hB2.out) Try.underlying83 rfl HF.out ?_; go_simp; go_big_quiet_on) | go_big_quiet_step ((first | (go_at_call 51; exact calm_call (HIm.out _)) | (first | (go_at_call_of 80 (Value.int .i64 x); exact calm_same (HSx.out _)) | (go_at_call_of 80 (Value.int .i64 x2); exact calm_same (HSx2.out _))))))
              refine wpQuiet_nil ?_
              intro w5 hw'
              have hb5 := gw_below hw'
              have Hb5 := Lib.hid (btail Hbel.out (by simp) hb5)
              clear hw' hb5 hx5
              go_wp2
              go_roundw
              case rel => exact ⟨m + 1, z, by omega, by omega, HS2.out.symm, rfl, by go_num, Hb5.out⟩
              case measure => simp [intOf]; omega
          · have t3 : (u == y) = false := beq_eq_false_iff_ne.2 h2
            have HS2 := Lib.hid (show aheadTo b n (m + 1) = z + 0 by rw [HS.out]; rw [decide_eq_false h1, decide_eq_false h2]; simp)
            go_wp2
            refine wp_region_calm (by kernel_rfl) (by kernel_rfl) ?_
            repeat (first | (go_big_quiet_want; refine quiet_load_row 83 (.tmp 2) rfl w.heap.size rfl _ cs _ _ (gw_heap hB2.out) Try.underlying83 rfl HF.out ?_; go_simp; go_big_quiet_on) | go_big_quiet_step ((first | (go_at_call 51; exact calm_call (HIm.out _)) | (first | (go_at_call_of 80 (Value.int .i64 x); exact calm_same (HSx.out _)) | (go_at_call_of 80 (Value.int .i64 x2); exact calm_same (HSx2.out _))))))
            refine wpQuiet_nil ?_
            intro w5 hw'
            have hb5 := gw_below hw'
            have Hb5 := Lib.hid (btail Hbel.out (by simp) hb5)
            clear hw' hb5 hx5
            go_wp2
            go_roundw
            case rel => exact ⟨m + 1, z, by omega, by omega, HS2.out.symm, rfl, by go_num, Hb5.out⟩
            case measure => simp [intOf]; omega
    · have hm16 := Lib.hid (show m = 16 by omega)
      have t1 : ¬ ((m : Int) < 16) := by omega
      go_wp2
      go_ret
      exact ⟨ret_int (by rw [Hz.out, hm16.out]; rfl), (bnew _ _).trans (Hbel.out.mono (by omega))⟩
end Go.Proofs.Ythlidkdclhibpaa
