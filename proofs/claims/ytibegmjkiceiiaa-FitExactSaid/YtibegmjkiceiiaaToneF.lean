/- Contract of layer 11's Find; conditions: as each theorem states. -/
import Derived.Test.YtibegmjkiceiiaaToneE
import Derived.Test.YtibegmjkiceiiaaKitE
namespace Go.Proofs.Ytibegmjkiceiiaa
open Go.RowKit

def toneCells (ts : List ToneV) : List Value := (ts.map ToneV.cells).flatten
theorem inf_tone : (Try.prog.info? 173).map (fun i => (i.zero, i.size, i.bytes)) = some (some (.agg #[.int .i64 0, .int .i64 0]), 2, 16) := by kernel_rfl
theorem bt_cells (ts : List BTone) : (ts.map BTone.cells).flatten = toneCells (ts.map BTone.t) := by
  unfold toneCells; rw [List.map_map]; rfl
theorem bt_ones (ts : List BTone) : ∀ u ∈ (ts.map BTone.cells).flatten, u.oneCell' = true := by
  intro u hu
  obtain ⟨cs, hcs, hu⟩ := List.mem_flatten.1 hu
  obtain ⟨z, _, rfl⟩ := List.mem_map.1 hcs
  exact bt_one z u hu
def TonesPost (W : World) (ts : List ToneV) (e : Ending) (w' : World) : Prop := ∃ A c, e = .returned (.slice A ts.length c) ∧ ts.length ≤ c ∧ c ≤ 9223372036854775807 ∧ (ts = [] ∨ ∃ g, A = some ⟨g, 0, none⟩ ∧ W.heap.size ≤ g) ∧ Row w' w'.heap.size A (toneCells ts) ∧ Below W.heap.size W w'

set_option maxRecDepth 100000 in
set_option maxHeartbeats 4000000 in
theorem toneFind_any (b : List Int) (w : World) (hb : b.length = 16) (hr : BigB b) :
    Calls Try.prog 97 #[blockV b] w (TonesPost w (findT b)) := by
  obtain ⟨i0, hi, hz0, hz1, hz2⟩ := info_parts inf_tone
  have HIs := Lib.hid (fun (i : Int) W => toneIs_any b i W hb hr)
  have HS := Lib.hid (sorted_twice b)
  unfold blockV at HIs ⊢
  have HC := Lib.hid (fun (k : Nat) (x : Int) (h : b[k]? = some x) => blk_get h)
  have hsz : (b.map (Value.int .i64)).toArray.size = 16 := by simp [hb]
  generalize (b.map (Value.int .i64)).toArray = cs at *
  have HF := Lib.hid (show (Try.prog.info? 66).map (·.size) = some cs.size by rw [hsz]; exact inf_block)
  have Hb := Lib.hid hb
  have HR := Lib.hid hr
  have hB := Lib.hid (heap_alloc_new w (.cells cs 66))
  clear hb hr hsz
  go_enter Try.func97, Try.ntmps97
  go_wp2_with (first | fail | (refine wpList_load_row_w rfl 66 (.tmp 1) rfl w.heap.size rfl _ cs _ _ hB.out Try.underlying66 rfl HF.out ?_))
  go_loopw [3, 7] (fun o i wr => ∃ (m : Nat) (ts : List BTone) (A : Option Addr) (c : Nat), m ≤ 16 ∧ i = .int .i64 m ∧ ts.map BTone.t = tonesTo b m ∧ ts.length ≤ m ∧ o = .slice A ts.length c ∧ c ≤ 9223372036854775807 ∧
      wr.ownsRow (w.heap.size + 1) 173 2 (.slice A ts.length c) ts.length ((ts.map BTone.cells).flatten) ∧ Below (w.heap.size + 1) (w.alloc (.cells cs 66)) wr) (fun _ i _ => (16 - intOf i).toNat)
  case atStart => exact ⟨0, [], none, 0, by omega, by go_num, rfl, by simp, rfl, by omega, World.ownsRow_nil _ _ _ _, Below.refl _ _⟩
  case round =>
    obtain ⟨m, ts, A, c, hm, rfl, hts, hlen, rfl, hc63, hown, hbel⟩ := hrel
    have Hts := Lib.hid hts
    have Hown := Lib.hid hown
    have Hbel := Lib.hid hbel
    have Hge := Lib.hid (own_block_ge hown)
    have hsz1 : w.heap.size + 1 ≤ wr.heap.size := by have := hbel.size; simp at this; omega
    have hB2 := Lib.hid ((hbel.block w.heap.size (by omega)).trans hB.out)
    clear hts hown hbel
    by_cases hlt : m < 16
    · have t1 : (m : Int) < 16 := by omega
      obtain ⟨x, hx⟩ := list_get (k := m) Hb.out (by omega)
      have hc2 := HC.out _ _ hx
      have hxb := HR.out _ _ hx
      obtain ⟨T, hT⟩ : ∃ T, isTone b (m : Int) = T := ⟨_, rfl⟩
      have HIm := Lib.hid (HIs.out (m : Int))
      rw [hT] at HIm
      have HTS := Lib.hid (tonesTo_succ b m)
      rw [hT] at HTS
      have hx2 := Lib.hid (bgt_get hx)
      have hix := run_index_arr (P := Try.prog) Try.underlying66 hlt (fun W => by kernel_rfl) (fun W => by kernel_rfl) hc2
      clear hx hT
      cases T
      · go_wp2_with (first | (go_at_call 158; refine (HIm.out _).mono ?_; rintro e w1 ⟨rfl, hb1⟩) | (refine wpList_load_row_w rfl 66 (.tmp 1) rfl w.heap.size rfl _ cs _ _ hB2.out Try.underlying66 rfl HF.out ?_))
        go_roundw
        case rel => exact ⟨m + 1, ts, A, c, by omega, by go_num, by rw [HTS.out, ← Hts.out]; simp, by omega, rfl, hc63, own_below Hown.out hb1, btail Hbel.out (by simp) hb1⟩
        case measure => simp [intOf]; omega
      · go_wp2_with (first | (go_at_call 158; refine (HIm.out _).mono ?_; rintro e w1 ⟨rfl, hb1⟩; have own1 := own_below Hown.out hb1; have hsz2 := Nat.le_trans hsz1 hb1.size) | (at_builtin; refine wpList_app _ rfl (.tmp 14) (.tmp 18) 69 rfl (w.heap.size + 1) 173 i0 _ 2 16 Try.underlying69 hi hz0 hz1 hz2 rfl (by omega) _ ts.length ((ts.map BTone.cells).flatten) rfl (own1.alloc _) (w1.heap.size + 1) (some ⟨w1.heap.size, 0, none⟩) 1 1 [.int .i64 m, .int .i64 x] rfl rfl (Row.new w1 _ _) (by intro u hu; simp at hu; rcases hu with rfl | rfl <;> rfl) (by omega) (by omega) (by simp; omega) ?_; intro A2 cc w2 hown2 hgrow hat hcc) | (refine wpList_load_row_w rfl 66 (.tmp 1) rfl w.heap.size rfl _ cs _ _ hB2.out Try.underlying66 rfl HF.out ?_))
        go_roundw
        case rel =>
          have hb2 : Below (w.heap.size + 1) (w.alloc (.cells cs 66)) w2 := ((btail Hbel.out (by simp) hb1).alloc (by omega) _).grown hgrow (by simp; omega) (fun g h => Hge.out g h)
          refine ⟨m + 1, ts ++ [⟨⟨m, x⟩, by unfold ToneV.big; simp only; omega⟩], A2, cc, by omega, by go_num, by rw [HTS.out, ← Hts.out, List.map_append]; unfold toneAt; rw [hx2.out]; rfl, by simp; omega, by simp, own_cap hown2, ?_, hb2⟩
          rw [List.length_append, List.map_append, List.flatten_append]
          exact hown2
        case measure => simp [intOf]; omega
    · have hm16 : m = 16 := by omega
      subst hm16
      have HSS := Lib.hid (HS.out ts Hts.out)
      have Hl := Lib.hid (sortL_len (ltOf cmpLoud) swo_loud ts)
      have HQ := Lib.hid (stableT_any cmpLoud 160 swo_loud loud_lays (fun args w => by kernel_rfl) ts A c (w.heap.size + 1) wr (holds_own bt_len (by omega) Hown.out) (by omega))
      have hlc := own_len Hown.out
      obtain ⟨A', c', he, _, hnil⟩ := own_form Hown.out
      injection he with he1 _ he3
      subst he1 he3
      clear hlt HS HIs HC
      have HS1 := Lib.hid (show (sortL (ltOf cmpLoud) ts).length = ts.length from sortL_len (ltOf cmpLoud) swo_loud ts)
      generalize sortL (ltOf cmpLoud) ts = S at *
      obtain ⟨n, hn⟩ : ∃ n, ts.length = n := ⟨_, rfl⟩
      rw [hn] at HQ HS1 hlen hlc hnil ⊢
      have Hn := Lib.hid hn
      have hsz2 := hsz1
      clear hn Hl Hown
      go_wp2_with fail
      refine HQ.out.mono ?_
      rintro e w1 ⟨rfl, hh1, hb1⟩
      have Hh1 := Lib.hid (holds_take bt_len hh1 2)
      have Hb1 := Lib.hid hb1
      have hl2 : (S.take 2).length = min n 2 := by rw [List.length_take, HS1.out]; omega
      have HR1 := Lib.hid (show (sortL (ltOf cmpIdx) (S.take 2)).length = (S.take 2).length from sortL_len (ltOf cmpIdx) swo_idx (S.take 2))
      have HQ2 := Lib.hid (sortT_any cmpIdx 162 swo_idx idx_lays (fun args w => by kernel_rfl) (S.take 2) A c (w.heap.size + 1) w1 Hh1.out (by omega))
      rw [hl2] at HQ2 HR1
      clear hh1 hb1 HQ hl2
      generalize sortL (ltOf cmpIdx) (S.take 2) = R at *
      have hRl : (findT b).length = min n 2 := by rw [← HSS.out, List.length_map]; exact HR1.out
      have HRl := Lib.hid hRl
      clear hRl
      have fin : ∀ w2, HoldsT BTone.cells 2 (w.heap.size + 1) w2 A R → Below (w.heap.size + 1) w1 w2 → min n 2 ≤ c → TonesPost w (findT b) (.returned (.slice A (min n 2) c)) w2 := by
        intro w2 hh2 hb2 hle
        refine ⟨A, c, by rw [HRl.out], by rw [HRl.out]; exact hle, hc63, ?_, ?_, ?_⟩
        · rcases hh2 with h0 | ⟨g, hg, hB, _⟩
          · exact .inl (by rw [← HSS.out, h0]; rfl)
          · exact .inr ⟨g, hg, by omega⟩
        · have := holds_row bt_len hh2
          rw [bt_cells, HSS.out] at this
          exact this
        · exact (bnew _ _).trans (((Hbel.out.trans Hb1.out).trans hb2).mono (by omega))
      have Fin := Lib.hid fin
      clear fin
      rcases A with _ | ad
      · obtain ⟨hn0, hc0⟩ := hnil rfl
        subst hn0 hc0
        rw [show min 0 2 = 0 by rfl] at HQ2 Fin
        clear hnil
        have hm : (min (0 : Int) 2).toNat = 0 := rfl
        go_wp2_with fail
        refine HQ2.out.mono ?_
        rintro e w2 ⟨rfl, hh2, hb2⟩
        have HF2 := Lib.hid (Fin.out w2 hh2 hb2 (by omega))
        clear hh2 hb2
        go_wp2_with fail
        go_ret
        exact HF2.out
      · clear hnil
        by_cases h2 : n ≤ 2
        · rw [show min n 2 = n by omega] at HQ2 Fin
          have t1 : ¬ 2 < n := by omega
          have hm : min (n : Int) 2 = (n : Int) := by omega
          go_wp2_with fail
          refine HQ2.out.mono ?_
          rintro e w2 ⟨rfl, hh2, hb2⟩
          have HF2 := Lib.hid (Fin.out w2 hh2 hb2 (by omega))
          clear hh2 hb2
          go_wp2_with fail
          go_ret
          exact HF2.out
        · rw [show min n 2 = 2 by omega] at HQ2 Fin
          have t1 : 2 < n := by omega
          have hm : min (n : Int) 2 = 2 := by omega
          go_wp2_with fail
          refine HQ2.out.mono ?_
          rintro e w2 ⟨rfl, hh2, hb2⟩
          have HF2 := Lib.hid (Fin.out w2 hh2 hb2 (by omega))
          clear hh2 hb2
          go_wp2_with fail
          go_ret
          exact HF2.out
end Go.Proofs.Ytibegmjkiceiiaa
