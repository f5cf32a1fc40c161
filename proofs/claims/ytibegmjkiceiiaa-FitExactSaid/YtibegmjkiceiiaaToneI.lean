/- Contract of layer 11's Out; conditions: as each theorem states. -/
import Derived.Test.YtibegmjkiceiiaaToneH
namespace Go.Proofs.Ytibegmjkiceiiaa
open Go.RowKit

def outStep (b : List Int) (t : ToneV) : List Int := if 0 ≤ t.idx ∧ t.idx < 16 then b.set t.idx.toNat (bgt b t.idx.toNat - t.val) else b
def outT (b : List Int) (ts : List ToneV) : List Int := ts.foldl outStep b
theorem outStep_len (b : List Int) (t : ToneV) : (outStep b t).length = b.length := by unfold outStep; split <;> simp
theorem outT_len (b : List Int) : ∀ (ts : List ToneV), (outT b ts).length = b.length := by
  intro ts
  unfold outT
  induction ts generalizing b with
  | nil => rfl
  | cons t r ih => rw [List.foldl_cons, ih, outStep_len]
theorem outT_succ (b : List Int) {ts : List ToneV} {m : Nat} {t : ToneV} (h : ts[m]? = some t) : outT b (ts.take (m + 1)) = outStep (outT b (ts.take m)) t := by
  obtain ⟨hm, rfl⟩ := List.getElem?_eq_some_iff.1 h
  unfold outT
  rw [List.take_succ_eq_append_getElem hm, List.foldl_append]
  rfl
theorem Blk.of_heap {w : World} {g : Nat} {t : TypeId} {cs : List Value} (h : w.heap[g]? = some (.cells cs.toArray t (0, 0))) : Blk w g t cs := h

set_option maxRecDepth 100000 in
set_option maxHeartbeats 4000000 in
theorem toneOut_any (b : List Int) (ts : List ToneV) (A : Option Addr) (cap : Nat) (w : World) (hb : b.length = 16) (hl : ts.length ≤ 1000000) (hr : Row w w.heap.size A (toneCells ts))
    (hbig : ∀ m, m ≤ ts.length → BigB (outT b (ts.take m))) (hv : ∀ t ∈ ts, t.big) :
    Calls Try.prog 98 #[blockV b, .slice A ts.length cap] w fun e w' => e = .returned (blockV (outT b ts)) ∧ Below w.heap.size w w' := by
  unfold blockV
  obtain ⟨n, hn⟩ : ∃ n, ts.length = n := ⟨_, rfl⟩
  have Hr := Lib.hid hr
  have Hbig := Lib.hid hbig
  have Hv := Lib.hid hv
  have Hb := Lib.hid hb
  have hsz : (b.map (Value.int .i64)).toArray.size = 16 := by simp [hb]
  have HB0 := Lib.hid (Blk.new w 66 (b.map (Value.int .i64)))
  rw [hn] at hl ⊢
  have Hn := Lib.hid hn
  clear hr hbig hv hb hn
  go_enter Try.func98, Try.ntmps98
  go_wp2_with fail
  go_loopw [9] (fun i wr => ∃ (m : Nat), m ≤ n ∧ i = .int .i64 m ∧ Blk wr w.heap.size 66 ((outT b (ts.take m)).map (Value.int .i64)) ∧ Blk wr (w.heap.size + 1) 66 (List.replicate 16 (.int .i64 0)) ∧ Below w.heap.size w wr) (fun i _ => n - (intOf i).toNat)
  case atStart => exact ⟨0, by omega, rfl, HB0.out.alloc _, Blk.new2 w _ 66 (List.replicate 16 (.int .i64 0)), (bnew _ _).alloc (by simp) _⟩
  case round =>
    obtain ⟨m, hm, rfl, hB, hZ, hbel⟩ := hrel
    have HB := Lib.hid hB
    have HZ := Lib.hid hZ
    have Hbel := Lib.hid hbel
    have hcl := outT_len b (ts.take m)
    rw [Hb.out] at hcl
    have hcb := Hbig.out m (by rw [Hn.out]; exact hm)
    have HO := Lib.hid (fun (t : ToneV) (h : ts[m]? = some t) => outT_succ b h)
    have HL := Lib.hid (show m = n → outT b (ts.take m) = outT b ts from fun h => by rw [List.take_of_length_le (by rw [Hn.out]; omega)])
    generalize outT b (ts.take m) = cur at *
    have Hcl := Lib.hid hcl
    have Hcb := Lib.hid hcb
    clear hB hZ hbel hcl hcb hsz
    by_cases hlt : m < n
    · obtain ⟨t, ht⟩ := list_get (k := m) Hn.out hlt
      have HS := Lib.hid (HO.out t ht)
      have hb2 := Hbig.out (m + 1) (by rw [Hn.out]; omega)
      rw [HS.out] at hb2
      have htv := Hv.out t (List.mem_of_getElem? ht)
      obtain ⟨g, off, hA, hg, k0, k1⟩ := tone_row Hr.out ht
      have c0 := (Hbel.out.cell (p := ⟨g, off + m * 2, none⟩) hg).trans k0
      have c1 := (Hbel.out.cell (p := ⟨g, off + m * 2 + 1, none⟩) hg).trans k1
      subst hA
      obtain ⟨ix, vl⟩ := t
      obtain ⟨⟨v1, v2⟩, v3, v4⟩ := htv
      simp only at c0 c1 v1 v2 v3 v4
      clear ht k0 k1
      by_cases hi : 0 ≤ ix ∧ ix < 16
      · obtain ⟨i1, i2⟩ := hi
        obtain ⟨j, rfl⟩ := Int.eq_ofNat_of_zero_le i1
        have hj : j < 16 := by omega
        obtain ⟨x, hx⟩ := list_get (k := j) Hcl.out hj
        have hxb := Hcb.out _ _ hx
        have HS2 := Lib.hid (show outStep cur ⟨(j : Int), vl⟩ = cur.set j (x - vl) by
          unfold outStep; simp only; rw [if_pos ⟨i1, i2⟩, Int.toNat_natCast, bgt_get hx])
        rw [HS2.out] at hb2
        have hrb := hb2 j (x - vl) (by rw [List.getElem?_set_self (by rw [Hcl.out]; exact hj)])
        have hwr : IntKind.i64.wrap (x - vl) = x - vl := IntWalk.i64_in _ (by omega)
        clear hb2
        have hcx : (cur.map (Value.int .i64)).toArray[j]? = some (.int .i64 x) := blk_get hx
        clear hx
        have t1 : (0 : Int) ≤ (j : Int) := i1
        have t2 : (j : Int) < 16 := i2
        have hB1 := (HB.out.alloc (.cells #[.int .i64 (j : Int), .int .i64 vl] 173))
        have hN1 := Blk.new wr 173 [.int .i64 (j : Int), .int .i64 vl]
        have HB1 := Lib.hid hB1
        have HN1 := Lib.hid hN1
        have hx5 := gw_cells hB1
        have hy5 := gw_blk hN1
        clear hB1 hN1
        go_wp2_with fail
        refine wp_region_calm_tail 8 (by kernel_rfl) (by kernel_rfl) ?_
        simp only [List.take_succ_cons, List.take_zero, List.drop_succ_cons, List.drop_zero]
        repeat (go_big_quiet_step (fail))
        refine wpQuiet_nil ?_
        intro w5 hw'
        have hb5 := gw_below hw'
        have hB5 := HB1.out.below hb5 (by have := HB.out.lt; simp; omega)
        have hZ5 := (HZ.out.alloc (.cells #[.int .i64 (j : Int), .int .i64 vl] 173)).below hb5 (by have := HZ.out.lt; simp; omega)
        have HB5 := Lib.hid hB5
        have HZ5 := Lib.hid hZ5
        have Hb5 := Lib.hid (Hbel.out.trans (((bnew wr _).trans (hb5.mono (by simp))).mono Hbel.out.size))
        have ce : w5.cell? ⟨w.heap.size, j, none⟩ = some (.int .i64 x) := by rw [hB5.cell]; simpa using hcx
        have fz := hB5.frozen j
        clear hw' hb5 hx5 hy5 hB5 hZ5
        go_wp2
        go_roundw
        case rel =>
          refine ⟨m + 1, by omega, by go_num, ?_, HZ5.out.far (by simp) _, Hb5.out.setCell (by simp) _⟩
          rw [HS.out, HS2.out, List.map_set]
          exact HB5.out.set_ j _
        case measure => simp [intOf]; omega
      · have HS2 := Lib.hid (show outStep cur ⟨ix, vl⟩ = cur by unfold outStep; simp only; rw [if_neg hi])
        have hi2 : ix < 0 ∨ 16 ≤ ix := by omega
        clear hi hb2
        rcases hi2 with hi2 | hi2
        · have t1 : ¬ ((0 : Int) ≤ ix) := by omega
          have t2 : decide ((0 : Int) ≤ ix) = false := decide_eq_false t1
          go_wp2
          go_roundw
          case rel => exact ⟨m + 1, by omega, by go_num, by rw [HS.out, HS2.out]; exact HB.out.alloc _, HZ.out.alloc _, Hbel.out.alloc (Hbel.out.size) _⟩
          case measure => simp [intOf]; omega
        · have t1 : (0 : Int) ≤ ix := by omega
          have t2 : ¬ (ix < 16) := by omega
          have t3 : decide (ix < 16) = false := decide_eq_false t2
          go_wp2
          go_roundw
          case rel => exact ⟨m + 1, by omega, by go_num, by rw [HS.out, HS2.out]; exact HB.out.alloc _, HZ.out.alloc _, Hbel.out.alloc (Hbel.out.size) _⟩
          case measure => simp [intOf]; omega
    · have hmn : m = n := by omega
      have hce := HL.out hmn
      have hH := Lib.hid (show wr.heap[w.heap.size]? = some (.cells (cur.map (Value.int .i64)).toArray 66 (0, 0)) from HB.out)
      have hH2 := Lib.hid (show wr.heap[w.heap.size + 1]? = some (.cells (List.replicate 16 (Value.int .i64 0)).toArray 66 (0, 0)) from HZ.out)
      have hsz : (cur.map (Value.int .i64)).toArray.size = 16 := by simp [Hcl.out]
      have H1 := Lib.hid (ints_one cur)
      obtain ⟨cs, hcs⟩ : ∃ cs, (cur.map (Value.int .i64)).toArray = cs := ⟨_, rfl⟩
      have HE := Lib.hid (show cs = ((outT b ts).map (Value.int .i64)).toArray by rw [← hce, hcs])
      rw [hcs] at hH hsz H1
      have HF := Lib.hid (show (Try.prog.info? 66).map (·.size) = some cs.size by rw [hsz]; exact inf_block)
      have Hsz := Lib.hid hsz
      clear hce hsz HO HL hcs
      go_wp2_with (first | (refine wpList_load_row_w rfl 66 (.tmp 2) rfl w.heap.size rfl _ cs _ _ hH.out Try.underlying66 rfl HF.out ?_) | (refine wpList_store_row_w rfl 66 (.tmp 4) (.tmp 30) rfl (w.heap.size + 1) rfl _ _ cs rfl hH2.out HF.out (by rw [Hsz.out]; simp) H1.out ?_))
      refine bodyPost_ret (v := .agg cs) (results_cell_row Try.results98 _ _ (w.heap.size + 1) 66 cs (0, 0) _ rfl (setRow_at wr _ _ _ cs hH2.out) Try.underlying66 rfl HF.out) rfl ?_
      exact ⟨by rw [HE.out], setRow_below Hbel.out _ (by omega) _⟩
end Go.Proofs.Ytibegmjkiceiiaa
