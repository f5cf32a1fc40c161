/- GainB, FitD. Conditions: as each theorem states. -/
import Derived.Test.YtbgkoopfdfnmcaaGreatIc19
import Derived.Test.YtbgkoopfdfnmcaaGreatIc15

namespace Go.Proofs.YtbgkoopfdfnmcaaGreat
open Go.RowKit

def downTo (b s : List Int) (m : Nat) : List Int := (List.range 16).map fun k => if k < m then roundZ (bgt b k) (bgt s (k / 4)).toNat else bgt b k
theorem downTo_zero {b : List Int} (s : List Int) (hb : b.length = 16) : downTo b s 0 = b := by
  rw [self_map hb]; unfold downTo
  apply List.map_congr_left
  intro k hk
  have := List.mem_range.1 hk
  rw [if_neg (by omega), ← self_map hb]
theorem downTo_succ (b s : List Int) {m : Nat} (hm : m < 16) : (downTo b s m).set m (roundZ (bgt b m) (bgt s (m / 4)).toNat) = downTo b s (m + 1) := by
  refine range_map_set _ (fun k => if k < m + 1 then roundZ (bgt b k) (bgt s (k / 4)).toNat else bgt b k) hm ?_ (fun i hi => ?_)
  · rw [if_pos (by omega)]
  · by_cases h : i < m
    · rw [if_pos h, if_pos (by omega)]
    · rw [if_neg h, if_neg (by omega)]
theorem downTo_len (b s : List Int) (m : Nat) : (downTo b s m).length = 16 := by simp [downTo]
theorem downTo_get (b s : List Int) {m k : Nat} (hk : k < 16) (hm : m ≤ k) {x : Int} (hx : b[k]? = some x) : (downTo b s m)[k]? = some x := by
  unfold downTo
  rw [range_map_get _ hk, if_neg (by omega), bgt_get hx]
theorem Round_below (v : Int) (p : Nat) (w : World) (h1 : -9223372036854775808 ≤ v) (h2 : v ≤ 9223372036854775807) (hp : p ≤ 62) :
    Calls Tryz.prog 93 #[.int .i64 v, .int .i64 p] w fun e w' => e = .returned (.int .i64 (roundZ v p)) ∧ Below w.heap.size w w' :=
  (Round_any v p w h1 h2 (by omega) (by omega)).mono fun e w' ⟨he, n, hn⟩ => ⟨by rw [Int.toNat_natCast] at he; exact he, by rw [hn]; exact below_drewN (Below.refl _ _) n⟩

set_option maxRecDepth 100000 in
set_option maxHeartbeats 4000000 in
theorem Down_any (b g : List Int) (w : World) (hb : b.length = 16) (hr : TurnB b) (hg : GainB g) :
    Calls Tryz.prog 61 #[blockV b, blockV g] w fun e w' => e = .returned (blockV (downTo b g 16)) ∧ Below w.heap.size w w' := by
  have HA := Lib.hid (fun i W (hi : i < 16) => At_any g i W hg hi)
  have HG := Lib.hid (fun q x (hx : g[q]? = some x) => hg.get hx)
  have Hgl := Lib.hid hg.1
  have Hb := Lib.hid hb
  have Hr := Lib.hid hr
  have hgz : (g.map (Value.int .i64)).toArray.size = 4 := by simp [hg.1]
  unfold blockV at *
  generalize (g.map (Value.int .i64)).toArray = gv at *
  have HFg := Lib.hid (show (Tryz.prog.info? 75).map (·.size) = some gv.size by rw [hgz]; exact inf_four)
  have H3 := Lib.hid (heap3 w (.cells (b.map (Value.int .i64)).toArray 74) (.cells gv 75) (.cells (List.replicate 16 (Value.int .i64 0)).toArray 74))
  generalize hbv : b.map (Value.int .i64) = bv at *
  have Hbv := Lib.hid hbv
  clear hgz hg hb hr hbv
  go_enter Tryz.func61, Tryz.ntmps61
  go_wp2_with fail
  go_loopw [6] (fun i wr => ∃ (m : Nat), m ≤ 16 ∧ i = .int .i64 m ∧ Blk wr w.heap.size 74 ((downTo b g m).map (Value.int .i64)) ∧ wr.heap[w.heap.size + 1]? = some (.cells gv 75 (0, 0)) ∧ Blk wr (w.heap.size + 1 + 1) 74 (List.replicate 16 (.int .i64 0)) ∧ Below w.heap.size w wr) (fun i _ => 16 - (intOf i).toNat)
  case atStart => exact ⟨0, by omega, rfl, by rw [downTo_zero g Hb.out, Hbv.out]; exact H3.out.1, H3.out.2.1, H3.out.2.2.1, H3.out.2.2.2.2⟩
  case round =>
    obtain ⟨m, hm, rfl, hB, hG, hZ, hbel⟩ := hrel
    have HB := Lib.hid hB
    have HGr := Lib.hid hG
    have HZ := Lib.hid hZ
    have Hbel := Lib.hid hbel
    clear H3
    by_cases hlk : m < 16
    · have t1 : (m : Int) < 16 := by omega
      obtain ⟨x, hx⟩ := list_get (k := m) Hb.out hlk
      obtain ⟨q, hq⟩ : ∃ q, m / 4 = q := ⟨_, rfl⟩
      obtain ⟨y, hy⟩ := list_get (k := q) Hgl.out (by omega)
      obtain ⟨y0, y1⟩ := HG.out q y hy
      obtain ⟨p, rfl⟩ := Int.eq_ofNat_of_zero_le y0
      have HAt := Lib.hid (fun W => HA.out m W hlk)
      rw [hq, bgt_get hy] at HAt
      have hxb := Hr.out m x hx
      have HRd := Lib.hid (fun W => Round_below x p W (by omega) (by omega) (by omega))
      have HSt := Lib.hid (show (downTo b g m).set m (roundZ x p) = downTo b g (m + 1) by
        rw [← downTo_succ b g hlk, bgt_get hx, hq, bgt_get hy, Int.toNat_natCast])
      have hc2 : ((downTo b g m).map (Value.int .i64))[m]? = some (.int .i64 x) := by rw [List.getElem?_map, downTo_get b g hlk (Nat.le_refl m) hx]; rfl
      have x5 := gw_blk hB
      have P1 := gw_heap hG
      have t2 : (0 : Int) ≤ (p : Int) := by omega
      have t3 : (p : Int) ≤ 64 := by omega
      obtain ⟨s2, hs2⟩ : ∃ s2 : Int, roundZ x p = s2 := ⟨_, rfl⟩
      rw [hs2] at HSt HRd
      clear hx hy hq hB hG hZ hbel y0 y1 hxb
      go_wp2_with fail
      refine wp_region_calm_tail 9 (by kernel_rfl) (by kernel_rfl) ?_
      simp only [List.take_succ_cons, List.take_zero, List.drop_succ_cons, List.drop_zero]
      repeat (first | (go_big_quiet_want; refine quiet_load_row 75 (.tmp 3) rfl (w.heap.size + 1) rfl _ gv _ _ P1 Tryz.underlying75 rfl HFg.out ?_; go_simp; go_big_quiet_on) | go_big_quiet_step ((first | (go_at_call 77; exact calm_call (HAt.out _)) | (go_at_call 93; exact calm_call (HRd.out _)))))
      refine wpQuiet_nil ?_
      intro w5 hw'
      have hb5 := gw_below hw'
      have hB5 := HB.out.below hb5 HB.out.lt
      have HB5 := Lib.hid hB5
      have HZ5 := Lib.hid (HZ.out.below hb5 HZ.out.lt)
      have HG5 := Lib.hid (hkeep HGr.out hb5)
      have Hb5 := Lib.hid (bnext Hbel.out hb5)
      have ce : w5.cell? ⟨w.heap.size, m, none⟩ = some (.int .i64 x) := by rw [hB5.cell]; exact hc2
      have fz := hB5.frozen m
      clear hw' hb5 x5 P1 hB5
      go_wp2
      go_roundw
      case rel =>
        refine ⟨m + 1, by omega, by go_num, ?_, (Below.heap_setCell w5 _ _ _ (by simp)).trans HG5.out, HZ5.out.far (by simp; omega) _, Hb5.out.setCell (by simp) _⟩
        rw [← HSt.out, List.map_set]
        exact HB5.out.set_ m _
      case measure => simp [intOf]; omega
    · have hm16 : m = 16 := by omega
      subst hm16
      have t1 : ¬ (((16 : Nat) : Int) < 16) := by omega
      have hH := Lib.hid (show wr.heap[w.heap.size]? = some (.cells ((downTo b g 16).map (Value.int .i64)).toArray 74 (0, 0)) from HB.out)
      have hH2 := Lib.hid (show wr.heap[w.heap.size + 1 + 1]? = some (.cells (List.replicate 16 (Value.int .i64 0)).toArray 74 (0, 0)) from HZ.out)
      have H1 := Lib.hid (ints_one (downTo b g 16))
      have hsz2 : ((downTo b g 16).map (Value.int .i64)).toArray.size = 16 := by simp [downTo_len]
      obtain ⟨xs, hxs⟩ : ∃ xs, ((downTo b g 16).map (Value.int .i64)).toArray = xs := ⟨_, rfl⟩
      rw [hxs] at hH H1 hsz2
      have HE := Lib.hid hxs
      clear hxs
      have HF2 := Lib.hid (show (Tryz.prog.info? 74).map (·.size) = some xs.size by rw [hsz2]; exact inf_block)
      have Hsz := Lib.hid hsz2
      clear hsz2 hB hG hZ
      go_wp2_with (first | (refine wpList_load_row_w rfl 74 (.tmp 2) rfl w.heap.size rfl _ xs _ _ hH.out Tryz.underlying74 rfl HF2.out ?_) | (refine wpList_store_row_w rfl 74 (.tmp 4) (.tmp 19) rfl (w.heap.size + 1 + 1) rfl _ _ xs rfl hH2.out HF2.out (by rw [Hsz.out]; simp) H1.out ?_))
      refine bodyPost_ret (v := .agg xs) (results_cell_row Tryz.results61 _ _ (w.heap.size + 1 + 1) 74 xs (0, 0) _ rfl (setRow_at wr _ _ _ xs hH2.out) Tryz.underlying74 rfl HF2.out) rfl ?_
      exact ⟨by rw [← HE.out], setRow_below Hbel.out _ (by omega) _⟩

/-- how often a part is made twice as loud -/
def ofC (p top : Int) : Nat → Nat → Nat
  | 0, c => c
  | f + 1, c => if 0 < p ∧ p * 2 ^ (c + 1) ≤ top then ofC p top f (c + 1) else c
def ofN (p top : Int) : Nat := ofC p top 3 0
theorem ofC_le (p top : Int) : ∀ f c, ofC p top f c ≤ c + f
  | 0, c => Nat.le_refl _
  | f + 1, c => by
    unfold ofC
    split
    · have := ofC_le p top f (c + 1); omega
    · omega
/-- the gains of the first so many bands, the others none -/
def ofTo (b : List Int) (m : Nat) : List Int := (List.range 4).map fun i => if i < m then (ofN (peakZ ((b.drop (i * 4)).take 4)) (peakZ b) : Int) else 0
def ofZ (b : List Int) : List Int := ofTo b 4
theorem ofTo_len (b : List Int) (m : Nat) : (ofTo b m).length = 4 := by simp [ofTo]
theorem ofTo_succ (b : List Int) {m : Nat} (hm : m < 4) : (ofTo b m).set m (ofN (peakZ ((b.drop (m * 4)).take 4)) (peakZ b) : Int) = ofTo b (m + 1) := by
  refine range_map_set _ (fun i => if i < m + 1 then (ofN (peakZ ((b.drop (i * 4)).take 4)) (peakZ b) : Int) else 0) hm ?_ (fun i hi => ?_)
  · rw [if_pos (by omega)]
  · by_cases h : i < m
    · rw [if_pos h, if_pos (by omega)]
    · rw [if_neg h, if_neg (by omega)]
theorem ofTo_get (b : List Int) {m k : Nat} (hk : k < 4) (hm : m ≤ k) : (ofTo b m)[k]? = some 0 := by
  unfold ofTo
  rw [range_map_get _ hk, if_neg (by omega)]
theorem ofZ_gain (b : List Int) : GainB (ofZ b) := by
  refine ⟨ofTo_len b 4, ?_⟩
  unfold gainOk
  rw [List.all_eq_true]
  intro x hx
  unfold ofZ ofTo at hx
  obtain ⟨i, hi, rfl⟩ := List.mem_map.1 hx
  rw [if_pos (List.mem_range.1 hi)]
  have : ofN (peakZ ((b.drop (i * 4)).take 4)) (peakZ b) ≤ 0 + 3 := ofC_le _ _ 3 0
  unfold inB
  rw [decide_eq_true (by omega), decide_eq_true (by omega)]; rfl

set_option maxRecDepth 100000 in
set_option maxHeartbeats 4000000 in
theorem Of_any (b : List Int) (w : World) (hb : b.length = 16) (hr : TurnB b) :
    Calls Tryz.prog 48 #[blockV b] w fun e w' => e = .returned (blockV (ofZ b)) ∧ Below w.heap.size w w' := by
  unfold blockV
  have Hb := Lib.hid hb
  have Hr := Lib.hid hr
  have hbig : BigB b := fun k x hx => by have := hr k x hx; omega
  have HPq := Lib.hid (fun m => big_peak hbig (l := (b.drop (m * 4)).take 4) quarter_mem)
  have hpq2 : ∀ m, peakZ ((b.drop (m * 4)).take 4) ≤ 1099511627776 := fun m => peakZ_le (by omega) _ fun x hx => by
    obtain ⟨k, hk, rfl⟩ := List.mem_iff_getElem.1 (quarter_mem x hx)
    have := hr k _ (List.getElem?_eq_getElem hk)
    exact absZ_le (by omega) (by omega) (by omega)
  have Hpq2 := Lib.hid hpq2
  have HPb := Lib.hid (show ∀ W : World, W.heap[w.heap.size]? = some (.cells (b.map (Value.int .i64)).toArray 74 (0, 0)) → Calls Tryz.prog 53 #[.slice (some ⟨w.heap.size, 0, none⟩) 16 16] W fun e w' => e = .returned (.int .i64 (peakZ b)) ∧ W = w' from fun W hW => by
    have := Peak_any (some ⟨w.heap.size, 0, none⟩) 16 b W (by omega) (fun i v hv => ⟨_, 0, rfl, hlt hW, by rw [cell_of_row _ _ _ _ _ _ hW, Nat.zero_add]; simpa using hv⟩) (fun x hx => by
      obtain ⟨k, hk, rfl⟩ := List.mem_iff_getElem.1 hx
      have := hr k _ (List.getElem?_eq_getElem hk)
      omega)
    rw [hb] at this
    exact this)
  have H4 := Lib.hid (heap3 w (.cells (b.map (Value.int .i64)).toArray 74) (.cells (List.replicate 4 (.int .i64 0)).toArray 75) (.cells (List.replicate 4 (.int .i64 0)).toArray 75))
  have HP2 := Lib.hid (HPb.out _ (heap2 w (.cells (b.map (Value.int .i64)).toArray 74) (.cells (List.replicate 4 (.int .i64 0)).toArray 75)).1)
  have Hset := Lib.hid (fun m (hm : m < 4) => ofTo_succ b hm)
  generalize hbv : b.map (Value.int .i64) = bv at *
  have Hbv := Lib.hid hbv
  generalize peakZ b = top at *
  clear hb hr hbig hpq2 hbv HPb
  go_enter Tryz.func48, Tryz.ntmps48
  go_wp2_with (go_at_call 53; refine HP2.out.mono ?_; rintro e w1 ⟨rfl, rfl⟩)
  go_loopw [9] (fun i wr => ∃ (m : Nat), m ≤ 4 ∧ i = .int .i64 m ∧ Blk wr w.heap.size 74 bv ∧ Blk wr (w.heap.size + 1) 75 (List.replicate 4 (.int .i64 0)) ∧ Blk wr (w.heap.size + 1 + 1) 75 ((ofTo b m).map (Value.int .i64)) ∧ Below w.heap.size w wr) (fun i _ => 4 - (intOf i).toNat)
  case atStart => exact ⟨0, by omega, rfl, H4.out.1, H4.out.2.1, H4.out.2.2.1, H4.out.2.2.2.2⟩
  case round =>
    obtain ⟨m, hm, rfl, hB, hZ, hG, hbel⟩ := hrel
    have HB := Lib.hid hB
    have HZ := Lib.hid hZ
    have HG := Lib.hid hG
    have Hbel := Lib.hid hbel
    clear H4 HP2
    by_cases hlk : m < 4
    · have t1 : (m : Int) < 4 := by omega
      have hql : ((b.drop (m * 4)).take 4).length = 4 := by rw [List.length_take, List.length_drop, Hb.out]; omega
      have hpb := HPq.out m
      have hpc := Hpq2.out m
      have HP := Lib.hid (show ∀ cap, Calls Tryz.prog 53 #[.slice (some ⟨w.heap.size, m * 4, none⟩) 4 cap] wr fun e w' => e = .returned (.int .i64 (peakZ ((b.drop (m * 4)).take 4))) ∧ wr = w' from fun cap => by
        have := Peak_any (some ⟨w.heap.size, m * 4, none⟩) cap ((b.drop (m * 4)).take 4) wr (by omega) (fun i v hv => ⟨_, m * 4, rfl, HB.out.lt, by
          rw [HB.out.cell, ← Hbv.out]
          rw [List.map_take, List.map_drop, List.getElem?_take] at hv
          split at hv
          · rw [List.getElem?_drop] at hv; exact hv
          · cases hv⟩) (fun x hx => by
          obtain ⟨k, hk, rfl⟩ := List.mem_iff_getElem.1 (quarter_mem x hx)
          have := Hr.out k _ (List.getElem?_eq_getElem hk)
          omega)
        rw [hql] at this
        exact this)
      have HSt := Lib.hid (Hset.out m hlk)
      generalize peakZ ((b.drop (m * 4)).take 4) = p at *
      have hsl := slice_block w.heap.size 0 ((m : Int) * 4) (((m : Int) + 1) * 4) (m * 4) (m * 4 + 4) (by omega) (by omega) (by omega) (by omega) (by omega)
      rw [Nat.zero_add, show m * 4 + 4 - m * 4 = 4 by omega] at hsl
      have HG0 := Lib.hid (show (ofTo b m).set m 0 = ofTo b m from by
        apply List.ext_getElem?
        intro j
        rw [List.getElem?_set]
        by_cases hj : m = j
        · subst hj
          rw [if_pos rfl, if_pos (by rw [ofTo_len]; exact hlk), ofTo_get b hlk (Nat.le_refl m)]
        · rw [if_neg hj])
      clear hB hZ hG hbel hql
      go_wp2_with (go_at_call 53; refine (HP.out _).mono ?_; rintro e w1 ⟨rfl, rfl⟩)
      go_loopw [19] (fun _ wt => ∃ (c : Nat), c ≤ 3 ∧ ofC p top (3 - c) c = ofN p top ∧ Blk wt w.heap.size 74 bv ∧ Blk wt (w.heap.size + 1) 75 (List.replicate 4 (.int .i64 0)) ∧ Blk wt (w.heap.size + 1 + 1) 75 (((ofTo b m).set m (c : Int)).map (Value.int .i64)) ∧ Below w.heap.size w wt) (fun _ wt => 3 - (intOf ((wt.cell? ⟨w.heap.size + 1 + 1, m, none⟩).getD (.int .i64 0))).toNat)
      case atStart => exact ⟨0, by omega, rfl, HB.out, HZ.out, by rw [show (((0 : Nat) : Int)) = 0 from rfl, HG0.out]; exact HG.out, Hbel.out⟩
      case round =>
        obtain ⟨c, hc, hoc, hB, hZ, hG, hbel⟩ := hrel
        have HB := Lib.hid hB
        have HZ := Lib.hid hZ
        have HG := Lib.hid hG
        have Hbel := Lib.hid hbel
        have hcc : (((ofTo b m).set m (c : Int)).map (Value.int .i64))[m]? = some (.int .i64 (c : Int)) := by rw [List.getElem?_map, List.getElem?_set_self (by rw [ofTo_len]; exact hlk)]; rfl
        have ce : wr.cell? ⟨w.heap.size + 1 + 1, m, none⟩ = some (.int .i64 (c : Int)) := by rw [hG.cell]; exact hcc
        have fz := hG.frozen m
        have HSS := Lib.hid (show ∀ x : Int, (((ofTo b m).set m (c : Int)).map (Value.int .i64)).set m (.int .i64 x) = ((ofTo b m).set m x).map (Value.int .i64) from fun x => by rw [← List.map_set, List.set_set])
        have Hoc := Lib.hid hoc
        clear hB hZ hG hbel hoc hcc
        obtain ⟨d, hd⟩ : ∃ d, c + 1 = d := ⟨_, rfl⟩
        have e4 : (c : Int) + 1 = (d : Int) := by omega
        have e6 : (0 : Int) ≤ (d : Int) := by omega
        have e7 : (d : Int) ≤ 64 := by omega
        have HOC := Lib.hid (fun (hc3 : c < 3) => (show ofC p top (3 - c) c = if 0 < p ∧ p * 2 ^ d ≤ top then ofC p top (3 - d) d else c by
          subst hd
          rw [show 3 - c = (3 - (c + 1)) + 1 by omega]; rfl))
        by_cases hgo : 0 < p ∧ c < 3 ∧ p * 2 ^ d ≤ top
        · obtain ⟨g1, g2, g3⟩ := hgo
          have e1 : decide (0 < p) = true := decide_eq_true g1
          have e2 : decide ((c : Int) < 3) = true := decide_eq_true (by omega)
          have e5 : IntKind.i64.wrap (p * 2 ^ d) = p * 2 ^ d := up_wrap ⟨by omega, by omega⟩ (by omega)
          have e3 : decide (p * 2 ^ d ≤ top) = true := decide_eq_true g3
          have HN := Lib.hid (show ofC p top (3 - d) d = ofN p top by rw [← Hoc.out, HOC.out g2, if_pos ⟨g1, g3⟩])
          obtain ⟨P2, hP2⟩ : ∃ P2 : Int, p * 2 ^ d = P2 := ⟨_, rfl⟩
          rw [hP2] at e5 e3
          have Hd := Lib.hid hd
          have Hcell := Lib.hid (show (wr.setCell ⟨w.heap.size + 1 + 1, m, none⟩ (.int .i64 (d : Int))).cell? ⟨w.heap.size + 1 + 1, m, none⟩ = some (.int .i64 (d : Int)) by
            rw [(HG.out.set_ m (.int .i64 (d : Int))).cell, List.getElem?_set_self (by rw [List.length_map, List.length_set, ofTo_len]; exact hlk)])
          clear g1 g3 hd
          go_wp2
          go_roundw
          case rel =>
            refine ⟨d, by have := Hd.out; omega, HN.out, HB.out.far (by simp; omega) _, HZ.out.far (by simp) _, ?_, Hbel.out.setCell (by simp; omega) _⟩
            rw [← HSS.out]
            exact HG.out.set_ m _
          case measure => have := Hd.out; rw [Hcell.out, ce]; simp [intOf]; omega
        · have HN := Lib.hid (show c = ofN p top by
            rw [← Hoc.out]
            by_cases hc3 : c = 3
            · subst hc3; rfl
            · rw [HOC.out (by omega), if_neg (fun h => hgo ⟨h.1, by omega, h.2⟩)])
          have cases3 : decide (0 < p) = false ∨ (decide (0 < p) = true ∧ decide ((c : Int) < 3) = false) ∨ (decide (0 < p) = true ∧ decide ((c : Int) < 3) = true ∧ decide (p * 2 ^ d ≤ top) = false ∧ IntKind.i64.wrap (p * 2 ^ d) = p * 2 ^ d) := by
            by_cases h1 : 0 < p
            · by_cases h2 : c < 3
              · exact .inr (.inr ⟨decide_eq_true h1, decide_eq_true (by omega), decide_eq_false (fun h3 => hgo ⟨h1, h2, h3⟩), up_wrap ⟨by omega, by omega⟩ (by omega)⟩)
              · exact .inr (.inl ⟨decide_eq_true h1, decide_eq_false (by omega)⟩)
            · exact .inl (decide_eq_false h1)
          clear hgo
          rcases cases3 with e1 | ⟨e1, e2⟩ | ⟨e1, e2, e3, e5⟩
          all_goals
            go_wp2
            go_roundw
            case rel => exact ⟨m + 1, by omega, by go_num, HB.out, HZ.out, by rw [← HSt.out, ← HN.out]; exact HG.out, Hbel.out⟩
            case measure => simp [intOf]; omega
    · have hm4 : m = 4 := by omega
      subst hm4
      have t1 : ¬ (((4 : Nat) : Int) < 4) := by omega
      have hH := Lib.hid (show wr.heap[w.heap.size + 1 + 1]? = some (.cells ((ofTo b 4).map (Value.int .i64)).toArray 75 (0, 0)) from HG.out)
      have hH2 := Lib.hid (show wr.heap[w.heap.size + 1]? = some (.cells (List.replicate 4 (Value.int .i64 0)).toArray 75 (0, 0)) from HZ.out)
      have H1 := Lib.hid (ints_one (ofTo b 4))
      have hsz2 : ((ofTo b 4).map (Value.int .i64)).toArray.size = 4 := by simp [ofTo_len]
      obtain ⟨xs, hxs⟩ : ∃ xs, ((ofTo b 4).map (Value.int .i64)).toArray = xs := ⟨_, rfl⟩
      rw [hxs] at hH H1 hsz2
      have HE := Lib.hid hxs
      clear hxs
      have HF2 := Lib.hid (show (Tryz.prog.info? 75).map (·.size) = some xs.size by rw [hsz2]; exact inf_four)
      have Hsz := Lib.hid hsz2
      clear hsz2 hB hZ hG
      go_wp2_with (first | (refine wpList_load_row_w rfl 75 (.tmp 4) rfl (w.heap.size + 1 + 1) rfl _ xs _ _ hH.out Tryz.underlying75 rfl HF2.out ?_) | (refine wpList_store_row_w rfl 75 (.tmp 2) (.tmp 43) rfl (w.heap.size + 1) rfl _ _ xs rfl hH2.out HF2.out (by rw [Hsz.out]; simp) H1.out ?_))
      refine bodyPost_ret (v := .agg xs) (results_cell_row Tryz.results48 _ _ (w.heap.size + 1) 75 xs (0, 0) _ rfl (setRow_at wr _ _ _ xs hH2.out) Tryz.underlying75 rfl HF2.out) rfl ?_
      exact ⟨by rw [← HE.out]; rfl, setRow_below Hbel.out _ (by omega) _⟩
end Go.Proofs.YtbgkoopfdfnmcaaGreat

namespace Go.Proofs.YtbgkoopfdfnmcaaGreat
open Go.RowKit

theorem nextTo_step (w s m : List Int) (k : Nat) : nextTo w s m (k + 1) = if 0 < bgt w k ∧ bgt s k < 23 ∧ (nextTo w s m k < 0 ∨ bgt m (nextTo w s m k).toNat - bgt s (nextTo w s m k).toNat < bgt m k - bgt s k) then (k : Int) else nextTo w s m k := rfl
def Mid (l : List Int) : Prop := ∀ (k : Nat) (x : Int), l[k]? = some x → -1000000000 ≤ x ∧ x ≤ 1000000000

set_option maxRecDepth 100000 in
set_option maxHeartbeats 4000000 in
theorem next_any (f : FrameV) (tv : Value) (mk : List Int) (w : World) (h : f.Len) (hm : mk.length = 4) (hs : ScB f.scale) (hw : ∀ (k : Nat) (x : Int), f.width[k]? = some x → 0 ≤ x) (hmid : Mid mk) :
    Calls Tryz.prog 87 #[.agg (frameA f tv), blockV mk] w fun e w' => e = .returned (.int .i64 (nextTo f.width f.scale mk 4)) ∧ Below w.heap.size w w' := by
  obtain ⟨g, ts, s, wd, q⟩ := f
  have HS := Lib.hid (fun (j : Nat) (x : Int) (hx : s[j]? = some x) => frameA_scale h tv (f := ⟨g, ts, s, wd, q⟩) (j := j) (v := .int .i64 x) (by rw [List.getElem?_map]; show Option.map _ s[j]? = _; rw [hx]; rfl))
  have HWp := Lib.hid (fun (j : Nat) (v : Value) (hv : (wd.map (Value.int .i64))[j]? = some v) => frameA_width h tv (f := ⟨g, ts, s, wd, q⟩) hv)
  obtain ⟨_, hls, hlw, _⟩ := h
  simp only at hls hlw hs hw ⊢
  have HL := Lib.hid hls
  have HLw := Lib.hid hlw
  have HLm := Lib.hid hm
  have Hs := Lib.hid hs
  have Hw := Lib.hid hw
  have Hmid := Lib.hid hmid
  have HF4 := Lib.hid (show (Tryz.prog.info? 75).map (·.size) = some (wd.map (Value.int .i64)).length by rw [List.length_map, hlw]; exact inf_four)
  unfold blockV
  have HCm := Lib.hid (fun (k : Nat) (x : Int) (h : mk[k]? = some x) => blk_get h)
  have HCw := Lib.hid (fun (k : Nat) (x : Int) (h : wd[k]? = some x) => blk_get h)
  generalize (mk.map (Value.int .i64)).toArray = mv at *
  generalize hwv : wd.map (Value.int .i64) = wv at *
  generalize frameA ⟨g, ts, s, wd, q⟩ tv = fc at *
  have H2 := Lib.hid (heap2 w (.cells fc 78) (.cells mv 75))
  clear hls hlw hm hs hw hmid hwv
  have HP := Lib.hid (fun j v (hv : wv[j]? = some v) => (show ((w.alloc (.cells fc 78)).alloc (.cells mv 75)).cell? ⟨w.heap.size, 9 + j, none⟩ = some v by
    rw [cell_of_row _ _ _ fc 78 (0, 0) H2.out.1]; exact HWp.out j v hv))
  go_enter Tryz.func87, Tryz.ntmps87
  go_wp2_with (refine wpList_load_part_w rfl 75 (.tmp 8) rfl w.heap.size 9 rfl wv _ HP.out Tryz.underlying75 rfl HF4.out ?_)
  go_loopw [5, 10] (fun b i wr => ∃ (m : Nat), m ≤ 4 ∧ i = .int .i64 m ∧ b = .int .i64 (nextTo wd s mk m) ∧ wr.heap[w.heap.size]? = some (.cells fc 78 (0, 0)) ∧ wr.heap[w.heap.size + 1]? = some (.cells mv 75 (0, 0)) ∧ Below w.heap.size w wr) (fun _ i _ => 4 - (intOf i).toNat)
  case atStart => exact ⟨0, by omega, rfl, rfl, H2.out.1, H2.out.2.1, H2.out.2.2.2⟩
  case round =>
    obtain ⟨m, hm4, rfl, rfl, hF, hM, hbel⟩ := hrel
    have HFr := Lib.hid hF
    have HMr := Lib.hid hM
    have Hbel := Lib.hid hbel
    have hbd := nextTo_bd wd s mk m
    have HN := Lib.hid (nextTo_step wd s mk m)
    obtain ⟨B, hBB⟩ : ∃ B, nextTo wd s mk m = B := ⟨_, rfl⟩
    rw [hBB] at hbd HN ⊢
    have HBB := Lib.hid hBB
    clear hF hM hbel H2 HP hBB
    by_cases hlt : m < 4
    · have t1 : (m : Int) < 4 := by omega
      obtain ⟨W, hW⟩ := list_get (k := m) HLw.out hlt
      obtain ⟨S, hS⟩ := list_get (k := m) HL.out hlt
      obtain ⟨M, hMk⟩ := list_get (k := m) HLm.out hlt
      have hW0 := Hw.out m W hW
      have hSb := Hs.out.2 m hlt
      have hMb := Hmid.out m M hMk
      have hcS := HS.out _ _ hS
      have hcM := HCm.out m M hMk
      have hix := run_index_arr (P := Tryz.prog) Tryz.underlying75 hlt (fun W => by kernel_rfl) (fun W => by kernel_rfl) (HCw.out m W hW)
      rw [bgt_get hS] at hSb
      rw [bgt_get hW, bgt_get hS, bgt_get hMk] at HN
      have hx5 := gw_cells HFr.out
      have hcell : ∀ j, wr.cell? ⟨w.heap.size, j, none⟩ = fc[j]? := fun j => cell_of_row wr w.heap.size j fc 78 (0, 0) HFr.out
      have hcs : wr.cell? ⟨w.heap.size, 5 + m, none⟩ = some (.int .i64 S) := (hcell _).trans hcS
      clear hW hS hMk hcell
      by_cases h0 : W = 0
      · have e0 : (W == 0) = true := beq_iff_eq.2 h0
        have HK := Lib.hid (show nextTo wd s mk (m + 1) = B by rw [HN.out, if_neg (by omega)])
        have H0 := Lib.hid h0
        clear h0 hx5
        go_wp2
        go_roundw
        case rel => exact ⟨m + 1, by omega, by go_num, val_int HK.out.symm, HFr.out, HMr.out, Hbel.out⟩
        case measure => simp [intOf]; omega
      · have e0 : (W == 0) = false := beq_eq_false_iff_ne.2 h0
        by_cases h1 : 23 ≤ S
        · have e1 : decide (23 ≤ S) = true := decide_eq_true h1
          have HK := Lib.hid (show nextTo wd s mk (m + 1) = B by rw [HN.out, if_neg (by omega)])
          have H0 := Lib.hid h0
          clear h0 hx5
          go_wp2
          go_roundw
          case rel => exact ⟨m + 1, by omega, by go_num, val_int HK.out.symm, HFr.out, HMr.out, Hbel.out⟩
          case measure => simp [intOf]; omega
        · have e1 : decide (23 ≤ S) = false := decide_eq_false h1
          have hw1 : IntKind.i64.wrap (M - S) = M - S := IntWalk.i64_in _ (by omega)
          have hy5 := gw_cells HMr.out
          by_cases h2 : B < 0
          · have e2 : decide (B < 0) = true := decide_eq_true h2
            have HK := Lib.hid (show nextTo wd s mk (m + 1) = (m : Int) by rw [HN.out, if_pos ⟨by omega, by omega, .inl h2⟩])
            have H0 := Lib.hid h0
            clear h0
            go_wp2
            refine wp_region_calm (by kernel_rfl) (by kernel_rfl) ?_
            repeat (go_big_quiet_step (fail))
            refine wpQuiet_nil ?_
            intro w5 hw'
            have hb5 := gw_below hw'
            have F5 := Lib.hid (hkeep HFr.out hb5)
            have M5 := Lib.hid (hkeep HMr.out hb5)
            have B5 := Lib.hid (bnext Hbel.out hb5)
            clear hw' hb5 hx5 hy5
            go_wp2
            go_roundw
            case rel => exact ⟨m + 1, by omega, by go_num, val_int HK.out.symm, F5.out, M5.out, B5.out⟩
            case measure => simp [intOf]; omega
          · obtain ⟨b, hb⟩ := Int.eq_ofNat_of_zero_le (show 0 ≤ B by omega)
            subst hb
            have hb4 : b < 4 := by omega
            obtain ⟨Sb, hSb2⟩ := list_get (k := b) HL.out hb4
            obtain ⟨Mb, hMb2⟩ := list_get (k := b) HLm.out hb4
            have hSbb := Hs.out.2 b hb4
            rw [bgt_get hSb2] at hSbb
            have hMbb := Hmid.out b Mb hMb2
            have hcSb := HS.out _ _ hSb2
            have hcMb := HCm.out b Mb hMb2
            have hw2 : IntKind.i64.wrap (Mb - Sb) = Mb - Sb := IntWalk.i64_in _ (by omega)
            have e2 : decide ((b : Int) < 0) = false := decide_eq_false h2
            have tb : (b : Int) < 4 := by omega
            rw [Int.toNat_natCast, bgt_get hSb2, bgt_get hMb2] at HN
            have H0 := Lib.hid (show 0 < W by omega)
            clear h0 hSb2 hMb2
            by_cases h3 : Mb - Sb < M - S
            · have HK := Lib.hid (show nextTo wd s mk (m + 1) = (m : Int) by rw [HN.out, if_pos ⟨H0.out, by omega, .inr h3⟩])
              have e3 : decide (Mb - Sb < M - S) = true := decide_eq_true h3
              go_wp2
              refine wp_region_calm (by kernel_rfl) (by kernel_rfl) ?_
              repeat (go_big_quiet_step (fail))
              refine wpQuiet_nil ?_
              intro w5 hw'
              have hb5 := gw_below hw'
              have F5 := Lib.hid (hkeep HFr.out hb5)
              have M5 := Lib.hid (hkeep HMr.out hb5)
              have B5 := Lib.hid (bnext Hbel.out hb5)
              clear hw' hb5 hx5 hy5
              go_wp2
              go_roundw
              case rel => exact ⟨m + 1, by omega, by go_num, val_int HK.out.symm, F5.out, M5.out, B5.out⟩
              case measure => simp [intOf]; omega
            · have HK := Lib.hid (show nextTo wd s mk (m + 1) = (b : Int) by rw [HN.out, if_neg (fun hh => by rcases hh.2.2 with x | x; exact h2 x; exact h3 x)])
              have e3 : decide (Mb - Sb < M - S) = false := decide_eq_false h3
              go_wp2
              refine wp_region_calm (by kernel_rfl) (by kernel_rfl) ?_
              repeat (go_big_quiet_step (fail))
              refine wpQuiet_nil ?_
              intro w5 hw'
              have hb5 := gw_below hw'
              have F5 := Lib.hid (hkeep HFr.out hb5)
              have M5 := Lib.hid (hkeep HMr.out hb5)
              have B5 := Lib.hid (bnext Hbel.out hb5)
              clear hw' hb5 hx5 hy5
              go_wp2
              go_roundw
              case rel => exact ⟨m + 1, by omega, by go_num, val_int HK.out.symm, F5.out, M5.out, B5.out⟩
              case measure => simp [intOf]; omega
    · have hm' : m = 4 := by omega
      subst hm'
      have t1 : ¬ (((4 : Nat) : Int) < 4) := by omega
      go_wp2
      go_ret
      exact ⟨ret_int HBB.out.symm, Hbel.out⟩
end Go.Proofs.YtbgkoopfdfnmcaaGreat
