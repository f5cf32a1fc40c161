/- CodeI, CodeJ, CodeK. Conditions: as each theorem states. -/
import Derived.Test.YthmgjielcmjenaaGreatZc20
import Derived.Test.YthmgjielcmjenaaGreatZc22
import Derived.Test.YthmgjielcmjenaaGreatZc23

namespace Go.Proofs.YthmgjielcmjenaaGreat
open Go.RowKit

/-- a block of blocks that lie one behind the other -/
def blockAt (p : List Int) (i : Nat) : List Int := (p.drop (i * 16)).take 16
theorem blockAt_len {p : List Int} {c i : Nat} (hp : p.length = c * 16) (hi : i < c) : (blockAt p i).length = 16 := by
  unfold blockAt
  rw [List.length_take, List.length_drop, hp]; omega
/-- rows of one length, the first so many of them laid, the others nought -/
def rowsTo (sz c : Nat) (f : Nat → List Int) (m : Nat) : List Int := ((List.range c).map fun i => if i < m then f i else List.replicate sz 0).flatten
theorem rowsTo_get {sz c : Nat} {f : Nat → List Int} (hf : ∀ i, (f i).length = sz) {m i j : Nat} (hi : i < c) (hj : j < sz) : (rowsTo sz c f m)[i * sz + j]? = if i < m then (f i)[j]? else some 0 := by
  unfold rowsTo
  have hlen : ∀ cs ∈ (List.range c).map (fun i => if i < m then f i else List.replicate sz 0), cs.length = sz := by
    intro cs hcs
    obtain ⟨k, _, rfl⟩ := List.mem_map.1 hcs
    split
    · exact hf k
    · simp
  have key : ∀ (css : List (List Int)), (∀ cs ∈ css, cs.length = sz) → ∀ i, css.flatten[i * sz + j]? = css[i]?.bind (·[j]?) := by
    intro css
    induction css with
    | nil => intro _ i; simp
    | cons d r ih =>
      intro h i
      have hd := h d (by simp)
      cases i with
      | zero => rw [List.flatten_cons, Nat.zero_mul, Nat.zero_add, List.getElem?_append_left (by omega)]; rfl
      | succ i =>
        rw [List.flatten_cons, List.getElem?_append_right (by rw [hd, Nat.succ_mul]; omega), hd, show (i + 1) * sz + j - sz = i * sz + j by rw [Nat.succ_mul]; omega, ih (fun x hx => h x (by simp [hx]))]
        rfl
  rw [key _ hlen, range_map_get _ hi]
  simp only [Option.bind_some]
  split
  · rfl
  · rw [List.getElem?_replicate, if_pos hj]
theorem rowsTo_len {sz c : Nat} {f : Nat → List Int} (hf : ∀ i, (f i).length = sz) (m : Nat) : (rowsTo sz c f m).length = c * sz := by
  unfold rowsTo
  rw [List.length_flatten, List.map_map]
  have : (List.range c).map (List.length ∘ fun i => if i < m then f i else List.replicate sz 0) = List.replicate c sz := by
    apply List.ext_getElem?
    intro i
    rw [List.getElem?_map, List.getElem?_replicate]
    rcases Nat.lt_or_ge i c with hi | hi
    · rw [List.getElem?_range hi, if_pos hi]
      simp only [Option.map_some, Function.comp]
      split
      · rw [hf]
      · simp
    · rw [List.getElem?_eq_none (by simpa using hi), if_neg (by omega)]; rfl
  rw [this, List.sum_replicate_nat]
theorem rowsTo_succ {sz c : Nat} {f : Nat → List Int} (hf : ∀ i, (f i).length = sz) (hs : 0 < sz) {m : Nat} (hm : m < c) : putAt (rowsTo sz c f m) (m * sz) (f m) = rowsTo sz c f (m + 1) := by
  have hfit : m * sz + (f m).length ≤ (rowsTo sz c f m).length := by
    rw [hf, rowsTo_len hf, ← Nat.succ_mul]
    exact Nat.mul_le_mul_right sz hm
  apply List.ext_getElem?
  intro t
  rw [putAt_get hfit, hf]
  rcases Nat.lt_or_ge t (c * sz) with ht | ht
  · obtain ⟨i, j, hj, hi, e⟩ : ∃ i j, j < sz ∧ i < c ∧ t = i * sz + j := ⟨t / sz, t % sz, Nat.mod_lt _ hs, (Nat.div_lt_iff_lt_mul hs).2 ht, by rw [Nat.mul_comm]; exact (Nat.div_add_mod t sz).symm⟩
    subst e
    rw [rowsTo_get hf hi hj, rowsTo_get hf hi hj]
    by_cases him : i = m
    · subst him
      rw [if_pos ⟨by omega, by omega⟩, if_pos (by omega)]
      congr 1
      omega
    · have hne : ¬ (m * sz ≤ i * sz + j ∧ i * sz + j < m * sz + sz) := by
        intro ⟨h1, h2⟩
        rcases Nat.lt_or_gt_of_ne him with h | h
        · have := Nat.mul_le_mul_right sz (show i + 1 ≤ m from h)
          rw [Nat.succ_mul] at this
          omega
        · have := Nat.mul_le_mul_right sz (show m + 1 ≤ i from h)
          rw [Nat.succ_mul] at this
          omega
      rw [if_neg hne]
      by_cases h : i < m
      · rw [if_pos h, if_pos (by omega)]
      · rw [if_neg h, if_neg (by omega)]
  · have h1 : c * sz ≤ t := ht
    have h2 := Nat.mul_le_mul_right sz (show m + 1 ≤ c from hm)
    rw [Nat.succ_mul] at h2
    rw [if_neg (by omega), List.getElem?_eq_none (by rw [rowsTo_len hf]; exact h1), List.getElem?_eq_none (by rw [rowsTo_len hf]; exact h1)]
end Go.Proofs.YthmgjielcmjenaaGreat

namespace Go.Proofs.YthmgjielcmjenaaGreat
open Go.RowKit

theorem rowsTo_zero (sz c : Nat) (f : Nat → List Int) : (rowsTo sz c f 0).map (Value.int .i64) = List.replicate (c * sz) (.int .i64 0) := by
  have : rowsTo sz c f 0 = List.replicate (c * sz) 0 := by
    unfold rowsTo
    have : (List.range c).map (fun i => if i < 0 then f i else List.replicate sz (0 : Int)) = List.replicate c (List.replicate sz 0) := by
      apply List.ext_getElem?
      intro i
      rw [List.getElem?_map, List.getElem?_replicate]
      rcases Nat.lt_or_ge i c with hi | hi
      · rw [List.getElem?_range hi, if_pos hi]; simp
      · rw [List.getElem?_eq_none (by simpa using hi), if_neg (by omega)]; rfl
    rw [this, List.flatten_replicate_replicate]
  rw [this, List.map_replicate]
def gainsOf (l : List Int) : Nat → List Int := fun i => ofZ (blockAt (padZ l) i)
def gainsF (l : List Int) (size : Int) : List Int := rowsTo 4 (countN l.length) (gainsOf l) (if 55 ≤ size then 0 else countN l.length)
theorem padZ_len (l : List Int) : (padZ l).length = countN l.length * 16 := by simp [padZ]
theorem padZ_turn {l : List Int} (h : TurnB l) (i : Nat) : TurnB (blockAt (padZ l) i) := by
  intro k x hx
  have hx2 : x ∈ padZ l := quarter_mem x (List.mem_of_getElem? hx)
  unfold padZ at hx2
  obtain ⟨j, _, rfl⟩ := List.mem_map.1 hx2
  rcases Nat.lt_or_ge j l.length with hj | hj
  · have := h j _ (List.getElem?_eq_getElem hj)
    rw [bgt_get (List.getElem?_eq_getElem hj)]
    exact this
  · rw [bgt_out hj]; omega
theorem inf_4 : (Tryz.prog.info? 37).map (fun i => (i.zero, i.size, i.bytes)) = some (some (.agg (List.replicate 4 (Value.int .i64 0)).toArray), 4, 32) := by kernel_rfl
def NewGains (W : World) (c : Nat) (xs : List Int) (e : Ending) (w' : World) : Prop :=
  ∃ g, e = .returned (.slice (some ⟨g, 0, none⟩) c c) ∧ W.heap.size ≤ g ∧ Blk w' g 37 (xs.map (.int .i64)) ∧ Below W.heap.size W w'

set_option maxRecDepth 100000 in
set_option maxHeartbeats 4000000 in
theorem Gains_any (gc : Nat) (size : Int) (l : List Int) (A : Option Addr) (cap : Nat) (w : World) (hg : CoderAt w gc size) (hl : l.length ≤ 1000000) (hr : Row w w.heap.size A (l.map (.int .i64))) (ht : TurnB l) :
    Calls Tryz.prog 19 #[.pointer (some ⟨gc, 0, none⟩), .slice A l.length cap] w (NewGains w (countN l.length) (gainsF l size)) := by
  unfold NewGains gainsF
  have Hr := Lib.hid hr
  have HCn := Lib.hid (fun W => Count_any l.length W (by omega))
  have HBl := Lib.hid (fun W (hW : Below w.heap.size w W) => Blocks_any l A cap W (by omega) (hr.later hW))
  have HOf := Lib.hid (fun i W (hi : i < countN l.length) => Of_any (blockAt (padZ l) i) W (blockAt_len (padZ_len l) hi) (padZ_turn ht i))
  have HOl := Lib.hid (fun i => (show (gainsOf l i).length = 4 from ofTo_len _ 4))
  have HBk := Lib.hid (fun i (hi : i < countN l.length) => blockAt_len (padZ_len l) hi)
  have hcc : countN l.length ≤ 1000000 := by unfold countN; omega
  have Hpl := Lib.hid (padZ_len l)
  obtain ⟨n, hn⟩ : ∃ n, l.length = n := ⟨_, rfl⟩
  rw [hn] at hl hcc HCn HBl HOf HBk Hpl ⊢
  generalize countN n = c at *
  obtain ⟨i0, hi, hz0, hz1, hz2⟩ : ∃ i, Tryz.prog.info? 37 = some i ∧ i.zero = some (.agg (List.replicate 4 (Value.int .i64 0)).toArray) ∧ i.size = 4 ∧ i.bytes = 32 := by
    have := inf_4
    cases h : Tryz.prog.info? 37 with
    | none => rw [h] at this; cases this
    | some i =>
      rw [h] at this
      simp only [Option.map_some, Option.some.injEq, Prod.mk.injEq] at this
      exact ⟨i, rfl, this.1, this.2.1, this.2.2⟩
  have Hms := Lib.hid (show (madeCells (Value.agg (List.replicate 4 (Value.int .i64 0)).toArray).cells (c * 4)).toList = List.replicate (c * 4) (.int .i64 0) from toList_made_rep _ _ (by decide) (fun j hj => by
    have hj16 : j < 4 := hj
    have hk : j = 0 ∨ j = 1 ∨ j = 2 ∨ j = 3 := by omega
    rcases hk with rfl | rfl | rfl | rfl <;> rfl) _)
  obtain ⟨mc, hmc⟩ : ∃ mc, madeCells (Value.agg (List.replicate 4 (Value.int .i64 0)).toArray).cells (c * 4) = mc := ⟨_, rfl⟩
  rw [hmc] at Hms
  have hmc2 : mc = ((rowsTo 4 c (gainsOf l) 0).map (Value.int .i64)).toArray := by
    apply Array.toList_inj.1
    rw [Hms.out, rowsTo_zero]
  have HB0 := Lib.hid (show Blk (w.alloc (.cells mc 37)) w.heap.size 37 ((rowsTo 4 c (gainsOf l) 0).map (.int .i64)) by rw [hmc2]; exact Blk.new w _ _)
  have HX := Lib.hid (CExact_any gc size (w.alloc (.cells mc 37)) (hkeep hg (bnew w _)))
  clear hr hn hmc2 Hms hg ht
  by_cases h55 : 55 ≤ size
  · rw [if_pos h55]
    have e1 : decide (55 ≤ size) = true := decide_eq_true h55
    rw [e1] at HX
    go_enter Tryz.func19, Tryz.ntmps19
    go_wp2_with (first | (go_at_call 36; refine (HCn.out _).mono ?_; rintro e w1 ⟨rfl, rfl⟩) | (refine wpList_make_rows w rfl (.tmp 10) (.tmp 10) 66 rfl 37 i0 (.agg (List.replicate 4 (Value.int .i64 0)).toArray) 4 Tryz.underlying66 hi hz0 hz1 .i64 .i64 c rfl rfl (by rw [hz2]; omega) (by omega) ?_; rw [hmc]) | (go_at_call 37; refine HX.out.mono ?_; rintro e w1 ⟨rfl, rfl⟩))
    go_ret
    exact ⟨w.heap.size, rfl, Nat.le_refl _, HB0.out, bnew w _⟩
  · rw [if_neg h55]
    have e1 : decide (55 ≤ size) = false := decide_eq_false h55
    rw [e1] at HX
    go_enter Tryz.func19, Tryz.ntmps19
    go_wp2_with (first | (go_at_call 36; refine (HCn.out _).mono ?_; rintro e w1 ⟨rfl, rfl⟩) | (refine wpList_make_rows w rfl (.tmp 10) (.tmp 10) 66 rfl 37 i0 (.agg (List.replicate 4 (Value.int .i64 0)).toArray) 4 Tryz.underlying66 hi hz0 hz1 .i64 .i64 c rfl rfl (by rw [hz2]; omega) (by omega) ?_; rw [hmc]) | (go_at_call 37; refine HX.out.mono ?_; rintro e w1 ⟨rfl, rfl⟩) | (go_at_call 38; fail))
    refine (HBl.out _ (bnew w _)).mono ?_
    rintro e w2 ⟨gb, rfl, hgb, hbb, hb2⟩
    have HG2 := Lib.hid (HB0.out.below hb2 HB0.out.lt)
    have HP2 := Lib.hid hbb
    have HB2 := Lib.hid (bnext (bnew w _) hb2)
    have hne : gb ≠ w.heap.size := by simp at hgb; omega
    have hgbw : w.heap.size < gb := by simp at hgb; omega
    clear hb2 hbb hgb HB0 HX
    go_wp2
    go_loopw [18] (fun i wr => ∃ m : Nat, m ≤ c ∧ i = .int .i64 m ∧ Blk wr w.heap.size 37 ((rowsTo 4 c (gainsOf l) m).map (.int .i64)) ∧ Blk wr gb 40 ((padZ l).map (.int .i64)) ∧ Below w.heap.size w wr) (fun i _ => c - (intOf i).toNat)
    case atStart => exact ⟨0, by omega, rfl, HG2.out, HP2.out, HB2.out⟩
    case round =>
      obtain ⟨m, hm, rfl, hG, hP, hbel⟩ := hrel
      have HG := Lib.hid hG
      have HP := Lib.hid hP
      have Hbel := Lib.hid hbel
      clear HG2 HP2 HB2 hG hP hbel
      by_cases hlk : m < c
      · have t1 : (m : Int) < (c : Int) := by omega
        have HO := Lib.hid (fun W => HOf.out m W hlk)
        have HS := Lib.hid (rowsTo_succ HOl.out (by omega) hlk)
        have hbl := HBk.out m hlk
        have hgl := HOl.out m
        have hrl := rowsTo_len HOl.out (sz := 4) (c := c) m
        have HX := Lib.hid (fun (j : Nat) (v : Value) (hv : ((blockAt (padZ l) m).map (Value.int .i64))[j]? = some v) => (show wr.cell? ⟨gb, m * 16 + j, none⟩ = some v by
          rw [HP.out.cell, List.getElem?_map]
          rw [List.getElem?_map] at hv
          unfold blockAt at hv
          rw [List.getElem?_take] at hv
          split at hv
          · rw [List.getElem?_drop] at hv; exact hv
          · cases hv))
        have HGo := Lib.hid (show gainsOf l m = ofZ (blockAt (padZ l) m) from rfl)
        rw [HGo.out] at HS hgl
        obtain ⟨R1, hR1⟩ : ∃ R1, rowsTo 4 c (gainsOf l) (m + 1) = R1 := ⟨_, rfl⟩
        have HR1 := Lib.hid hR1
        rw [hR1] at HS
        clear hR1
        generalize rowsTo 4 c (gainsOf l) m = R0 at *
        unfold blockV at HO
        have Hy1 := Lib.hid (fun u (hu : u ∈ (ofZ (blockAt (padZ l) m)).map (Value.int .i64)) => (show u.oneCell' = true by
          obtain ⟨y, _, rfl⟩ := List.mem_map.1 hu
          rfl))
        have HSm := Lib.hid (show (putAt R0 (m * 4) (ofZ (blockAt (padZ l) m))).map (Value.int .i64) = R1.map (.int .i64) by rw [HS.out])
        rw [putAt_map] at HSm
        have hxl : ((blockAt (padZ l) m).map (Value.int .i64)).length = 16 := by rw [List.length_map, hbl]
        have hyl : ((ofZ (blockAt (padZ l) m)).map (Value.int .i64)).length = 4 := by rw [List.length_map, hgl]
        have hx1 := ints_one (blockAt (padZ l) m)
        generalize (blockAt (padZ l) m).map (Value.int .i64) = xs at *
        generalize (ofZ (blockAt (padZ l) m)).map (Value.int .i64) = ys at *
        have HFx := Lib.hid (show (Tryz.prog.info? 40).map (·.size) = some xs.length by rw [hxl]; exact inf_block)
        have HFa := Lib.hid (show (Tryz.prog.info? 40).map (·.size) = some xs.toArray.size by rw [List.size_toArray, hxl]; exact inf_block)
        have HFy := Lib.hid (show (Tryz.prog.info? 37).map (·.size) = some ys.length by rw [hyl]; exact inf_four)
        have Hxl := Lib.hid hxl
        have Hx1 := Lib.hid hx1
        have Hrl := Lib.hid (show m * 4 + ys.length ≤ (R0.map (Value.int .i64)).length by rw [hyl, List.length_map, hrl]; omega)
        clear hxl hyl hx1 hbl hgl hrl HS HGo
        have HN := Lib.hid (heap_alloc_new wr (.cells xs.toArray 40))
        go_wp2_with (first | (go_at_call 39; fail) | (refine wpList_load_part_w rfl 40 (.tmp 21) rfl gb (m * 16) rfl xs _ HX.out Tryz.underlying40 rfl HFx.out ?_) | (refine wpList_store_row_w rfl 40 (.tmp 7) (.tmp 22) rfl wr.heap.size rfl _ _ xs.toArray rfl (heap_alloc_new wr _) HFa.out (by show (16 : Nat) = _; rw [List.size_toArray, Hxl.out]) Hx1.out ?_; rw [World.setRow_alloc_new]) | (refine wpList_load_row_w rfl 40 (.tmp 7) rfl wr.heap.size rfl _ xs.toArray _ _ HN.out Tryz.underlying40 rfl HFa.out ?_))
        refine (HO.out _).mono ?_
        rintro e w3 ⟨rfl, hb3⟩
        have hb4 := bnext (bnew wr (.cells xs.toArray 40)) hb3
        have G3 := Lib.hid (HG.out.below hb4 HG.out.lt)
        have P3 := Lib.hid (HP.out.below hb4 HP.out.lt)
        have L3 := Lib.hid (bnext Hbel.out hb4)
        clear hb3 hb4
        go_wp2_with (refine wpList_store_part_w rfl 37 (.tmp 27) (.tmp 26) rfl w.heap.size (m * 4) rfl _ _ ys rfl G3.out HFy.out Hrl.out Hy1.out ?_; rw [HSm.out])
        go_roundw
        case rel => exact ⟨m + 1, by omega, by go_num, by rw [HR1.out]; exact setRow_at w3 _ _ _ _ G3.out, (setRow_other _ _ _ _ (by omega)).trans P3.out, setRow_below L3.out _ (by omega) _⟩
        case measure => simp [intOf]; omega
      · have hmc : m = c := by omega
        have t1 : ¬ ((m : Int) < (c : Int)) := by omega
        subst hmc
        go_wp2
        go_ret
        exact ⟨w.heap.size, rfl, Nat.le_refl _, HG.out, Hbel.out⟩
end Go.Proofs.YthmgjielcmjenaaGreat

namespace Go.Proofs.YthmgjielcmjenaaGreat
open Go.RowKit

theorem csat_any (v : Int) (w : World) : Calls Tryz.prog 25 #[.int .i64 v] w fun e w' => e = .returned (.int .i64 (satZ v)) ∧ w = w' := by
  go_enter Tryz.func25, Tryz.ntmps25
  go_wp2_with (go_at_call 57; refine (Sat_any _ _).mono ?_; rintro e w' ⟨rfl, rfl⟩)
  go_ret
  exact ⟨rfl, rfl⟩
end Go.Proofs.YthmgjielcmjenaaGreat
