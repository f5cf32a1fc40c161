/- CodeG, CodeE, CodeH. Conditions: as each theorem states. -/
import Derived.Test.YthmgjielcmjenaaGreatZc17

namespace Go.Proofs.YthmgjielcmjenaaGreat
open Go.RowKit

/-- a number within the bounds of a sample -/
def clipZ (v : Int) : Int := if 32767 < v ∨ v < -32768 then v.tmod 32768 else v
theorem clipZ_bd (v : Int) : -32768 ≤ clipZ v ∧ clipZ v ≤ 32767 := by
  unfold clipZ
  split
  · have := Int.tmod_lt_of_pos v (b := 32768) (by decide)
    have h2 : -32768 < v.tmod 32768 := by
      have := Int.tmod_lt_of_pos (-v) (b := 32768) (by decide)
      rw [Int.neg_tmod] at this
      omega
    omega
  · omega
def few13 (l : List Int) : List Int := (l.take 150).map clipZ
theorem few13_len (l : List Int) : (few13 l).length ≤ 150 := by unfold few13; rw [List.length_map, List.length_take]; omega
theorem few13_bd (l : List Int) : ∀ x ∈ few13 l, -32768 ≤ x ∧ x ≤ 32767 := fun x hx => by
  obtain ⟨v, _, rfl⟩ := List.mem_map.1 hx
  exact clipZ_bd v
theorem map_take_succ {l : List Int} (f : Int → Int) {m : Nat} {x : Int} (h : l[m]? = some x) : (l.take (m + 1)).map f = (l.take m).map f ++ [f x] := by
  obtain ⟨hm, rfl⟩ := List.getElem?_eq_some_iff.1 h
  rw [List.take_succ_eq_append_getElem hm, List.map_append]; rfl

set_option maxRecDepth 100000 in
set_option maxHeartbeats 4000000 in
theorem Few13_any (l : List Int) (A : Option Addr) (cap : Nat) (w : World) (hl : l.length ≤ 9223372036854775807) (h64 : I64s l) (hr : Row w w.heap.size A (l.map (.int .i64))) :
    Calls Tryz.prog 13 #[.slice A l.length cap] w (GapPost w (few13 l)) := by
  obtain ⟨i0, hi, hz0, hz1, hz2⟩ := info_parts inf_int
  have Hr := Lib.hid hr
  have H64 := Lib.hid h64
  obtain ⟨n, hn⟩ : ∃ n, l.length = n := ⟨_, rfl⟩
  rw [hn] at hl ⊢
  have Hn := Lib.hid hn
  clear hr hn h64
  go_enter Tryz.func13, Tryz.ntmps13
  go_wp2
  go_loopw [3, 4] (fun o i wr => ∃ (m : Nat) (A' : Option Addr) (c : Nat), m ≤ n ∧ m ≤ 150 ∧ i = .int .i64 m ∧ o = .slice A' m c ∧ c ≤ 9223372036854775807 ∧ wr.ownsRow w.heap.size 3 1 (.slice A' m c) m (((l.take m).map clipZ).map (.int .i64)) ∧ Below w.heap.size w wr) (fun _ i _ => 150 - (intOf i).toNat)
  case atStart => exact ⟨0, none, 0, by omega, by omega, rfl, rfl, by omega, World.ownsRow_nil _ _ _ _, Below.refl _ _⟩
  case round =>
    obtain ⟨m, A', c, hm, hm150, rfl, rfl, hc63, hown, hbel⟩ := hrel
    have Hown := Lib.hid hown
    have Hbel := Lib.hid hbel
    have Hge := Lib.hid (own_block_ge hown)
    have Hc63 := Lib.hid hc63
    clear hown hbel hc63
    by_cases hlk : m < n ∧ m < 150
    · obtain ⟨h1, h2⟩ := hlk
      have t1 : decide ((m : Int) < (n : Int)) = true := decide_eq_true (by omega)
      have t2 : decide ((m : Int) < 150) = true := decide_eq_true (by omega)
      have t3 : (m : Int) < (n : Int) := by omega
      obtain ⟨x, hx⟩ := list_get (k := m) Hn.out h1
      obtain ⟨b, off, hA, hb, k0⟩ := Hr.out m (.int .i64 x) (by rw [List.getElem?_map, hx]; rfl)
      have k1 := (Hbel.out.cell (p := ⟨b, off + m, none⟩) hb).trans k0
      subst hA
      obtain ⟨x1, x2⟩ := H64.out x (List.mem_of_getElem? hx)
      have HS := Lib.hid (map_take_succ clipZ hx)
      have HC := Lib.hid (show clipZ x = if 32767 < x ∨ x < -32768 then x.tmod 32768 else x from rfl)
      have hT := clipZ_bd x
      obtain ⟨T, hTT⟩ : ∃ T, x.tmod 32768 = T := ⟨_, rfl⟩
      have hwr : IntKind.i64.wrap T = T := by
        have := Int.tmod_lt_of_pos x (b := 32768) (by decide)
        have h2 := Int.tmod_lt_of_pos (-x) (b := 32768) (by decide)
        rw [Int.neg_tmod] at h2
        exact IntWalk.i64_in _ (by omega)
      rw [hTT] at HC
      have cs : (decide (32767 < x) = true ∧ clipZ x = T) ∨ (decide (32767 < x) = false ∧ decide (x < -32768) = true ∧ clipZ x = T) ∨ (decide (32767 < x) = false ∧ decide (x < -32768) = false ∧ clipZ x = x) := by
        by_cases h1 : 32767 < x
        · exact .inl ⟨decide_eq_true h1, by rw [HC.out, if_pos (.inl h1)]⟩
        · by_cases h2 : x < -32768
          · exact .inr (.inl ⟨decide_eq_false h1, decide_eq_true h2, by rw [HC.out, if_pos (.inr h2)]⟩)
          · exact .inr (.inr ⟨decide_eq_false h1, decide_eq_false h2, by rw [HC.out, if_neg (by omega)]⟩)
      clear hx k0 hT x1 x2 HC
      rcases cs with ⟨e1, hcl⟩ | ⟨e1, e2, hcl⟩ | ⟨e1, e2, hcl⟩
      all_goals
        have HCl := Lib.hid hcl
        clear hcl
        go_wp2_with (at_builtin; refine wpList_app _ rfl (.tmp 28) (.tmp 30) 22 rfl w.heap.size 3 i0 (.int .i64 0) 1 8 Tryz.underlying22 hi hz0 hz1 hz2 rfl (by omega) _ m _ rfl (Hown.out.alloc _) (wr.heap.size + 1) (some ⟨wr.heap.size, 0, none⟩) 1 1 [.int .i64 _] rfl rfl (Row.new wr _ _) (fun u hu => by simp at hu; subst hu; rfl) (by omega) (by omega) (by have := Hbel.out.size; simp; omega) ?_; intro A2 cc w2 hown2 hgrow hat hcc)
        go_roundw
        case rel =>
          have hb2 : Below w.heap.size w w2 := (Hbel.out.alloc Hbel.out.size _).grown hgrow (by have := Hbel.out.size; simp; omega) (fun g h => Hge.out g h)
          exact ⟨m + 1, A2, cc, by omega, by omega, by go_num, rfl, own_cap hown2, by rw [HS.out, HCl.out, List.map_append]; exact hown2, hb2⟩
        case measure => simp [intOf]; omega
    · have hend : m = n ∨ m = 150 := by omega
      have HE := Lib.hid (show few13 l = (l.take m).map clipZ by
        unfold few13
        rcases hend with h | h
        · rw [List.take_of_length_le (by rw [Hn.out]; omega), List.take_of_length_le (by rw [Hn.out]; omega)]
        · rw [h])
      have HL := Lib.hid (show ((l.take m).map clipZ).length = m by rw [List.length_map, List.length_take, Hn.out]; omega)
      have hds : (¬ ((m : Int) < (n : Int)) ∧ decide ((m : Int) < (n : Int)) = false) ∨ ((m : Int) < (n : Int) ∧ decide ((m : Int) < (n : Int)) = true ∧ ¬ ((m : Int) < 150) ∧ decide ((m : Int) < 150) = false) := by
        by_cases h : m < n
        · exact .inr ⟨by omega, decide_eq_true (by omega), by omega, decide_eq_false (by omega)⟩
        · exact .inl ⟨by omega, decide_eq_false (by omega)⟩
      clear hlk hend
      rcases hds with ⟨e0, e1⟩ | ⟨e0, e1, e3, e2⟩
      all_goals
        go_wp2
        go_ret
        rw [HE.out]
        exact ⟨A', c, by rw [HL.out]; rfl, by rw [HL.out]; exact own_len Hown.out, Hc63.out, Row.of_own Hown.out, Hbel.out⟩
end Go.Proofs.YthmgjielcmjenaaGreat

namespace Go.Proofs.YthmgjielcmjenaaGreat
open Go.RowKit

theorem toList_made_rep (z : Array Value) (v : Value) (hp : 0 < z.size) (hz : ∀ j, j < z.size → z[j]! = v) (n : Nat) : (madeCells z n).toList = List.replicate n v := by
  unfold madeCells
  rw [Array.toList_map, Array.toList_range]
  apply List.ext_getElem?
  intro j
  rw [List.getElem?_map, List.getElem?_replicate]
  rcases Nat.lt_or_ge j n with hj | hj
  · rw [List.getElem?_range hj, if_pos hj]
    simp only [Option.map_some]
    rw [hz _ (Nat.mod_lt _ hp)]
  · rw [List.getElem?_eq_none (by simpa using hj), if_neg (by omega)]; rfl
/-- a new row of structs or arrays, all of whose cells are alike -/
theorem wpList_make_rows {P : Program} (w : World) {ops : Array Oper} {rest : List Oper} {o : Oper} {a : Act} {Q : Exit → Act → World → Prop}
    (hg : o.guard = none) (l c : Operand) (t : TypeId) (hop : o.op = Op.makeSlice t l c)
    (e : TypeId) (i : TypeInfo) (z : Value) (size : Nat) (ht : P.underlying t = some (.slice e)) (hi : P.info? e = some i) (hz : i.zero = some z) (hsize : i.size = size)
    (kl kc : IntKind) (n : Nat) (hl : a.eval l = .int kl (n : Int)) (hc : a.eval c = .int kc (n : Int)) (hbytes : i.bytes * n ≤ 281474976710656) (h63 : n ≤ 9223372036854775807)
    (hK : wpList P ops Q rest (a.put o.dst (.slice (some ⟨w.heap.size, 0, none⟩) n n)) (w.alloc (.cells (madeCells z.cells (n * size)) e))) :
    wpList P ops Q (o :: rest) a w := by
  refine wpList_plain hg fun K hK' => ?_
  have hb' : (i.bytes : Int) * (n : Int) ≤ 281474976710656 := by
    have h : ((i.bytes * n : Nat) : Int) ≤ 281474976710656 := by omega
    rwa [Int.natCast_mul] at h
  have hrun := run_make (P := P) w t e i z ht hi hz kl kc n n (by omega) (Int.le_refl _) hb' (by omega)
  simp only [Int.toNat_natCast, hsize] at hrun
  unfold Oper.wp
  simp [execOp, hop, hl, hc, hrun, Result.andThen]
  exact hK' _ _ hK
theorem inf_blk : (Tryz.prog.info? 40).map (fun i => (i.zero, i.size, i.bytes)) = some (some (.agg (List.replicate 16 (Value.int .i64 0)).toArray), 16, 128) := by kernel_rfl

/-- samples in blocks, one behind the other, the last one filled up -/
def padTo (l : List Int) (c m : Nat) : List Int := (List.range (c * 16)).map fun k => if k < m then bgt l k else 0
def padZ (l : List Int) : List Int := (List.range (countN l.length * 16)).map (bgt l)
theorem padTo_succ (l : List Int) {c m : Nat} (hm : m < c * 16) : (padTo l c m).set m (bgt l m) = padTo l c (m + 1) := by
  refine range_map_set _ (fun k => if k < m + 1 then bgt l k else 0) hm ?_ (fun i hi => ?_)
  · rw [if_pos (by omega)]
  · by_cases h : i < m
    · rw [if_pos h, if_pos (by omega)]
    · rw [if_neg h, if_neg (by omega)]
theorem bgt_out {l : List Int} {k : Nat} (h : l.length ≤ k) : bgt l k = 0 := by
  unfold bgt
  rw [List.getD_eq_getElem?_getD, List.getElem?_eq_none h]; rfl
theorem padTo_all (l : List Int) : padTo l (countN l.length) l.length = padZ l := by
  unfold padTo padZ
  apply List.map_congr_left
  intro k _
  split
  · rfl
  · rw [bgt_out (by omega)]
theorem padTo_get (l : List Int) {c m : Nat} (hm : m < c * 16) : (padTo l c m)[m]? = some 0 := by
  unfold padTo
  rw [range_map_get _ hm, if_neg (by omega)]
theorem padTo_zero (l : List Int) (c : Nat) : (padTo l c 0).map (Value.int .i64) = List.replicate (c * 16) (.int .i64 0) := by
  unfold padTo
  apply List.ext_getElem?
  intro i
  rw [List.getElem?_map, List.getElem?_map, List.getElem?_replicate]
  rcases Nat.lt_or_ge i (c * 16) with hi | hi
  · rw [List.getElem?_range hi, if_pos hi]; simp
  · rw [List.getElem?_eq_none (by simpa using hi), if_neg (by omega)]; rfl
/-- new blocks -/
def NewBlocks (W : World) (c : Nat) (xs : List Int) (e : Ending) (w' : World) : Prop :=
  ∃ g, e = .returned (.slice (some ⟨g, 0, none⟩) c c) ∧ W.heap.size ≤ g ∧ Blk w' g 40 (xs.map (.int .i64)) ∧ Below W.heap.size W w'

set_option maxRecDepth 100000 in
set_option maxHeartbeats 2000000 in
theorem Blocks_any (l : List Int) (A : Option Addr) (cap : Nat) (w : World) (hl : l.length ≤ 1000000000) (hr : Row w w.heap.size A (l.map (.int .i64))) :
    Calls Tryz.prog 38 #[.slice A l.length cap] w (NewBlocks w (countN l.length) (padZ l)) := by
  have Hr := Lib.hid hr
  unfold NewBlocks
  rw [← padTo_all]
  have HCn := Lib.hid (fun W => Count_any l.length W hl)
  have hcb : l.length ≤ countN l.length * 16 := by unfold countN; omega
  have hcc : countN l.length ≤ 1000000000 := by unfold countN; omega
  obtain ⟨n, hn⟩ : ∃ n, l.length = n := ⟨_, rfl⟩
  rw [hn] at hl hcb hcc HCn ⊢
  generalize countN n = c at *
  have Hn := Lib.hid hn
  obtain ⟨i0, hi, hz0, hz1, hz2⟩ : ∃ i, Tryz.prog.info? 40 = some i ∧ i.zero = some (.agg (List.replicate 16 (Value.int .i64 0)).toArray) ∧ i.size = 16 ∧ i.bytes = 128 := by
    have := inf_blk
    cases h : Tryz.prog.info? 40 with
    | none => rw [h] at this; cases this
    | some i =>
      rw [h] at this
      simp only [Option.map_some, Option.some.injEq, Prod.mk.injEq] at this
      exact ⟨i, rfl, this.1, this.2.1, this.2.2⟩
  have Hms := Lib.hid (show (madeCells (Value.agg (List.replicate 16 (Value.int .i64 0)).toArray).cells (c * 16)).toList = List.replicate (c * 16) (.int .i64 0) from toList_made_rep _ _ (by decide) (fun j hj => by
    have hj16 : j < 16 := hj
    have hk : j = 0 ∨ j = 1 ∨ j = 2 ∨ j = 3 ∨ j = 4 ∨ j = 5 ∨ j = 6 ∨ j = 7 ∨ j = 8 ∨ j = 9 ∨ j = 10 ∨ j = 11 ∨ j = 12 ∨ j = 13 ∨ j = 14 ∨ j = 15 := by omega
    rcases hk with rfl | rfl | rfl | rfl | rfl | rfl | rfl | rfl | rfl | rfl | rfl | rfl | rfl | rfl | rfl | rfl <;> rfl) _)
  obtain ⟨mc, hmc⟩ : ∃ mc, madeCells (Value.agg (List.replicate 16 (Value.int .i64 0)).toArray).cells (c * 16) = mc := ⟨_, rfl⟩
  rw [hmc] at Hms
  have hmc2 : mc = ((padTo l c 0).map (Value.int .i64)).toArray := by
    apply Array.toList_inj.1
    rw [Hms.out, padTo_zero]
  have HB0 := Lib.hid (show Blk (w.alloc (.cells mc 40)) w.heap.size 40 ((padTo l c 0).map (.int .i64)) by rw [hmc2]; exact Blk.new w _ _)
  clear hr hn hmc2 Hms
  go_enter Tryz.func38, Tryz.ntmps38
  go_wp2_with (first | (go_at_call 36; refine (HCn.out _).mono ?_; rintro e w1 ⟨rfl, rfl⟩) | (refine wpList_make_rows w rfl (.tmp 8) (.tmp 8) 68 rfl 40 i0 (.agg (List.replicate 16 (Value.int .i64 0)).toArray) 16 Tryz.underlying68 hi hz0 hz1 .i64 .i64 c rfl rfl (by rw [hz2]; omega) (by omega) ?_; rw [hmc]))
  go_loopw [12] (fun i wr => ∃ m : Nat, m ≤ n ∧ i = .int .i64 m ∧ Blk wr w.heap.size 40 ((padTo l c m).map (.int .i64)) ∧ Below w.heap.size w wr) (fun i _ => n - (intOf i).toNat)
  case atStart => exact ⟨0, by omega, rfl, HB0.out, bnew w _⟩
  case round =>
    obtain ⟨m, hm, rfl, hB, hbel⟩ := hrel
    have HB := Lib.hid hB
    have Hbel := Lib.hid hbel
    clear HB0
    by_cases hlk : m < n
    · have t1 : (m : Int) < (n : Int) := by omega
      obtain ⟨x, hx⟩ := list_get (k := m) Hn.out hlk
      obtain ⟨b, off, hA, hb, k0⟩ := Hr.out m (.int .i64 x) (by rw [List.getElem?_map, hx]; rfl)
      have k1 := (Hbel.out.cell (p := ⟨b, off + m, none⟩) hb).trans k0
      subst hA
      obtain ⟨q, hq⟩ : ∃ q, m / 16 = q := ⟨_, rfl⟩
      obtain ⟨r, hrr⟩ : ∃ r, m % 16 = r := ⟨_, rfl⟩
      have hqr : q * 16 + r = m := by omega
      have hmc16 : m < c * 16 := by omega
      have HS := Lib.hid (show (padTo l c m).set m x = padTo l c (m + 1) by rw [← padTo_succ l hmc16, bgt_get hx])
      have ce : wr.cell? ⟨w.heap.size, q * 16 + r, none⟩ = some (.int .i64 0) := by rw [hqr, hB.cell, List.getElem?_map, padTo_get l hmc16]; rfl
      have fz := hB.frozen (q * 16 + r)
      have t2 : (m : Int) / 16 = (q : Int) := by omega
      have t3 : (m : Int) % 16 = (r : Int) := by omega
      have t4 : (q : Int) < (c : Int) := by omega
      have t5 : (r : Int) < 16 := by omega
      have t6 : (0 : Int) ≤ (q : Int) := by omega
      have t7 : (0 : Int) ≤ (r : Int) := by omega
      have Hqr := Lib.hid hqr
      clear hx k0 hB hbel hq hrr hqr
      go_wp2
      go_roundw
      case rel =>
        refine ⟨m + 1, by omega, by go_num, ?_, Hbel.out.setCell (by simp) _⟩
        rw [← HS.out, List.map_set, Hqr.out]
        exact HB.out.set_ m _
      case measure => simp [intOf]; omega
    · have hmn : m = n := by omega
      have t1 : ¬ ((m : Int) < (n : Int)) := by omega
      subst hmn
      go_wp2
      go_ret
      exact ⟨w.heap.size, rfl, Nat.le_refl _, HB.out, Hbel.out⟩
end Go.Proofs.YthmgjielcmjenaaGreat

namespace Go.Proofs.YthmgjielcmjenaaGreat
open Go.RowKit

theorem flat_take (l : List Int) (m : Nat) : (l.take ((m + 1) * 16)).map (Value.int .i64) = (l.take (m * 16)).map (Value.int .i64) ++ ((l.drop (m * 16)).take 16).map (.int .i64) := by
  rw [← List.map_append, show (m + 1) * 16 = m * 16 + 16 by omega, List.take_add]
/-- the first so many samples of blocks -/
def firstZ (l : List Int) (n : Int) : List Int := l.take (max (min n (l.length : Int)) 0).toNat
set_option maxRecDepth 100000 in
set_option maxHeartbeats 4000000 in
theorem LSamples_any (l : List Int) (c : Nat) (A : Option Addr) (cap : Nat) (k : Int) (w : World) (hl : l.length = c * 16) (hc : c ≤ 1000000) (hr : Row w w.heap.size A (l.map (.int .i64))) :
    Calls Tryz.prog 56 #[.slice A c cap, .int .i64 k] w (GapPost w (firstZ l k)) := by
  obtain ⟨i0, hi, hz0, hz1, hz2⟩ := info_parts inf_i64
  have Hr := Lib.hid hr
  have Hl := Lib.hid hl
  have hFe : firstZ l k = l.take (max (min k ((c * 16 : Nat) : Int)) 0).toNat := by unfold firstZ; rw [hl]
  rw [hFe]
  have HFb := Lib.hid inf_block
  clear hr hl hFe
  go_enter Tryz.func56, Tryz.ntmps56
  go_wp2
  go_loopw [5, 10] (fun o i wr => ∃ (m : Nat) (A' : Option Addr) (cc : Nat), m ≤ c ∧ i = .int .i64 m ∧ o = .slice A' (m * 16) cc ∧ cc ≤ 9223372036854775807 ∧ wr.ownsRow w.heap.size 2 1 (.slice A' (m * 16) cc) (m * 16) ((l.take (m * 16)).map (.int .i64)) ∧ Below w.heap.size w wr) (fun _ i _ => c - (intOf i).toNat)
  case atStart => exact ⟨0, none, 0, by omega, rfl, rfl, by omega, World.ownsRow_nil _ _ _ _, Below.refl _ _⟩
  case round =>
    obtain ⟨m, A', cc, hm, rfl, rfl, hc63, hown, hbel⟩ := hrel
    have Hown := Lib.hid hown
    have Hbel := Lib.hid hbel
    have Hge := Lib.hid (own_block_ge hown)
    have Hc63 := Lib.hid hc63
    clear hown hbel hc63
    by_cases hlk : m < c
    · have t3 : (m : Int) < (c : Int) := by omega
      obtain ⟨xs, hxs⟩ : ∃ xs, ((l.drop (m * 16)).take 16).map (Value.int .i64) = xs := ⟨_, rfl⟩
      have hxl : xs.length = 16 := by rw [← hxs, List.length_map, List.length_take, List.length_drop, Hl.out]; omega
      have hx1 : ∀ u ∈ xs, u.oneCell' = true := by
        intro u hu
        rw [← hxs] at hu
        obtain ⟨y, _, rfl⟩ := List.mem_map.1 hu
        rfl
      obtain ⟨x0, hx0⟩ := list_get (k := m * 16) Hl.out (by omega)
      obtain ⟨b, off, hA, hb, _⟩ := Hr.out (m * 16) (.int .i64 x0) (by rw [List.getElem?_map, hx0]; rfl)
      have HX := Lib.hid (fun (j : Nat) (v : Value) (hv : xs[j]? = some v) => (show wr.cell? ⟨b, off + m * 16 + j, none⟩ = some v by
        have hj : j < 16 := by have := (List.getElem?_eq_some_iff.1 hv).1; omega
        rw [← hxs, List.getElem?_map, List.getElem?_take, if_pos hj, List.getElem?_drop] at hv
        obtain ⟨b', off', hA', hb', k0⟩ := Hr.out (m * 16 + j) v (by rw [List.getElem?_map]; exact hv)
        rw [hA] at hA'
        injection hA' with hA'
        injection hA' with e1 e2
        subst e1 e2
        rw [Nat.add_assoc]
        exact (Hbel.out.cell (p := ⟨b, off + (m * 16 + j), none⟩) hb).trans k0))
      subst hA
      have HS := Lib.hid (show (l.take ((m + 1) * 16)).map (Value.int .i64) = (l.take (m * 16)).map (Value.int .i64) ++ xs by rw [flat_take, hxs])
      have HFx := Lib.hid (show (Tryz.prog.info? 40).map (·.size) = some xs.length by rw [hxl]; exact HFb.out)
      have HFy := Lib.hid (show (Tryz.prog.info? 40).map (·.size) = some xs.toArray.size by rw [List.size_toArray, hxl]; exact HFb.out)
      have Hxl := Lib.hid hxl
      have Hx1 := Lib.hid hx1
      have Hone := Lib.hid (show xs.toArray.all (·.oneCell') = true by
        rw [Array.all_eq_true_iff_forall_mem]
        intro v hv
        exact hx1 v (by simpa using hv))
      clear hx0 hxs hxl hx1
      go_wp2_with (first | (refine wpList_load_part_w rfl 40 (.tmp 12) rfl b (off + m * 16) rfl xs _ HX.out Tryz.underlying40 rfl HFx.out ?_) | (refine wpList_store_row_w rfl 40 (.tmp 7) (.tmp 13) rfl wr.heap.size rfl _ _ xs.toArray rfl (heap_alloc_new wr _) HFy.out (by show (16 : Nat) = _; rw [List.size_toArray, Hxl.out]) Hone.out ?_; rw [World.setRow_alloc_new]) | (at_builtin; refine wpList_app _ rfl (.tmp 14) (.tmp 15) 64 rfl w.heap.size 2 i0 (.int .i64 0) 1 8 Tryz.underlying64 hi hz0 hz1 hz2 rfl (by omega) _ (m * 16) _ rfl (Hown.out.alloc _) (wr.heap.size + 1) (some ⟨wr.heap.size, 0, none⟩) 16 16 xs rfl (by rw [Hxl.out]) (Row.new wr _ xs) Hx1.out (by omega) (by omega) (by have := Hbel.out.size; simp; omega) ?_; intro A2 cc2 w2 hown2 hgrow hat hcc))
      go_roundw
      case rel =>
        have hb2 : Below w.heap.size w w2 := (Hbel.out.alloc Hbel.out.size _).grown hgrow (by have := Hbel.out.size; simp; omega) (fun g h => Hge.out g h)
        rw [← HS.out, show m * 16 + 16 = (m + 1) * 16 by omega] at hown2
        exact ⟨m + 1, A2, cc2, by omega, by go_num, by rw [show (m + 1) * 16 = m * 16 + 16 by omega], own_cap hown2, hown2, hb2⟩
      case measure => simp [intOf]; omega
    · have t3 : ¬ ((m : Int) < (c : Int)) := by omega
      have hmc : m = c := by omega
      subst hmc
      have hcap := own_len Hown.out
      obtain ⟨N, hN⟩ : ∃ N, m * 16 = N := ⟨_, rfl⟩
      rw [hN] at Hown hcap ⊢
      have Hown2 := Lib.hid Hown.out
      have HlN := Lib.hid (show l.length = N by rw [Hl.out, hN])
      have hT0 : 0 ≤ max (min k (N : Int)) 0 := by omega
      obtain ⟨T, hT⟩ := Int.eq_ofNat_of_zero_le hT0
      have HT := Lib.hid (show (max (min k (N : Int)) 0).toNat = T by rw [hT, Int.toNat_natCast])
      have hTN : T ≤ N := by omega
      have hmin : ∀ W, (Builtin.min_ #[3, 3] 3 #[.int .i64 k, .int .i64 (N : Int)]).run Tryz.prog W = .ok (.int .i64 (min k (N : Int))) W := fun W => by
        have e : (if (N : Int) < k then (N : Int) else k) = min k (N : Int) := by split <;> omega
        simp [Builtin.min_, Builtin.min2, e]
      obtain ⟨kk, hkk⟩ : ∃ kk, min k (N : Int) = kk := ⟨_, rfl⟩
      rw [hkk] at hT hT0 hmin
      have hmax : ∀ W, (Builtin.max_ #[3, 3] 3 #[.int .i64 kk, .int .i64 0]).run Tryz.prog W = .ok (.int .i64 (T : Int)) W := fun W => by
        have e : (if kk < 0 then 0 else kk) = (T : Int) := by rw [← hT]; split <;> omega
        simp [Builtin.max_, Builtin.max2, e]
      clear hT0 hT hkk
      have s1 : (T : Int) ≤ (cc : Int) := by omega
      have s2 : (0 : Int) ≤ (T : Int) := by omega
      go_wp2
      go_ret
      rw [HT.out]
      have hlen : (l.take T).length = T := by rw [List.length_take, HlN.out]; omega
      refine ⟨A', cc, by rw [hlen]; rfl, by rw [hlen]; omega, Hc63.out, ?_, Hbel.out⟩
      rw [List.map_take]
      have := (Row.of_own Hown2.out).take T
      rw [List.take_of_length_le (l := l) (by rw [HlN.out]; exact Nat.le_refl _)] at this
      exact this
end Go.Proofs.YthmgjielcmjenaaGreat
