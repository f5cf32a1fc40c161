/- Plain law of layer 12: what the search finds has room, and may be. No condition but each theorem's own. -/
import Derived.Test.YtibegmjkiceiiaaFitP
namespace Go.Proofs.Ytibegmjkiceiiaa

theorem big_tones : ∀ (l : List ToneV), (∀ t ∈ l, t.big) → ∃ ts : List BTone, ts.map BTone.t = l
  | [], _ => ⟨[], rfl⟩
  | t :: r, h => by
    obtain ⟨ts, hts⟩ := big_tones r (fun x hx => h x (by simp [hx]))
    exact ⟨⟨t, h t (by simp)⟩ :: ts, by simp [hts]⟩
theorem findT_len2 {b : List Int} (hb : b.length = 16) (hr : BigB b) : (findT b).length ≤ 2 := by
  obtain ⟨ts, hts⟩ := big_tones (tonesTo b 16) (by
    intro t ht
    unfold tonesTo at ht
    obtain ⟨k, hk, rfl⟩ := List.mem_map.1 ht
    have hk16 := List.mem_range.1 (List.mem_filter.1 hk).1
    obtain ⟨x, hx⟩ := list_get hb hk16
    have := hr k x hx
    unfold ToneV.big toneAt
    simp only
    rw [bgt_get hx]
    omega)
  rw [← sorted_twice b ts hts, List.length_map, sortL_len (ltOf cmpIdx) swo_idx, List.length_take]
  omega
theorem near_pos {v : Int} (hv : 0 ≤ v) (p : Nat) : 0 ≤ nearZ v p ∧ nearZ v p ≤ v := by
  unfold nearZ
  split
  · omega
  · rename_i hp
    obtain ⟨k, rfl⟩ : ∃ k, p = k + 1 := ⟨p - 1, by omega⟩
    have hd : (0 : Int) < 2 ^ k := Int.pow_pos (by decide)
    have e : (2 : Int) ^ (k + 1) = 2 * 2 ^ k := by rw [Int.pow_succ]; omega
    rw [Int.tdiv_eq_ediv_of_nonneg hv, Int.tmod_eq_emod_of_nonneg hv, Nat.add_sub_cancel, e]
    generalize (2 : Int) ^ k = d at *
    have h1 := Int.mul_ediv_add_emod v (2 * d)
    have h2 := Int.emod_nonneg v (b := 2 * d) (by omega)
    have h3 := Int.emod_lt_of_pos v (b := 2 * d) (by omega)
    have h4 : 0 ≤ v / (2 * d) := Int.ediv_nonneg hv (by omega)
    generalize v / (2 * d) = q at *
    generalize v % (2 * d) = r at *
    have h5 : 2 * q ≤ 2 * d * q := Int.mul_le_mul_of_nonneg_right (by omega) h4
    split
    · omega
    · split <;> omega
theorem near_neg (v : Int) (p : Nat) : nearZ (-v) p = -nearZ v p := by
  unfold nearZ
  split
  · rfl
  · have hd : (0 : Int) < 2 ^ (p - 1) := Int.pow_pos (by decide)
    rw [Int.neg_tdiv, Int.neg_tmod]
    generalize (2 : Int) ^ (p - 1) = d at *
    generalize v.tdiv (2 ^ p) = q at *
    generalize v.tmod (2 ^ p) = r at *
    repeat' split
    all_goals omega
theorem near_bd {v B : Int} (h1 : -B ≤ v) (h2 : v ≤ B) (p : Nat) : -B ≤ nearZ v p ∧ nearZ v p ≤ B := by
  rcases Int.lt_or_le v 0 with h | h
  · have := near_pos (v := -v) (by omega) p
    rw [near_neg] at this
    omega
  · have := near_pos h p
    omega
theorem near_top {v : Int} {p : Nat} (h1 : -(2 ^ p) < v) (h2 : v < 2 ^ p) (hp : p ≠ 0) : -1 ≤ nearZ v p ∧ nearZ v p ≤ 1 := by
  unfold nearZ
  rw [if_neg hp]
  have e : v.tdiv (2 ^ p) = 0 := by
    rcases Int.lt_or_le v 0 with h | h
    · have : (-v).tdiv (2 ^ p) = 0 := Int.tdiv_eq_zero_of_lt (by omega) (by omega)
      rw [Int.neg_tdiv] at this; omega
    · exact Int.tdiv_eq_zero_of_lt h h2
  rw [e]
  repeat' split
  all_goals omega

/-- the tones of a spectrum are in order -/
theorem findT_inc (b : List Int) : (findT b).Pairwise fun x y => x.idx < y.idx := by
  rw [find_idxs, List.pairwise_map]
  refine ((range_inc 16).filter _).imp fun {a c} h => ?_
  show (a : Int) < (c : Int)
  omega
theorem stepsTo_bgt (b s : List Int) {m k : Nat} (hk : k < 16) : bgt (stepsTo b s m) k = if k < m then nearZ (bgt b k) (bgt s (k / 4)).toNat else bgt b k := bgt_get (range_map_get _ hk)
theorem valuesTo_bgt (b s : List Int) {m k : Nat} (hk : k < 16) : bgt (valuesTo b s m) k = if k < m then bgt b k * 2 ^ (bgt s (k / 4)).toNat else bgt b k := bgt_get (range_map_get _ hk)
theorem widths_bgt (q : List Int) {i : Nat} (hi : i < 4) : bgt (widthsZ q) i = (widthTo q 16 i : Int) := bgt_get (widthsTo_get q 16 hi)

/-- scales, each in its bounds -/
def ScB (s : List Int) : Prop := s.length = 4 ∧ ∀ i, i < 4 → 0 ≤ bgt s i ∧ bgt s i ≤ 23
theorem ScB.ok {s : List Int} (h : ScB s) : scaleOk s = true := by
  unfold scaleOk
  rw [List.all_eq_true]
  intro x hx
  obtain ⟨i, hi, rfl⟩ := List.mem_iff_getElem.1 hx
  have := h.2 i (by have := h.1; omega)
  rw [bgt_get (List.getElem?_eq_getElem hi)] at this
  simp; omega
theorem ScB.zero : ScB zero4 := ⟨rfl, fun i hi => by
  match i, hi with
  | 0, _ | 1, _ | 2, _ | 3, _ => simp [bgt, zero4]⟩
theorem ScB.inc {s : List Int} (h : ScB s) {i : Nat} (hi : i < 4) (h2 : bgt s i < 23) : ScB (s.set i (bgt s i + 1)) := by
  refine ⟨by simp [h.1], fun k hk => ?_⟩
  rw [bgt_set _ _ _ _ (by have := h.1; omega)]
  have h3 := h.2 i hi
  have h4 := h.2 k hk
  split <;> omega
theorem sumS_set {s : List Int} (h : ScB s) {i : Nat} (hi : i < 4) (v : Int) : sumS (s.set i v) = sumS s + v - bgt s i := by
  unfold sumS
  have hl := h.1
  rw [bgt_set _ _ _ _ (by omega), bgt_set _ _ _ _ (by omega), bgt_set _ _ _ _ (by omega), bgt_set _ _ _ _ (by omega)]
  match i, hi with
  | 0, _ | 1, _ | 2, _ | 3, _ => simp <;> omega
theorem ScB.sum {s : List Int} (h : ScB s) : 0 ≤ sumS s ∧ sumS s ≤ 92 := by
  unfold sumS
  have h0 := h.2 0 (by omega)
  have h1 := h.2 1 (by omega)
  have h2 := h.2 2 (by omega)
  have h3 := h.2 3 (by omega)
  omega
/-- where the search ends -/
theorem search_end (b g : List Int) (room : Int) (l : List ToneV) (mask : List Int) : ∀ (fuel : Nat) (s : List Int) (n : Nat), ScB s → sumS s + (fuel : Int) = 92 →
    ∃ s' n', searchFrom b g room l mask fuel s n = (toldZ b g s' l, n') ∧ ScB s' ∧ (bitsZ (toldZ b g s' l) ≤ room ∨ nextTo (toldZ b g s' l).width s' mask 4 < 0) := by
  intro fuel
  induction fuel with
  | zero =>
    intro s n hs hsum
    refine ⟨s, n, rfl, hs, .inr ?_⟩
    rcases Int.lt_or_le (nextTo (toldZ b g s l).width s mask 4) 0 with h | h
    · exact h
    · have h1 := nextTo_ok (toldZ b g s l).width s mask 4 h
      have h2 := nextTo_bd (toldZ b g s l).width s mask 4
      generalize nextTo (toldZ b g s l).width s mask 4 = x at *
      obtain ⟨k, rfl⟩ := Int.eq_ofNat_of_zero_le h
      rw [Int.toNat_natCast] at h1
      have h3 : k < 4 := by omega
      unfold sumS at hsum
      have a0 := hs.2 0 (by omega)
      have a1 := hs.2 1 (by omega)
      have a2 := hs.2 2 (by omega)
      have a3 := hs.2 3 (by omega)
      match k, h3, h1 with
      | 0, _, h1 | 1, _, h1 | 2, _, h1 | 3, _, h1 => omega
  | succ fuel ih =>
    intro s n hs hsum
    unfold searchFrom
    simp only
    split
    · rename_i h
      exact ⟨s, n, rfl, hs, h⟩
    · rename_i h
      have h0 : 0 ≤ nextTo (toldZ b g s l).width s mask 4 := by omega
      have h1 := nextTo_ok (toldZ b g s l).width s mask 4 h0
      have h2 := nextTo_bd (toldZ b g s l).width s mask 4
      generalize nextTo (toldZ b g s l).width s mask 4 = x at *
      obtain ⟨k, rfl⟩ := Int.eq_ofNat_of_zero_le h0
      rw [Int.toNat_natCast] at h1 ⊢
      have h3 : k < 4 := by omega
      exact ih _ _ (hs.inc h3 h1.2) (by rw [sumS_set hs h3]; omega)
theorem search_ends (b g : List Int) (room : Int) (tones : Bool) : ∃ s' n', searchZ b g room tones = (toldZ b g s' (tonesFor b tones), n') ∧ ScB s' ∧
    (bitsZ (toldZ b g s' (tonesFor b tones)) ≤ room ∨ nextTo (toldZ b g s' (tonesFor b tones)).width s' (maskZ (outT b (tonesFor b tones))) 4 < 0) :=
  search_end b g room _ _ 92 zero4 0 ScB.zero rfl

/-- every number is less than 2^23 -/
def Low23 (b : List Int) : Prop := ∀ k, k < 16 → -8388608 < bgt b k ∧ bgt b k < 8388608
/-- a frame that may be -/
structure RightF (f : FrameV) : Prop where
  gains : f.gains.length = 4 ∧ ∀ i, i < 4 → 0 ≤ bgt f.gains i ∧ bgt f.gains i ≤ 3
  tlen : f.tones.length ≤ 2
  tidx : ∀ t ∈ f.tones, 0 ≤ t.idx ∧ t.idx < 16 ∧ -8388608 ≤ t.val ∧ t.val < 8388608
  tinc : f.tones.Pairwise fun x y => x.idx < y.idx
  scale : ScB f.scale
  wlen : f.width.length = 4
  width : ∀ i, i < 4 → 0 ≤ bgt f.width i ∧ bgt f.width i ≤ 24
  qlen : f.q.length = 16
  q : ∀ k, k < 16 → (widthZ (bgt f.q k) : Int) ≤ bgt f.width (k / 4)
theorem width_24 {v : Int} (h1 : -8388608 < v) (h2 : v < 8388608) : widthZ v ≤ 24 := widthZ_le (k := 23) (by omega) (by omega)
theorem told_right {b g s : List Int} {l : List ToneV} (hg : g.length = 4 ∧ ∀ i, i < 4 → 0 ≤ bgt g i ∧ bgt g i ≤ 3) (h1 : l.length ≤ 2) (h2 : ∀ t ∈ l, 0 ≤ t.idx ∧ t.idx < 16 ∧ -8388608 ≤ t.val ∧ t.val < 8388608)
    (h3 : l.Pairwise fun x y => x.idx < y.idx) (hs : ScB s) (hl : Low23 (outT b l)) : RightF (toldZ b g s l) := by
  have hq : ∀ k, k < 16 → widthZ (bgt (stepsZ (outT b l) s) k) ≤ 24 := by
    intro k hk
    unfold stepsZ
    rw [if_pos hs.ok, stepsTo_bgt _ _ hk, if_pos hk]
    have h := hl k hk
    have h5 := near_bd (v := bgt (outT b l) k) (B := 8388607) (by omega) (by omega) (bgt s (k / 4)).toNat
    exact width_24 (by omega) (by omega)
  refine ⟨hg, h1, h2, h3, hs, widthsTo_len _ _, fun i hi => ?_, stepsZ_len _ _, fun k hk => ?_⟩
  · show 0 ≤ bgt (widthsZ _) i ∧ bgt (widthsZ _) i ≤ 24
    rw [widths_bgt _ hi]
    have := widthTo_le (stepsZ (outT b l) s) 24 hq i 16 (by omega)
    omega
  · show (widthZ (bgt (stepsZ (outT b l) s) k) : Int) ≤ bgt (widthsZ (stepsZ (outT b l) s)) (k / 4)
    rw [widths_bgt _ (by omega)]
    have := widthTo_ge (stepsZ (outT b l) s) (k / 4) 16 k hk rfl
    omega
/-- where no band needs bits that could be told coarser there is room -/
theorem told_room {b g s : List Int} {l : List ToneV} {mask : List Int} (h1 : l.length ≤ 2) (hs : ScB s) (hl : Low23 (outT b l)) (hn : nextTo (toldZ b g s l).width s mask 4 < 0) : bitsZ (toldZ b g s l) ≤ 192 := by
  have hw : ∀ i, i < 4 → bgt (toldZ b g s l).width i ≤ 2 := by
    intro i hi
    have h2 := nextTo_none _ _ _ 4 hn i hi
    have h3 := hs.2 i hi
    show bgt (widthsZ (stepsZ (outT b l) s)) i ≤ 2
    have h2' : ¬ (0 < bgt (widthsZ (stepsZ (outT b l) s)) i ∧ bgt s i < 23) := h2
    rw [widths_bgt _ hi] at h2' ⊢
    by_cases h0 : widthTo (stepsZ (outT b l) s) 16 i = 0
    · omega
    · have h23 : bgt s i = 23 := by omega
      have : ∀ m, m ≤ 16 → widthTo (stepsZ (outT b l) s) m i ≤ 2 := by
        intro m
        induction m with
        | zero => intro _; exact Nat.zero_le _
        | succ m ih =>
          intro hm
          rw [widthTo_succ]
          have h4 := ih (by omega)
          split
          · rename_i hmi
            have h5 : widthZ (bgt (stepsZ (outT b l) s) m) ≤ 2 := by
              unfold stepsZ
              rw [if_pos hs.ok, stepsTo_bgt _ _ (by omega), if_pos (by omega), hmi, h23]
              have h6 := hl m (by omega)
              have h7 := near_top (v := bgt (outT b l) m) (p := (23 : Int).toNat) (by show -(2 ^ 23 : Int) < _; omega) (by show _ < (2 ^ 23 : Int); omega) (by decide)
              exact widthZ_le (k := 1) (by omega) (by omega)
            omega
          · exact h4
      have := this 16 (by omega)
      omega
  have w0 := hw 0 (by omega)
  have w1 := hw 1 (by omega)
  have w2 := hw 2 (by omega)
  have w3 := hw 3 (by omega)
  have hlen : (toldZ b g s l).tones.length ≤ 2 := h1
  unfold bitsZ
  omega
end Go.Proofs.Ytibegmjkiceiiaa
