/- Plain law of layers 9 and 12: steps, widths, masks, the search. No condition but each theorem's own. -/
import Derived.Test.YtbgkoopfdfnmcaaNumP
import Derived.Test.YtbgkoopfdfnmcaaToneJ
namespace Go.Proofs.Ytbgkoopfdfnmcaa

theorem peakZ_take (b : List Int) (k : Nat) {x : Int} (h : b[k]? = some x) : peakZ (b.take (k + 1)) = max (peakZ (b.take k)) (absZ x) := by
  obtain ⟨hk, rfl⟩ := List.getElem?_eq_some_iff.1 h
  rw [List.take_succ_eq_append_getElem hk, peakZ_snoc]
/-- a frame's contents -/
structure FrameV where
  gains : List Int
  tones : List ToneV
  scale : List Int
  width : List Int
  q : List Int
def zero4 : List Int := [0, 0, 0, 0]
def zero16 : List Int := [0, 0, 0, 0, 0, 0, 0, 0, 0, 0, 0, 0, 0, 0, 0, 0]

/-- scales that may be -/
def scaleOk (s : List Int) : Bool := s.all fun x => decide (0 ≤ x) && decide (x ≤ 23)
/-- the steps of a spectrum's first numbers, the others as they were -/
def stepsTo (b s : List Int) (m : Nat) : List Int := (List.range 16).map fun k => if k < m then nearZ (bgt b k) (bgt s (k / 4)).toNat else bgt b k
def stepsZ (b s : List Int) : List Int := if scaleOk s = true then stepsTo b s 16 else zero16
def valuesTo (q s : List Int) (m : Nat) : List Int := (List.range 16).map fun k => if k < m then bgt q k * 2 ^ (bgt s (k / 4)).toNat else bgt q k
def valuesZ (q s : List Int) : List Int := if scaleOk s = true then valuesTo q s 16 else zero16
/-- the widths of the first so many numbers, band by band -/
def widthTo (q : List Int) (m : Nat) (i : Nat) : Nat := (List.range m).foldl (fun w k => if k / 4 = i then max w (widthZ (bgt q k)) else w) 0
def widthsTo (q : List Int) (m : Nat) : List Int := (List.range 4).map fun i => (widthTo q m i : Int)
def widthsZ (q : List Int) : List Int := widthsTo q 16
theorem widthTo_succ (q : List Int) (m i : Nat) : widthTo q (m + 1) i = if m / 4 = i then max (widthTo q m i) (widthZ (bgt q m)) else widthTo q m i := by
  unfold widthTo; rw [List.range_succ, List.foldl_append]; rfl
theorem range_map_get {α : Type} (f : Nat → α) {n k : Nat} (h : k < n) : ((List.range n).map f)[k]? = some (f k) := by
  rw [List.getElem?_map, List.getElem?_range h]; rfl
theorem range_map_set {α : Type} (f g : Nat → α) {n k : Nat} {x : α} (hk : k < n) (h1 : g k = x) (h2 : ∀ i, i ≠ k → g i = f i) : ((List.range n).map f).set k x = (List.range n).map g := by
  apply List.ext_getElem?
  intro i
  rw [List.getElem?_set]
  by_cases h : k = i
  · subst h
    rw [if_pos rfl, if_pos (by simpa using hk), range_map_get g hk, h1]
  · rw [if_neg h, List.getElem?_map, List.getElem?_map]
    rcases Nat.lt_or_ge i n with hi | hi
    · rw [List.getElem?_range hi]; simp [h2 i (fun e => h e.symm)]
    · rw [List.getElem?_eq_none (by simpa using hi)]; rfl
theorem self_map {b : List Int} {n : Nat} (hb : b.length = n) : b = (List.range n).map fun k => bgt b k := by
  apply List.ext_getElem?
  intro i
  rw [List.getElem?_map]
  rcases Nat.lt_or_ge i n with hi | hi
  · obtain ⟨x, hx⟩ := list_get hb hi
    rw [List.getElem?_range hi, hx]
    simp [bgt_get hx]
  · rw [List.getElem?_eq_none (by omega), List.getElem?_eq_none (by simpa using hi)]; rfl
theorem stepsTo_zero {b : List Int} (s : List Int) (hb : b.length = 16) : stepsTo b s 0 = b := by
  rw [self_map hb]; unfold stepsTo
  apply List.map_congr_left
  intro k hk
  have := List.mem_range.1 hk
  rw [if_neg (by omega), ← self_map hb]
theorem stepsTo_succ (b s : List Int) {m : Nat} (hm : m < 16) : (stepsTo b s m).set m (nearZ (bgt b m) (bgt s (m / 4)).toNat) = stepsTo b s (m + 1) := by
  refine range_map_set _ (fun k => if k < m + 1 then nearZ (bgt b k) (bgt s (k / 4)).toNat else bgt b k) hm ?_ (fun i hi => ?_)
  · rw [if_pos (by omega)]
  · by_cases h : i < m
    · rw [if_pos h, if_pos (by omega)]
    · rw [if_neg h, if_neg (by omega)]
theorem valuesTo_zero {b : List Int} (s : List Int) (hb : b.length = 16) : valuesTo b s 0 = b := by
  rw [self_map hb]; unfold valuesTo
  apply List.map_congr_left
  intro k hk
  have := List.mem_range.1 hk
  rw [if_neg (by omega), ← self_map hb]
theorem valuesTo_succ (b s : List Int) {m : Nat} (hm : m < 16) : (valuesTo b s m).set m (bgt b m * 2 ^ (bgt s (m / 4)).toNat) = valuesTo b s (m + 1) := by
  refine range_map_set _ (fun k => if k < m + 1 then bgt b k * 2 ^ (bgt s (k / 4)).toNat else bgt b k) hm ?_ (fun i hi => ?_)
  · rw [if_pos (by omega)]
  · by_cases h : i < m
    · rw [if_pos h, if_pos (by omega)]
    · rw [if_neg h, if_neg (by omega)]
theorem stepsTo_len (b s : List Int) (m : Nat) : (stepsTo b s m).length = 16 := by simp [stepsTo]
theorem valuesTo_len (b s : List Int) (m : Nat) : (valuesTo b s m).length = 16 := by simp [valuesTo]
theorem widthsTo_len (q : List Int) (m : Nat) : (widthsTo q m).length = 4 := by simp [widthsTo]
theorem stepsZ_len (b s : List Int) : (stepsZ b s).length = 16 := by unfold stepsZ; split <;> simp [stepsTo, zero16]
theorem valuesZ_len (b s : List Int) : (valuesZ b s).length = 16 := by unfold valuesZ; split <;> simp [valuesTo, zero16]
theorem stepsTo_get (b s : List Int) {m k : Nat} (hk : k < 16) (hm : m ≤ k) {x : Int} (hx : b[k]? = some x) : (stepsTo b s m)[k]? = some x := by
  unfold stepsTo
  rw [range_map_get _ hk, if_neg (by omega), bgt_get hx]
theorem valuesTo_get (b s : List Int) {m k : Nat} (hk : k < 16) (hm : m ≤ k) {x : Int} (hx : b[k]? = some x) : (valuesTo b s m)[k]? = some x := by
  unfold valuesTo
  rw [range_map_get _ hk, if_neg (by omega), bgt_get hx]
theorem widthsTo_get (q : List Int) (m : Nat) {i : Nat} (hi : i < 4) : (widthsTo q m)[i]? = some (widthTo q m i : Int) := range_map_get _ hi
theorem widthsTo_succ (q : List Int) (m : Nat) (hm : m < 16) : (widthsTo q m).set (m / 4) (max (widthTo q m (m / 4)) (widthZ (bgt q m)) : Nat) = widthsTo q (m + 1) := by
  refine range_map_set _ (fun i => ((widthTo q (m + 1) i : Nat) : Int)) (by omega) ?_ (fun i hi => ?_)
  · rw [widthTo_succ, if_pos rfl]
  · rw [widthTo_succ, if_neg (fun e => hi e.symm)]
theorem widthTo_le (q : List Int) (B : Nat) (h : ∀ k, k < 16 → widthZ (bgt q k) ≤ B) (i : Nat) : ∀ m, m ≤ 16 → widthTo q m i ≤ B
  | 0, _ => Nat.zero_le _
  | m + 1, hm => by
    rw [widthTo_succ]
    have h1 := widthTo_le q B h i m (by omega)
    have h2 := h m (by omega)
    split <;> omega
theorem widthTo_ge (q : List Int) (i : Nat) : ∀ m k, k < m → k / 4 = i → widthZ (bgt q k) ≤ widthTo q m i
  | 0, _, h, _ => by omega
  | m + 1, k, h, hk => by
    rw [widthTo_succ]
    by_cases hkm : k = m
    · subst hkm; rw [if_pos hk]; omega
    · have := widthTo_ge q i m k (by omega) hk
      split <;> omega

/-- how loud the bands are -/
def maskZ (b : List Int) : List Int := (List.range 4).map fun i => (widthZ (peakZ ((b.drop (i * 4)).take 4)) : Int)
/-- what the law says of it -/
def maskTo (b : List Int) (m i : Nat) : Nat := (List.range m).foldl (fun w k => if k / 4 = i then max w (widthZ (absZ (bgt b k))) else w) 0
theorem maskTo_succ (q : List Int) (m i : Nat) : maskTo q (m + 1) i = if m / 4 = i then max (maskTo q m i) (widthZ (absZ (bgt q m))) else maskTo q m i := by
  unfold maskTo; rw [List.range_succ, List.foldl_append]; rfl
def masksTo (q : List Int) (m : Nat) : List Int := (List.range 4).map fun i => (maskTo q m i : Int)
/-- the band that is told coarser next, of the first so many -/
def nextTo (w s m : List Int) : Nat → Int
  | 0 => -1
  | k + 1 => let best := nextTo w s m k
    if 0 < bgt w k ∧ bgt s k < 23 ∧ (best < 0 ∨ bgt m best.toNat - bgt s best.toNat < bgt m k - bgt s k) then (k : Int) else best
theorem nextTo_bd (w s m : List Int) : ∀ k, -1 ≤ nextTo w s m k ∧ nextTo w s m k < (k : Int)
  | 0 => by unfold nextTo; omega
  | k + 1 => by
    have := nextTo_bd w s m k
    unfold nextTo
    simp only
    split <;> omega
theorem nextTo_ok (w s m : List Int) : ∀ k, 0 ≤ nextTo w s m k → 0 < bgt w (nextTo w s m k).toNat ∧ bgt s (nextTo w s m k).toNat < 23
  | 0, h => by unfold nextTo at h; omega
  | k + 1, h => by
    unfold nextTo at h ⊢
    simp only at h ⊢
    split
    · rename_i h1
      rw [Int.toNat_natCast]; exact ⟨h1.1, h1.2.1⟩
    · rename_i h1
      rw [if_neg h1] at h
      exact nextTo_ok w s m k h
theorem nextTo_none (w s m : List Int) : ∀ k, nextTo w s m k < 0 → ∀ i, i < k → ¬ (0 < bgt w i ∧ bgt s i < 23)
  | 0, _, i, hi => by omega
  | k + 1, h, i, hi => by
    unfold nextTo at h
    simp only at h
    split at h
    · omega
    · rename_i h1
      by_cases hik : i = k
      · subst hik
        intro h2
        exact h1 ⟨h2.1, h2.2, .inl h⟩
      · exact nextTo_none w s m k h i (by omega)
/-- a spectrum told with scales and tones -/
def toldZ (b g s : List Int) (l : List ToneV) : FrameV := ⟨g, l, s, widthsZ (stepsZ (outT b l) s), stepsZ (outT b l) s⟩
def bitsZ (f : FrameV) : Int := 52 + 28 * (f.tones.length : Int) + 4 * (bgt f.width 0 + bgt f.width 1 + bgt f.width 2 + bgt f.width 3)
def sumS (s : List Int) : Int := bgt s 0 + bgt s 1 + bgt s 2 + bgt s 3
/-- the search, from scales on, by its rounds that are left -/
def searchFrom (b g : List Int) (room : Int) (l : List ToneV) (mask : List Int) : Nat → List Int → Nat → FrameV × Nat
  | 0, s, n => (toldZ b g s l, n)
  | fuel + 1, s, n =>
    let f := toldZ b g s l
    let i := nextTo f.width s mask 4
    if bitsZ f ≤ room ∨ i < 0 then (f, n) else searchFrom b g room l mask fuel (s.set i.toNat (bgt s i.toNat + 1)) (n + 1)
def tonesFor (b : List Int) (tones : Bool) : List ToneV := if tones = true then findT b else []
def searchZ (b g : List Int) (room : Int) (tones : Bool) : FrameV × Nat := searchFrom b g room (tonesFor b tones) (maskZ (outT b (tonesFor b tones))) 92 zero4 0
end Go.Proofs.Ytbgkoopfdfnmcaa
