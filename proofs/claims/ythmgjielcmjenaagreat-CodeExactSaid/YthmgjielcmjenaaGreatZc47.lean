/- RdP, RdA, RdB. Conditions: as each theorem states. -/
import Derived.Test.YthmgjielcmjenaaGreatZc12
import Derived.Test.YthmgjielcmjenaaGreatZc41
import Derived.Test.YthmgjielcmjenaaGreatZc42
import Derived.Test.YthmgjielcmjenaaGreatZc44

namespace Go.Proofs.YthmgjielcmjenaaGreat

/-- where a reader is, and its first error -/
structure RdS where
  at_ : Nat
  er : Int
def cutB (B : List Nat) (i k : Nat) : List Nat := (List.range k).map fun j => bitAt B (i + j)
def getV (B : List Nat) (s : RdS) (k : Nat) : Nat := if s.er ≠ 0 ∨ 8 * B.length < s.at_ + k then 0 else valN (cutB B s.at_ k)
def getS (B : List Nat) (s : RdS) (k : Nat) : RdS := if s.er ≠ 0 then s else if 8 * B.length < s.at_ + k then ⟨s.at_, 2⟩ else ⟨s.at_ + k, 0⟩
def failS (s : RdS) (e : Int) : RdS := if s.er = 0 then ⟨s.at_, e⟩ else s
def sgnV (B : List Nat) (s : RdS) (k : Nat) : Int := if (getS B s k).er ≠ 0 ∨ k = 0 then 0 else if getV B s k / 2 ^ (k - 1) = 1 then (getV B s k : Int) - 2 ^ k else getV B s k
theorem bitAt_le (B : List Nat) (i : Nat) : bitAt B i ≤ 1 := by unfold bitAt; omega
theorem cutB_len (B : List Nat) (i k : Nat) : (cutB B i k).length = k := by simp [cutB]
theorem cutB_bin (B : List Nat) (i k : Nat) : Bin (cutB B i k) := fun b hb => by
  unfold cutB at hb
  obtain ⟨j, _, rfl⟩ := List.mem_map.1 hb
  exact bitAt_le _ _
theorem cutB_succ (B : List Nat) (i k : Nat) : cutB B i (k + 1) = cutB B i k ++ [bitAt B (i + k)] := by unfold cutB; rw [List.range_succ]; simp
theorem getV_lt (B : List Nat) (s : RdS) (k : Nat) : getV B s k < 2 ^ k := by
  unfold getV
  split
  · exact Nat.two_pow_pos k
  · exact valN_lt k _ (cutB_len _ _ _) (cutB_bin _ _ _)
/-- the reader is within its bytes -/
def InB (B : List Nat) (s : RdS) : Prop := s.at_ ≤ 8 * B.length
theorem getS_in {B : List Nat} {s : RdS} (h : InB B s) (k : Nat) : InB B (getS B s k) := by
  unfold InB at *
  unfold getS
  split
  · exact h
  · split
    · exact h
    · show s.at_ + k ≤ _; omega
theorem failS_in {B : List Nat} {s : RdS} (h : InB B s) (e : Int) : InB B (failS s e) := by
  unfold failS; split
  · exact h
  · exact h
/-! What is read of a frame. -/
def rd0 (B : List Nat) : RdS := if getV B ⟨0, 0⟩ 2 = 1 then getS B ⟨0, 0⟩ 2 else failS (getS B ⟨0, 0⟩ 2) 4
def gSt (B : List Nat) : Nat → RdS
  | 0 => rd0 B
  | m + 1 => getS B (gSt B m) 2
def gRd (B : List Nat) (m : Nat) : List Int := (List.range 4).map fun i => if i < m then (getV B (gSt B i) 2 : Int) else 0
def cntR (B : List Nat) : Nat := getV B (gSt B 4) 2
def tSt (B : List Nat) : Nat → RdS
  | 0 => getS B (gSt B 4) 2
  | m + 1 => getS B (getS B (tSt B m) 4) 24
def toneR (B : List Nat) (i : Nat) : ToneV := ⟨getV B (tSt B i) 4, sgnV B (getS B (tSt B i) 4) 24⟩
def tRd (B : List Nat) (m : Nat) : List ToneV := (List.range m).map (toneR B)
def bSt (B : List Nat) : Nat → RdS
  | 0 => tSt B (cntR B)
  | m + 1 => if 23 < getV B (bSt B m) 5 ∨ 24 < getV B (getS B (bSt B m) 5) 5 then failS (getS B (getS B (bSt B m) 5) 5) 4 else getS B (getS B (bSt B m) 5) 5
def sOf (B : List Nat) (i : Nat) : Nat := getV B (bSt B i) 5
def wOf (B : List Nat) (i : Nat) : Nat := getV B (getS B (bSt B i) 5) 5
def sRd (B : List Nat) (m : Nat) : List Int := (List.range 4).map fun i => if i < m then (sOf B i : Int) else 0
def wRd (B : List Nat) (m : Nat) : List Int := (List.range 4).map fun i => if i < m then (wOf B i : Int) else 0
def qSt (B : List Nat) : Nat → RdS
  | 0 => bSt B 4
  | m + 1 => getS B (qSt B m) (wOf B (m / 4))
def qOf (B : List Nat) (i : Nat) : Int := sgnV B (qSt B i) (wOf B (i / 4))
def qRd (B : List Nat) (m : Nat) : List Int := (List.range 16).map fun i => if i < m then qOf B i else 0
def frameR (B : List Nat) : FrameV := ⟨gRd B 4, tRd B (cntR B), sRd B 4, wRd B 4, qRd B 16⟩
/-- the rest, bit by bit -/
def endS (B : List Nat) (s : RdS) : Nat → RdS
  | 0 => s
  | n + 1 => if s.er ≠ 0 ∨ 8 * B.length ≤ s.at_ then s else endS B (if getV B s 1 = 0 then getS B s 1 else failS (getS B s 1) 4) n
def endR (B : List Nat) : Int := (endS B (qSt B 16) (8 * B.length)).er

theorem gSt_in (B : List Nat) : ∀ m, InB B (gSt B m)
  | 0 => by
    show InB B (rd0 B)
    have h0 : InB B ⟨0, 0⟩ := Nat.zero_le _
    unfold rd0
    split
    · exact getS_in h0 2
    · exact failS_in (getS_in h0 2) 4
  | m + 1 => getS_in (gSt_in B m) 2
theorem tSt_in (B : List Nat) : ∀ m, InB B (tSt B m)
  | 0 => getS_in (gSt_in B 4) 2
  | m + 1 => getS_in (getS_in (tSt_in B m) 4) 24
theorem bSt_in (B : List Nat) : ∀ m, InB B (bSt B m)
  | 0 => tSt_in B _
  | m + 1 => by
    have := getS_in (getS_in (bSt_in B m) 5) 5
    unfold bSt
    split
    · exact failS_in this 4
    · exact this
theorem qSt_in (B : List Nat) : ∀ m, InB B (qSt B m)
  | 0 => bSt_in B 4
  | m + 1 => getS_in (qSt_in B m) _
theorem gRd_len (B : List Nat) (m : Nat) : (gRd B m).length = 4 := by simp [gRd]
theorem sRd_len (B : List Nat) (m : Nat) : (sRd B m).length = 4 := by simp [sRd]
theorem wRd_len (B : List Nat) (m : Nat) : (wRd B m).length = 4 := by simp [wRd]
theorem qRd_len (B : List Nat) (m : Nat) : (qRd B m).length = 16 := by simp [qRd]
theorem frameR_len (B : List Nat) : (frameR B).Len := ⟨gRd_len _ _, sRd_len _ _, wRd_len _ _, qRd_len _ _⟩
theorem upto_set {α : Type} (n : Nat) (f g : Nat → α) {m : Nat} (hm : m < n) : ((List.range n).map fun i => if i < m then f i else g i).set m (f m) = (List.range n).map fun i => if i < m + 1 then f i else g i := by
  apply List.ext_getElem?
  intro i
  rw [List.getElem?_set]
  simp only [List.length_map, List.length_range]
  by_cases h : m = i
  · subst h
    rw [if_pos rfl, if_pos hm, range_map_get _ hm, if_pos (by omega)]
  · rw [if_neg h]
    rcases Nat.lt_or_ge i n with hi | hi
    · rw [range_map_get _ hi, range_map_get _ hi]
      by_cases h2 : i < m
      · rw [if_pos h2, if_pos (by omega)]
      · rw [if_neg h2, if_neg (by omega)]
    · rw [List.getElem?_eq_none (by simpa using hi), List.getElem?_eq_none (by simpa using hi)]
theorem upto_all {α : Type} (n : Nat) (f g : Nat → α) : ((List.range n).map fun i => if i < n then f i else g i) = (List.range n).map f := by
  apply List.map_congr_left
  intro i hi
  rw [if_pos (List.mem_range.1 hi)]

/-! Bits that stand in bytes. -/
def Here (B : List Nat) (i : Nat) (L : List Nat) : Prop := i + L.length ≤ 8 * B.length ∧ ∀ j, j < L.length → bitAt B (i + j) = L.getD j 0
theorem Here.left {B : List Nat} {i : Nat} {a b : List Nat} (h : Here B i (a ++ b)) : Here B i a := by
  refine ⟨by have := h.1; rw [List.length_append] at this; omega, fun j hj => ?_⟩
  rw [h.2 j (by rw [List.length_append]; omega), List.getD_eq_getElem?_getD, List.getElem?_append_left hj, List.getD_eq_getElem?_getD]
theorem Here.right {B : List Nat} {i : Nat} {a b : List Nat} (h : Here B i (a ++ b)) : Here B (i + a.length) b := by
  refine ⟨by have := h.1; rw [List.length_append] at this; omega, fun j hj => ?_⟩
  rw [Nat.add_assoc, h.2 (a.length + j) (by rw [List.length_append]; omega), List.getD_eq_getElem?_getD, List.getElem?_append_right (by omega), Nat.add_sub_cancel_left, List.getD_eq_getElem?_getD]
theorem Here.cut {B : List Nat} {i : Nat} {L : List Nat} (h : Here B i L) : cutB B i L.length = L := by
  apply List.ext_getElem?
  intro j
  unfold cutB
  rcases Nat.lt_or_ge j L.length with hj | hj
  · rw [range_map_get _ hj, h.2 j hj, List.getD_eq_getElem?_getD, List.getElem?_eq_getElem hj]; rfl
  · rw [List.getElem?_eq_none (by simpa using hj), List.getElem?_eq_none hj]
theorem here_get {B : List Nat} {i v k : Nat} (hv : v < 2 ^ k) (h : Here B i (bitsOf v k)) : getV B ⟨i, 0⟩ k = v ∧ getS B ⟨i, 0⟩ k = ⟨i + k, 0⟩ := by
  have hl := h.1
  rw [bitsOf_len] at hl
  have hc := h.cut
  rw [bitsOf_len] at hc
  have h0 : ¬ ((0 : Int) ≠ 0) := by simp
  constructor
  · unfold getV
    rw [if_neg (by simp only []; omega)]
    show valN (cutB B i k) = v
    rw [hc, val_bitsOf v hv]
  · unfold getS
    rw [if_neg h0, if_neg (by simp only []; omega)]
theorem twos_top {v : Int} {k : Nat} (hk : 0 < k) (h1 : -(2 ^ (k - 1)) ≤ v) (h2 : v < 2 ^ (k - 1)) : (if twos v k / 2 ^ (k - 1) = 1 then (twos v k : Int) - 2 ^ k else twos v k) = v := by
  obtain ⟨n, rfl⟩ : ∃ n, k = n + 1 := ⟨k - 1, by omega⟩
  rw [Nat.add_sub_cancel] at *
  have hp : (2 : Int) ^ (n + 1) = 2 ^ n + 2 ^ n := by rw [Int.pow_succ]; omega
  have hc : ((2 ^ n : Nat) : Int) = 2 ^ n := by rw [Int.natCast_pow]; rfl
  have hpos := Nat.two_pow_pos n
  rcases Int.lt_or_le v 0 with h | h
  · have e := twos_neg (k := n + 1) (v := v) (by omega) h
    have e2 : twos v (n + 1) / 2 ^ n = 1 := by
      rw [Nat.div_eq_iff hpos]
      omega
    rw [if_pos e2, e]; omega
  · have e := twos_nn (k := n + 1) (v := v) h (by omega)
    have e2 : ¬ twos v (n + 1) / 2 ^ n = 1 := by
      rw [Nat.div_eq_of_lt (by omega)]; omega
    rw [if_neg e2, e]
theorem here_sgn {B : List Nat} {i k : Nat} {v : Int} (hv : widthZ v ≤ k) (h : Here B i (bitsOf (twos v k) k)) : sgnV B ⟨i, 0⟩ k = v ∧ getS B ⟨i, 0⟩ k = ⟨i + k, 0⟩ := by
  obtain ⟨g1, g2⟩ := here_get (twos_lt v k) h
  refine ⟨?_, g2⟩
  unfold sgnV
  rw [g2, g1]
  rcases Nat.eq_zero_or_pos k with hk | hk
  · subst hk
    rw [if_pos (.inr rfl)]
    have : widthZ v = 0 := by omega
    unfold widthZ at this
    split at this
    · rename_i h0; exact h0.symm
    · omega
  · rw [if_neg (by rintro (h | h) <;> first | exact h rfl | omega)]
    obtain ⟨n, rfl⟩ : ∃ n, k = n + 1 := ⟨k - 1, by omega⟩
    have hb := widthZ_bd (k := n) hv
    have hc : ((2 ^ n : Nat) : Int) = 2 ^ n := by rw [Int.natCast_pow]; rfl
    exact twos_top (by omega) (by rw [Nat.add_sub_cancel]; omega) (by rw [Nat.add_sub_cancel]; omega)
theorem width_24' {v : Int} (h1 : -8388608 ≤ v) (h2 : v < 8388608) : widthZ v ≤ 24 := widthZ_le (k := 23) (by omega) (by omega)
/-! A frame's bits, read again. -/
theorem gains_split (l : List Int) (m : Nat) : gainsB l = gainsB (l.take m) ++ gainsB (l.drop m) := by
  unfold gainsB
  rw [← List.flatten_append, ← List.map_append, List.take_append_drop]
theorem tones_split (l : List ToneV) (m : Nat) : tonesB l = tonesB (l.take m) ++ tonesB (l.drop m) := by
  unfold tonesB
  rw [← List.flatten_append, ← List.map_append, List.take_append_drop]
theorem Here.bands {B : List Nat} {p : Nat} {s w : List Int} {m : Nat} : ∀ d, Here B p (bandsB s w (m + d)) → Here B p (bandsB s w m)
  | 0, h => h
  | d + 1, h => Here.bands d (by rw [← Nat.add_assoc, bandsB_succ] at h; exact h.left)
theorem Here.steps {B : List Nat} {p : Nat} {w q : List Int} {m : Nat} : ∀ d, Here B p (stepsB w q (m + d)) → Here B p (stepsB w q m)
  | 0, h => h
  | d + 1, h => Here.steps d (by rw [← Nat.add_assoc, stepsB_succ] at h; exact h.left)
theorem here_gains {B : List Nat} {p : Nat} {l : List Int} (h : Here B p (gainsB l)) (hl : ∀ x ∈ l, 0 ≤ x ∧ x ≤ 3) {S : Nat → RdS} (h0 : S 0 = ⟨p, 0⟩) (hs : ∀ m, S (m + 1) = getS B (S m) 2) :
    ∀ m, m ≤ l.length → S m = ⟨p + 2 * m, 0⟩ ∧ ∀ i, i < m → (getV B (S i) 2 : Int) = bgt l i
  | 0, _ => ⟨h0, nofun⟩
  | m + 1, hm => by
    obtain ⟨h1, h2⟩ := here_gains h hl h0 hs m (by omega)
    obtain ⟨x, hx⟩ := list_get (b := l) (k := m) rfl (by omega)
    have hb := hl x (List.mem_of_getElem? hx)
    rw [gains_split l (m + 1), gainsB_succ hx] at h
    have h3 := h.left.right
    rw [gainsB_len, List.length_take, Nat.min_eq_left (by omega)] at h3
    obtain ⟨g1, g2⟩ := here_get (by omega) h3
    refine ⟨by rw [hs, h1, g2, Nat.mul_succ, Nat.add_assoc], fun i hi => ?_⟩
    by_cases him : i = m
    · subst him; rw [h1, g1, bgt_get hx]; omega
    · exact h2 i (by omega)
theorem here_tones {B : List Nat} {p : Nat} {l : List ToneV} (h : Here B p (tonesB l)) (hl : ∀ t ∈ l, 0 ≤ t.idx ∧ t.idx < 16 ∧ -8388608 ≤ t.val ∧ t.val < 8388608) {S : Nat → RdS} (h0 : S 0 = ⟨p, 0⟩) (hs : ∀ m, S (m + 1) = getS B (getS B (S m) 4) 24) :
    ∀ m, m ≤ l.length → S m = ⟨p + 28 * m, 0⟩ ∧ ∀ i, i < m → l[i]? = some ⟨getV B (S i) 4, sgnV B (getS B (S i) 4) 24⟩
  | 0, _ => ⟨h0, nofun⟩
  | m + 1, hm => by
    obtain ⟨h1, h2⟩ := here_tones h hl h0 hs m (by omega)
    obtain ⟨x, hx⟩ := list_get (b := l) (k := m) rfl (by omega)
    have hb := hl x (List.mem_of_getElem? hx)
    rw [tones_split l (m + 1), tonesB_succ hx] at h
    have h3 := h.left.right
    rw [tonesB_len, List.length_take, Nat.min_eq_left (by omega)] at h3
    unfold toneB at h3
    obtain ⟨g1, g2⟩ := here_get (by omega) h3.left
    have h4 := h3.right
    rw [bitsOf_len] at h4
    obtain ⟨g3, g4⟩ := here_sgn (width_24' hb.2.2.1 hb.2.2.2) h4
    refine ⟨by rw [hs, h1, g2, g4, Nat.mul_succ, Nat.add_assoc, Nat.add_assoc], fun i hi => ?_⟩
    by_cases him : i = m
    · subst him
      rw [h1, g1, g2, g3, hx]
      obtain ⟨ix, vl⟩ := x
      simp only at hb ⊢
      rw [Int.toNat_of_nonneg hb.1]
    · exact h2 i (by omega)
theorem read_frame {f : FrameV} (h : RightF f) {size : Nat} (hsz : bitsZ f ≤ 8 * (size : Int)) : frameR (frameBytes f size) = f ∧ endR (frameBytes f size) = 0 := by
  have hfl := frameB_len h
  have hBl : (frameBytes f size).length = size := by
    unfold frameBytes
    rw [List.length_append, packN_len, List.length_replicate]; omega
  have hbit : ∀ i, bitAt (frameBytes f size) i = (frameB f).getD i 0 := fun i => bitAt_pack (frameB_bin f) _ i
  have hH : Here (frameBytes f size) 0 (frameB f) := ⟨by rw [hBl]; omega, fun j _ => by rw [Nat.zero_add]; exact hbit j⟩
  have hZ : ∀ i, (frameB f).length ≤ i → bitAt (frameBytes f size) i = 0 := fun i hi => by rw [hbit]; exact getD_beyond hi
  generalize frameBytes f size = B at *
  -- the head
  have e5 : frameB f = head5 f ++ stepsB f.width f.q 16 := rfl
  have e4 : head5 f = head4 f ++ bandsB f.scale f.width 4 := rfl
  have e3 : head4 f = head3 f ++ tonesB f.tones := rfl
  have e2 : head3 f = head2 f ++ bitsOf f.tones.length 2 := rfl
  have e1 : head2 f = head1 ++ gainsB f.gains := rfl
  rw [e5] at hH
  have H5 := hH.left
  have Hq := hH.right
  rw [e4] at H5
  have H4 := H5.left
  have Hb := H5.right
  rw [e3] at H4
  have H3 := H4.left
  have Ht := H4.right
  rw [e2] at H3
  have H2 := H3.left
  have Hc := H3.right
  rw [e1] at H2
  have H1 := H2.left
  have Hg := H2.right
  rw [head5_len h] at Hq
  rw [head4_len h] at Hb
  rw [head3_len h] at Ht
  rw [head2_len h] at Hc
  rw [show head1.length = 2 from rfl] at Hg
  simp only [Nat.zero_add] at Hq Hb Ht Hc Hg
  have hgl := h.gains.1
  have hsl := h.scale.1
  have htl := h.tlen
  obtain ⟨a1, a2⟩ := here_get (v := 1) (k := 2) (by decide) H1
  have r0 : rd0 B = ⟨2, 0⟩ := by unfold rd0; rw [if_pos a1, a2]
  have hgs := fun m hm => here_gains Hg (fun x hx => by
    obtain ⟨i, hi, rfl⟩ := List.mem_iff_getElem.1 hx
    have := h.gains.2 i (by omega)
    rwa [bgt_get (List.getElem?_eq_getElem hi)] at this) (S := gSt B) r0 (fun _ => rfl) m hm
  rw [hgl] at hgs
  have g4 := (hgs 4 (Nat.le_refl _)).1
  obtain ⟨c1, c2⟩ := here_get (by omega) Hc
  have hcnt : cntR B = f.tones.length := by unfold cntR; rw [g4]; exact c1
  have t0 : tSt B 0 = ⟨12, 0⟩ := by show getS B (gSt B 4) 2 = _; rw [g4]; exact c2
  have hts := fun m hm => here_tones Ht h.tidx (S := tSt B) t0 (fun _ => rfl) m hm
  have b0 : bSt B 0 = ⟨12 + 28 * f.tones.length, 0⟩ := by show tSt B (cntR B) = _; rw [hcnt]; exact (hts _ (Nat.le_refl _)).1
  have hbs : ∀ m, m ≤ 4 → bSt B m = ⟨12 + 28 * f.tones.length + 10 * m, 0⟩ ∧ ∀ i, i < m → (sOf B i : Int) = bgt f.scale i ∧ (wOf B i : Int) = bgt f.width i := by
    intro m
    induction m with
    | zero => exact fun _ => ⟨b0, nofun⟩
    | succ m ih =>
      intro hm
      obtain ⟨i1, i2⟩ := ih (by omega)
      have hx := Here.bands (m := m + 1) (4 - (m + 1)) (by rw [show m + 1 + (4 - (m + 1)) = 4 by omega]; exact Hb)
      rw [bandsB_succ] at hx
      have hx := hx.right
      rw [bandsB_len] at hx
      unfold bandB at hx
      have hs := h.scale.2 m (by omega)
      have hw := h.width m (by omega)
      obtain ⟨d1, d2⟩ := here_get (by omega) hx.left
      have hx := hx.right
      rw [bitsOf_len] at hx
      obtain ⟨d3, d4⟩ := here_get (by omega) hx
      have hsv : sOf B m = (bgt f.scale m).toNat := by unfold sOf; rw [i1]; exact d1
      have hwv : wOf B m = (bgt f.width m).toNat := by unfold wOf; rw [i1, d2]; exact d3
      refine ⟨?_, fun i hi => ?_⟩
      · show (if 23 < sOf B m ∨ 24 < wOf B m then _ else getS B (getS B (bSt B m) 5) 5) = _
        rw [hsv, hwv, if_neg (by omega), i1, d2, d4]
        rw [Nat.mul_succ, Nat.add_assoc, Nat.add_assoc]
      · by_cases him : i = m
        · subst him; rw [hsv, hwv]; omega
        · exact i2 i (by omega)
  have hqs : ∀ m, m ≤ 16 → qSt B m = ⟨52 + 28 * f.tones.length + widthSum f.width m, 0⟩ ∧ ∀ i, i < m → qOf B i = bgt f.q i := by
    intro m
    induction m with
    | zero => exact fun _ => ⟨by show bSt B 4 = _; rw [(hbs 4 (Nat.le_refl _)).1]; congr 1; show _ = _ + 0; omega, nofun⟩
    | succ m ih =>
      intro hm
      obtain ⟨i1, i2⟩ := ih (by omega)
      have hx := Here.steps (m := m + 1) (16 - (m + 1)) (by rw [show m + 1 + (16 - (m + 1)) = 16 by omega]; exact Hq)
      rw [stepsB_succ] at hx
      have hx := hx.right
      rw [stepsB_len] at hx
      unfold stepB at hx
      have hwv := ((hbs 4 (Nat.le_refl _)).2 (m / 4) (by omega)).2
      have hw : wOf B (m / 4) = (bgt f.width (m / 4)).toNat := by omega
      have hq := h.q m (by omega)
      obtain ⟨d1, d2⟩ := here_sgn (by omega) hx
      have hqv : qOf B m = bgt f.q m := by unfold qOf; rw [i1, hw]; exact d1
      refine ⟨?_, fun i hi => ?_⟩
      · show getS B (qSt B m) (wOf B (m / 4)) = _
        rw [i1, hw, d2, widthSum_succ, ← Nat.add_assoc]
      · by_cases him : i = m
        · subst him; exact hqv
        · exact i2 i (by omega)
  constructor
  · obtain ⟨gg, ts, sc, wd, q⟩ := f
    have k1 : gRd B 4 = gg := bgt_ext (gRd_len _ _) hgl (fun j hj => by unfold gRd; rw [bgt_get (range_map_get _ hj), if_pos hj]; exact (hgs 4 (Nat.le_refl _)).2 j hj)
    have k2 : tRd B (cntR B) = ts := by
      rw [hcnt]
      apply List.ext_getElem?
      intro j
      rcases Nat.lt_or_ge j ts.length with hj | hj
      · unfold tRd
        rw [range_map_get _ hj]
        exact ((hts _ (Nat.le_refl _)).2 j hj).symm
      · rw [List.getElem?_eq_none (by simpa [tRd] using hj), List.getElem?_eq_none hj]
    have k3 : sRd B 4 = sc := bgt_ext (sRd_len _ _) hsl (fun j hj => by unfold sRd; rw [bgt_get (range_map_get _ hj), if_pos hj]; exact ((hbs 4 (Nat.le_refl _)).2 j hj).1)
    have k4 : wRd B 4 = wd := bgt_ext (wRd_len _ _) h.wlen (fun j hj => by unfold wRd; rw [bgt_get (range_map_get _ hj), if_pos hj]; exact ((hbs 4 (Nat.le_refl _)).2 j hj).2)
    have k5 : qRd B 16 = q := bgt_ext (qRd_len _ _) h.qlen (fun j hj => by unfold qRd; rw [bgt_get (range_map_get _ hj), if_pos hj]; exact (hqs 16 (Nat.le_refl _)).2 j hj)
    unfold frameR
    rw [k1, k2, k3, k4, k5]
  · have hend : ∀ n i, (frameB f).length ≤ i → (endS B ⟨i, 0⟩ n).er = 0 := by
      intro n
      induction n with
      | zero => exact fun _ _ => rfl
      | succ n ih =>
        intro i hi
        unfold endS
        split
        · rfl
        · rename_i hc
          have hlt : i + 1 ≤ 8 * B.length := by simp at hc; omega
          have hx : Here B i (bitsOf 0 1) := ⟨by rw [bitsOf_len]; exact hlt, fun j hj => by
            rw [bitsOf_len] at hj
            obtain rfl : j = 0 := by omega
            rw [hZ _ (by omega)]; rfl⟩
          obtain ⟨d1, d2⟩ := here_get (by decide) hx
          rw [if_pos d1, d2]
          exact ih (i + 1) (by omega)
    unfold endR
    rw [(hqs 16 (Nat.le_refl _)).1]
    refine hend _ _ ?_
    rw [e5, List.length_append, head5_len h, stepsB_len]
    exact Nat.le_refl _
end Go.Proofs.YthmgjielcmjenaaGreat

namespace Go.Proofs.YthmgjielcmjenaaGreat
open Go.RowKit

/-- a reader in memory -/
def RdAt (W : World) (g : Nat) (A : Option Addr) (c n : Nat) (s : RdS) : Prop := W.heap[g]? = some (.cells #[.slice A n c, .int .i64 s.at_, .int .i64 s.er] 109 (0, 0))
theorem grown_next {a b c : World} {row : Option Nat} (h : a.grownBy b row) (k : b.grownBy c row) : a.grownBy c row :=
  ⟨k.os.trans h.os, k.tape.trans h.tape, k.output.trans h.output, Nat.le_trans h.size k.size, fun i hi hr => (k.block i (Nat.lt_of_lt_of_le hi h.size) hr).trans (h.block i hi hr)⟩
theorem grown_refl (a : World) (row : Option Nat) : a.grownBy a row := ⟨rfl, rfl, rfl, Nat.le_refl _, fun _ _ _ => rfl⟩
theorem grown_of {W W' : World} {row : Option Nat} (h : Below W.heap.size W W') : W.grownBy W' row :=
  ⟨h.os, h.tape, h.output, h.size, fun k hk _ => h.block k hk⟩
theorem grown_cell {W : World} (g o : Nat) (v : Value) : W.grownBy (W.setCell ⟨g, o, none⟩ v) (some g) := ⟨rfl, rfl, rfl, by simp, fun k _ hk => Below.heap_setCell _ _ _ _ (fun e => hk (by rw [e]))⟩
/-- bytes in a row that is not the reader's -/
def BytesAt (W : World) (g : Nat) (A : Option Addr) (B : List Nat) : Prop := Row W W.heap.size A (u8s B) ∧ ∀ ad, A = some ad → ad.block ≠ g
theorem BytesAt.grown {W W' : World} {g : Nat} {A : Option Addr} {B : List Nat} (h : BytesAt W g A B) (hg : W.grownBy W' (some g)) : BytesAt W' g A B := by
  refine ⟨fun i v hv => ?_, h.2⟩
  obtain ⟨b, off, ha, hb, hc⟩ := h.1 i v hv
  refine ⟨b, off, ha, Nat.lt_of_lt_of_le hb hg.size, ?_⟩
  rw [World.cell?_of_block (w := W) (hg.block b hb (fun he => by injection he with he; exact h.2 _ ha he))]
  exact hc

theorem bitsRead_any (A : Option Addr) (c n : Nat) (w : World) : Calls Tryz.prog 26 #[.slice A n c] w fun e w' =>
    e = .returned (.pointer (some ⟨w.heap.size, 0, none⟩)) ∧ RdAt w' w.heap.size A c n ⟨0, 0⟩ ∧ Below w.heap.size w w' := by
  unfold RdAt
  have H := Lib.hid (heap_alloc_new w (.cells #[.slice A n c, .int .i64 0, .int .i64 0] 109))
  have HB := Lib.hid (bnew w (.cells #[.slice A n c, .int .i64 0, .int .i64 0] 109))
  go_enter Tryz.func26, Tryz.ntmps26
  go_wp2
  go_ret
  exact ⟨rfl, H.out, HB.out⟩

set_option maxRecDepth 100000 in
theorem Fail_any (g : Nat) (A : Option Addr) (c n : Nat) (s : RdS) (er : Int) (w : World) (h : RdAt w g A c n s) :
    Calls Tryz.prog 28 #[.pointer (some ⟨g, 0, none⟩), .int .i64 er] w fun e w' => e = .returned (.tuple #[]) ∧ RdAt w' g A c n (failS s er) ∧ w.grownBy w' (some g) := by
  obtain ⟨a, e0⟩ := s
  unfold RdAt at *
  have H := Lib.hid h
  have c2 : w.cell? ⟨g, 2, none⟩ = some (.int .i64 e0) := cell_of_row w g 2 _ _ _ h
  have fz : w.frozen? ⟨g, 2, none⟩ = false := frozen_of_row w g 2 _ _ h
  clear h
  by_cases he : e0 = 0
  · subst he
    have t1 : ((0 : Int) == 0) = true := rfl
    go_enter Tryz.func28, Tryz.ntmps28
    go_wp2
    refine bodyPost_end (v := .tuple #[]) (results_none Tryz.results28 _ _ _) rfl ?_
    refine ⟨rfl, ?_, grown_cell _ _ _⟩
    rw [heap_setCell_same w g 2 _ _ _ H.out]
    rfl
  · have t1 : (e0 == 0) = false := beq_eq_false_iff_ne.2 he
    have HF := Lib.hid (show failS ⟨a, e0⟩ er = ⟨a, e0⟩ from if_neg he)
    rw [HF.out]
    clear he
    go_enter Tryz.func28, Tryz.ntmps28
    go_wp2
    refine bodyPost_end (v := .tuple #[]) (results_none Tryz.results28 _ _ _) rfl ?_
    exact ⟨rfl, H.out, grown_refl _ _⟩

def leftZ (n : Nat) (s : RdS) : Int := if s.er = 0 then 8 * (n : Int) - (s.at_ : Int) else 0
set_option maxRecDepth 100000 in
theorem Left_any (g : Nat) (A : Option Addr) (c n : Nat) (s : RdS) (w : World) (hn : n ≤ 1000000) (hs : s.at_ ≤ 8 * n) (h : RdAt w g A c n s) :
    Calls Tryz.prog 58 #[.pointer (some ⟨g, 0, none⟩)] w fun e w' => e = .returned (.int .i64 (leftZ n s)) ∧ Below w.heap.size w w' := by
  obtain ⟨a, e0⟩ := s
  unfold RdAt at h
  have c0 : w.cell? ⟨g, 0, none⟩ = some (.slice A n c) := cell_of_row w g 0 _ _ _ h
  have c1 : w.cell? ⟨g, 1, none⟩ = some (.int .i64 a) := cell_of_row w g 1 _ _ _ h
  have c2 : w.cell? ⟨g, 2, none⟩ = some (.int .i64 e0) := cell_of_row w g 2 _ _ _ h
  simp only at hs
  have H := Lib.hid h
  clear h
  by_cases he : e0 = 0
  · subst he
    have t1 : ((0 : Int) != 0) = false := rfl
    have HL := Lib.hid (show leftZ n ⟨a, 0⟩ = 8 * (n : Int) - (a : Int) from if_pos rfl)
    rw [HL.out]
    have x5 := gw_cells H.out
    go_enter Tryz.func58, Tryz.ntmps58
    go_wp2_with fail
    refine wp_region_calm (by kernel_rfl) (by kernel_rfl) ?_
    repeat (go_big_quiet_step (fail))
    refine wpQuiet_nil ?_
    intro w5 hw'
    have E5 := Lib.hid (gw_below hw')
    clear hw' x5
    go_wp2
    go_ret
    exact ⟨rfl, E5.out⟩
  · have t1 : (e0 != 0) = true := by simp [he]
    have HL := Lib.hid (show leftZ n ⟨a, e0⟩ = 0 from if_neg he)
    rw [HL.out]
    clear he
    go_enter Tryz.func58, Tryz.ntmps58
    go_wp2
    go_ret
    exact ⟨rfl, Below.refl _ _⟩
theorem valN_cut (B : List Nat) (i m : Nat) : valN (cutB B i (m + 1)) = 2 * valN (cutB B i m) + bitAt B (i + m) := by rw [cutB_succ, valN_snoc]

set_option maxRecDepth 100000 in
set_option maxHeartbeats 4000000 in
theorem Get_any (B : List Nat) (g : Nat) (A : Option Addr) (c : Nat) (s : RdS) (k : Nat) (w : World) (hk : k ≤ 57) (hn : B.length ≤ 1000000) (hb : ∀ x ∈ B, x < 256) (hs : InB B s) (hB : BytesAt w g A B) (h : RdAt w g A c B.length s) :
    Calls Tryz.prog 27 #[.pointer (some ⟨g, 0, none⟩), .int .i64 k] w fun e w' => e = .returned (.int .u64 (getV B s k)) ∧ RdAt w' g A c B.length (getS B s k) ∧ w.grownBy w' (some g) := by
  obtain ⟨a, e0⟩ := s
  unfold InB at hs
  simp only at hs
  have H := Lib.hid h
  have c2 : w.cell? ⟨g, 2, none⟩ = some (.int .i64 e0) := cell_of_row w g 2 _ _ _ h
  have t2 : decide ((k : Int) < 0) = false := decide_eq_false (by omega)
  have t3 : decide ((57 : Int) < (k : Int)) = false := decide_eq_false (by omega)
  obtain ⟨n, hnn⟩ : ∃ n, B.length = n := ⟨_, rfl⟩
  rw [hnn] at hn hs H h ⊢
  have HN := Lib.hid hnn
  by_cases he : e0 = 0
  · subst he
    have HL := Lib.hid (Left_any g A c n ⟨a, 0⟩ w hn hs h)
    rw [show leftZ n ⟨a, 0⟩ = 8 * (n : Int) - (a : Int) from if_pos rfl] at HL
    have t1 : ((0 : Int) != 0) = false := rfl
    by_cases hr : 8 * n < a + k
    · have t4 : 8 * (n : Int) - (a : Int) < (k : Int) := by omega
      have HV := Lib.hid (show getV B ⟨a, 0⟩ k = 0 from if_pos (.inr (by rw [hnn]; exact hr)))
      have HS := Lib.hid (show getS B ⟨a, 0⟩ k = ⟨a, 2⟩ by unfold getS; rw [if_neg (by simp), if_pos (by rw [hnn]; exact hr)])
      rw [HV.out, HS.out]
      have fz : ∀ W, Below w.heap.size w W → W.frozen? ⟨g, 2, none⟩ = false := fun W hW => frozen_of_row W g 2 _ _ (hkeep h hW)
      have ck : ∀ W, Below w.heap.size w W → W.cell? ⟨g, 2, none⟩ = some (.int .i64 0) := fun W hW => cell_of_row W g 2 _ _ _ (hkeep h hW)
      have FZ := Lib.hid fz
      have CK := Lib.hid ck
      obtain ⟨K, hK⟩ : ∃ K : Int, 8 * (n : Int) - (a : Int) = K := ⟨_, rfl⟩
      rw [hK] at HL t4
      clear h fz ck hK
      go_enter Tryz.func27, Tryz.ntmps27
      go_wp2_with (go_at_call 58; fail)
      refine HL.out.mono ?_
      rintro e w1 ⟨rfl, hb1⟩
      have f1 := FZ.out w1 hb1
      have c1 := CK.out w1 hb1
      have B1 := Lib.hid hb1
      clear hb1
      go_wp2
      go_ret
      refine ⟨rfl, ?_, grown_next (grown_of B1.out) (grown_cell _ _ _)⟩
      show _ = _
      rw [heap_setCell_same w1 g 2 _ _ _ (hkeep H.out B1.out)]
      rfl
    · have t4 : ¬ (8 * (n : Int) - (a : Int) < (k : Int)) := by omega
      have HV := Lib.hid (show getV B ⟨a, 0⟩ k = valN (cutB B a k) from if_neg (by rw [hnn]; simp only [ne_eq, not_true_eq_false, false_or]; exact hr))
      have HS := Lib.hid (show getS B ⟨a, 0⟩ k = ⟨a + k, 0⟩ by unfold getS; rw [if_neg (by simp), if_neg (by rw [hnn]; exact hr)])
      rw [HV.out, HS.out]
      have HBy := Lib.hid hB
      have Hb := Lib.hid hb
      obtain ⟨K, hK⟩ : ∃ K : Int, 8 * (n : Int) - (a : Int) = K := ⟨_, rfl⟩
      rw [hK] at HL t4
      clear h hB hb hK
      go_enter Tryz.func27, Tryz.ntmps27
      go_wp2_with (go_at_call 58; fail)
      refine HL.out.mono ?_
      rintro e w1 ⟨rfl, hb1⟩
      have R1 := Lib.hid (show RdAt w1 g A c n ⟨a, 0⟩ from hkeep H.out hb1)
      have G1 := Lib.hid (show w.grownBy w1 (some g) from grown_of hb1)
      clear hb1 H c2
      go_wp2_with fail
      go_loopw [5, 31] (fun v i wr => ∃ m : Nat, m ≤ k ∧ i = .int .i64 m ∧ v = .int .u64 (valN (cutB B a m)) ∧ RdAt wr g A c n ⟨a + m, 0⟩ ∧ w.grownBy wr (some g)) (fun _ i _ => k - (intOf i).toNat)
      case atStart => exact ⟨0, by omega, rfl, rfl, R1.out, G1.out⟩
      case round =>
        obtain ⟨m, hm, rfl, rfl, hR, hG⟩ := hrel
        have HR := Lib.hid hR
        have HG := Lib.hid hG
        clear R1 G1 hG
        by_cases hlk : m < k
        · have t5 : (m : Int) < (k : Int) := by omega
          obtain ⟨q, hq⟩ : ∃ q, (a + m) / 8 = q := ⟨_, rfl⟩
          obtain ⟨p, hp⟩ : ∃ p, 7 - (a + m) % 8 = p := ⟨_, rfl⟩
          have hqn : q < n := by omega
          obtain ⟨x, hx⟩ := list_get (k := q) HN.out hqn
          have hx256 := Hb.out x (List.mem_of_getElem? hx)
          obtain ⟨b, off, rfl, hbl, hcell⟩ := (HBy.out.grown HG.out).1 q (.int .u8 (x : Int)) (u8s_get hx)
          have HV1 := Lib.hid (valN_cut B a m)
          have hbit : bitAt B (a + m) = x / 2 ^ p % 2 := by unfold bitAt; rw [hq, hp, List.getD_eq_getElem?_getD, hx]; rfl
          rw [hbit] at HV1
          have hv57 := valN_lt m (cutB B a m) (cutB_len _ _ _) (cutB_bin _ _ _)
          have hv2 : 2 ^ m ≤ 2 ^ 56 := Nat.pow_le_pow_right (by decide) (by omega)
          obtain ⟨V, hV⟩ : ∃ V, valN (cutB B a m) = V := ⟨_, rfl⟩
          rw [hV] at HV1 hv57
          rw [hV]
          obtain ⟨y, hy⟩ : ∃ y, x / 2 ^ p % 2 = y := ⟨_, rfl⟩
          rw [hy] at HV1
          have hy1 : y ≤ 1 := by omega
          have hxd : (x : Int) / 2 ^ p = ((x / 2 ^ p : Nat) : Int) := by rw [show (2 : Int) ^ p = ((2 ^ p : Nat) : Int) by rw [Int.natCast_pow]; rfl]; exact (Int.natCast_ediv x (2 ^ p)).symm
          have hxle : x / 2 ^ p ≤ x := Nat.div_le_self _ _
          have hand : bits .and .u8 ((x : Int) / 2 ^ p) 1 = (y : Int) := by
            rw [hxd, show (1 : Int) = 2 ^ 1 - 1 from rfl, bits_mask .u8 8 (by decide) wraps_u8 1 (by decide) _ (Int.natCast_nonneg _) (by omega)]
            omega
          have hor : bits .or .u64 ((V : Int) * 2) (y : Int) = ((2 * V + y : Nat) : Int) := by
            have h0 : (V : Int) * 2 = ((2 * V : Nat) : Int) := by omega
            rw [h0, u64_or_nat _ _ (by omega) (by omega)]
            congr 1
            rcases Nat.lt_or_ge y 1 with h | h
            · have : y = 0 := by omega
              subst this; simp
            · have : y = 1 := by omega
              subst this
              have := or_add (x := 2 * V) (s := 0) (b := 1) (by omega) (by omega)
              simpa using this
          have hw1 : IntKind.u64.wrap ((V : Int) * 2) = (V : Int) * 2 := by rw [IntKind.wrap_u64]; omega
          have hw2 : IntKind.u64.wrap (y : Int) = (y : Int) := by rw [IntKind.wrap_u64]; omega
          have u1 : ((a + m : Nat) : Int) / 8 = (q : Int) := by omega
          have u2 : (7 : Int) - ((a + m : Nat) : Int) % 8 = (p : Int) := by omega
          have u3 : (0 : Int) ≤ (q : Int) := by omega
          have u4 : (q : Int) < (n : Int) := by omega
          have u5 : (0 : Int) ≤ (p : Int) := by omega
          have u6 : (p : Int) ≤ 8 := by omega
          have x5 := gw_cells (show wr.heap[g]? = some (.cells #[.slice (some ⟨b, off, none⟩) n c, .int .i64 ((a + m : Nat) : Int), .int .i64 0] 109 (0, 0)) from HR.out)
          have y5 := fun (x : GW wr) => (gw_cell x (p := ⟨b, off + q, none⟩) hbl).trans hcell
          obtain ⟨am, ham⟩ : ∃ am, a + m = am := ⟨_, rfl⟩
          have Ham := Lib.hid ham
          rw [ham] at u1 u2 x5
          clear hx hcell hR hbit hy hV hq hp ham hxd hxle
          go_wp2_with fail
          refine wp_region_calm (by kernel_rfl) (by kernel_rfl) ?_
          repeat (go_big_quiet_step (fail))
          refine wpQuiet_nil ?_
          intro w5 hw'
          have hb5 := gw_below hw'
          have R5 := Lib.hid (show RdAt w5 g (some ⟨b, off, none⟩) c n ⟨a + m, 0⟩ from hkeep HR.out hb5)
          have G5 := Lib.hid (grown_next HG.out (grown_of hb5))
          have d1 : w5.cell? ⟨g, 1, none⟩ = some (.int .i64 (am : Int)) := by rw [← Ham.out]; exact cell_of_row w5 g 1 _ _ _ R5.out
          have z1 : w5.frozen? ⟨g, 1, none⟩ = false := frozen_of_row w5 g 1 _ _ R5.out
          clear hw' hb5 x5 y5
          go_wp2
          go_roundw
          case rel =>
            refine ⟨m + 1, by omega, by go_num, by rw [HV1.out]; exact congrArg _ (by omega), ?_, grown_next G5.out (grown_cell _ _ _)⟩
            show _ = _
            rw [heap_setCell_same w5 g 1 _ _ _ R5.out, ← Ham.out]
            simp
            omega
          case measure => simp [intOf]; omega
        · have hmk : m = k := by omega
          subst hmk
          have t5 : ¬ ((m : Int) < (m : Int)) := by omega
          go_wp2
          go_ret
          exact ⟨rfl, HR.out, HG.out⟩
  · have t1 : (e0 != 0) = true := by simp [he]
    have HV := Lib.hid (show getV B ⟨a, e0⟩ k = 0 from if_pos (.inl he))
    have HS := Lib.hid (show getS B ⟨a, e0⟩ k = ⟨a, e0⟩ from if_pos he)
    rw [HV.out, HS.out]
    clear he h
    go_enter Tryz.func27, Tryz.ntmps27
    go_wp2
    go_ret
    exact ⟨rfl, H.out, grown_refl _ _⟩
end Go.Proofs.YthmgjielcmjenaaGreat

namespace Go.Proofs.YthmgjielcmjenaaGreat
open Go.RowKit

set_option maxRecDepth 100000 in
set_option maxHeartbeats 4000000 in
theorem RSigned_any (B : List Nat) (g : Nat) (A : Option Addr) (c : Nat) (s : RdS) (k : Nat) (w : World) (hk : k ≤ 57) (hn : B.length ≤ 1000000) (hb : ∀ x ∈ B, x < 256) (hs : InB B s) (hB : BytesAt w g A B) (h : RdAt w g A c B.length s) :
    Calls Tryz.prog 29 #[.pointer (some ⟨g, 0, none⟩), .int .i64 k] w fun e w' => e = .returned (.int .i64 (sgnV B s k)) ∧ RdAt w' g A c B.length (getS B s k) ∧ w.grownBy w' (some g) := by
  have HG := Lib.hid (Get_any B g A c s k w hk hn hb hs hB h)
  have hlt := getV_lt B s k
  have hse : sgnV B s k = if (getS B s k).er ≠ 0 ∨ k = 0 then 0 else if getV B s k / 2 ^ (k - 1) = 1 then (getV B s k : Int) - 2 ^ k else getV B s k := rfl
  have HSe := Lib.hid hse
  generalize sgnV B s k = Z at *
  generalize getV B s k = V at *
  generalize getS B s k = S at *
  generalize B.length = n at *
  obtain ⟨a, er⟩ := S
  simp only at HSe
  have hp57 : 2 ^ k ≤ 2 ^ 57 := Nat.pow_le_pow_right (by decide) (by omega)
  clear hse hb hs hB h
  by_cases he : er = 0
  · by_cases hk0 : k = 0
    · have HZ := Lib.hid (show Z = 0 by rw [HSe.out, if_pos (.inr hk0)])
      subst he hk0
      have t2 : (((0 : Nat) : Int) == 0) = true := rfl
      rw [HZ.out]
      go_enter Tryz.func29, Tryz.ntmps29
      go_wp2_with (go_at_call 27; fail)
      refine HG.out.mono ?_
      rintro e w1 ⟨rfl, hR, hg⟩
      have R1 := Lib.hid hR
      have c2 : w1.cell? ⟨g, 2, none⟩ = some (.int .i64 0) := cell_of_row w1 g 2 _ _ _ hR
      clear hR
      go_wp2
      go_ret
      exact ⟨rfl, R1.out, hg⟩
    · have hZ : Z = if V / 2 ^ (k - 1) = 1 then (V : Int) - 2 ^ k else V := by rw [HSe.out, if_neg (by rintro (h | h) <;> contradiction)]
      subst he
      obtain ⟨j, rfl⟩ : ∃ j, k = j + 1 := ⟨k - 1, by omega⟩
      rw [Nat.add_sub_cancel] at hZ
      have t2 : (((j + 1 : Nat) : Int) == 0) = false := beq_eq_false_iff_ne.2 (by omega)
      have t3 : ((j + 1 : Nat) : Int) - 1 = (j : Int) := by omega
      have t4 : (0 : Int) ≤ (j : Int) := by omega
      have t5 : (j : Int) ≤ 64 := by omega
      have hdiv : (V : Int) / 2 ^ j = ((V / 2 ^ j : Nat) : Int) := by rw [show (2 : Int) ^ j = ((2 ^ j : Nat) : Int) by rw [Int.natCast_pow]; rfl]; exact (Int.natCast_ediv V (2 ^ j)).symm
      have hw1 : IntKind.i64.wrap (V : Int) = (V : Int) := IntWalk.i64_in _ (by omega)
      have hpc : (2 : Int) ^ (j + 1) = ((2 ^ (j + 1) : Nat) : Int) := by rw [Int.natCast_pow]; rfl
      have hw2 : IntKind.i64.wrap (1 * 2 ^ (j + 1)) = 2 ^ (j + 1) := by rw [Int.one_mul, hpc]; exact IntWalk.i64_in _ (by omega)
      have hw3 : IntKind.i64.wrap ((V : Int) - 2 ^ (j + 1)) = (V : Int) - 2 ^ (j + 1) := by rw [hpc]; exact IntWalk.i64_in _ (by omega)
      have hw4 : IntKind.i64.wrap (2 ^ (j + 1)) = 2 ^ (j + 1) := by rw [hpc]; exact IntWalk.i64_in _ (by omega)
      obtain ⟨U, hU⟩ : ∃ U : Int, (2 : Int) ^ (j + 1) = U := ⟨_, rfl⟩
      rw [hU] at hw2 hw3 hw4 hZ
      obtain ⟨d, hd⟩ : ∃ d, V / 2 ^ j = d := ⟨_, rfl⟩
      rw [hd] at hdiv hZ
      have t6 : (0 : Int) ≤ ((j + 1 : Nat) : Int) := by omega
      have t7 : ((j + 1 : Nat) : Int) ≤ 64 := by omega
      obtain ⟨bt, hbt⟩ : ∃ bt, ((d : Int) == 1) = bt := ⟨_, rfl⟩
      have hZ2 : Z = if bt then (V : Int) - U else V := by
        rw [hZ]
        cases bt
        · have := beq_eq_false_iff_ne.1 hbt
          rw [if_neg (by omega)]; rfl
        · have := beq_iff_eq.1 hbt
          rw [if_pos (by omega)]; rfl
      have HZ := Lib.hid hZ2
      generalize hK : ((j + 1 : Nat) : Int) = K at *
      have hUK : (2 : Int) ^ K.toNat = U := by rw [← hK, Int.toNat_natCast]; exact hU
      clear hZ hZ2 hp57 hlt hU hK HSe hpc hd
      cases bt
      all_goals
        rw [HZ.out]
        go_enter Tryz.func29, Tryz.ntmps29
        go_wp2_with (go_at_call 27; fail)
        refine HG.out.mono ?_
        rintro e w1 ⟨rfl, hR, hg⟩
        have R1 := Lib.hid hR
        have c2 : w1.cell? ⟨g, 2, none⟩ = some (.int .i64 0) := cell_of_row w1 g 2 _ _ _ hR
        clear hR
        go_wp2
        go_ret
        exact ⟨rfl, R1.out, hg⟩
  · have HZ := Lib.hid (show Z = 0 by rw [HSe.out, if_pos (.inl he)])
    have t1 : (er != 0) = true := by simp [he]
    rw [HZ.out]
    clear he
    go_enter Tryz.func29, Tryz.ntmps29
    go_wp2_with (go_at_call 27; fail)
    refine HG.out.mono ?_
    rintro e w1 ⟨rfl, hR, hg⟩
    have R1 := Lib.hid hR
    have c2 : w1.cell? ⟨g, 2, none⟩ = some (.int .i64 er) := cell_of_row w1 g 2 _ _ _ hR
    clear hR
    go_wp2
    go_ret
    exact ⟨rfl, R1.out, hg⟩

/-- how much a reader in memory may still go -/
def rdMu (g N : Nat) (w : World) : Nat := match w.cell? ⟨g, 2, none⟩, w.cell? ⟨g, 1, none⟩ with
  | some (.int _ e), some (.int _ a) => if e = 0 then N + 1 - a.toNat else 0
  | _, _ => 0
theorem rdMu_at {w : World} {g : Nat} {A : Option Addr} {c n : Nat} {s : RdS} (N : Nat) (h : RdAt w g A c n s) : rdMu g N w = if s.er = 0 then N + 1 - s.at_ else 0 := by
  unfold RdAt at h
  unfold rdMu
  rw [show w.cell? ⟨g, 1, none⟩ = some (.int .i64 s.at_) from cell_of_row w g 1 _ _ _ h, show w.cell? ⟨g, 2, none⟩ = some (.int .i64 s.er) from cell_of_row w g 2 _ _ _ h]
  simp
def endN (B : List Nat) (s : RdS) : RdS := if getV B s 1 = 0 then getS B s 1 else failS (getS B s 1) 4
theorem endS_step {B : List Nat} {s : RdS} {f : Nat} (h1 : s.er = 0) (h2 : s.at_ < 8 * B.length) : endS B s (f + 1) = endS B (endN B s) f := by
  show (if s.er ≠ 0 ∨ 8 * B.length ≤ s.at_ then s else _) = _
  rw [if_neg (by rintro (h | h) <;> omega)]; rfl
theorem endS_stop {B : List Nat} {s : RdS} {f : Nat} (h : s.er ≠ 0 ∨ 8 * B.length ≤ s.at_) : endS B s f = s := by
  cases f with
  | zero => rfl
  | succ f =>
    show (if s.er ≠ 0 ∨ 8 * B.length ≤ s.at_ then s else _) = _
    rw [if_pos h]
theorem getS_one {B : List Nat} {s : RdS} (h1 : s.er = 0) (h2 : s.at_ < 8 * B.length) : getS B s 1 = ⟨s.at_ + 1, 0⟩ := by
  unfold getS
  rw [if_neg (by omega), if_neg (by omega)]

set_option maxRecDepth 100000 in
set_option maxHeartbeats 4000000 in
theorem End_any (B : List Nat) (g : Nat) (A : Option Addr) (c : Nat) (s : RdS) (w : World) (hn : B.length ≤ 1000000) (hb : ∀ x ∈ B, x < 256) (hs : InB B s) (hB : BytesAt w g A B) (h : RdAt w g A c B.length s) :
    Calls Tryz.prog 31 #[.pointer (some ⟨g, 0, none⟩)] w fun e w' => e = .returned (.int .i64 (endS B s (8 * B.length)).er) ∧ w.grownBy w' (some g) := by
  have HG := Lib.hid (fun s W (hi : InB B s) (h : RdAt W g A c B.length s) (hW : w.grownBy W (some g)) => Get_any B g A c s 1 W (by omega) hn hb hi (hB.grown hW) h)
  have HL := Lib.hid (fun s W (hi : InB B s) (h : RdAt W g A c B.length s) => Left_any g A c B.length s W hn hi h)
  have HF := Lib.hid (fun s W (h : RdAt W g A c B.length s) => Fail_any g A c B.length s 4 W h)
  have H := Lib.hid h
  have HS := Lib.hid hs
  obtain ⟨E, hE⟩ : ∃ E, endS B s (8 * B.length) = E := ⟨_, rfl⟩
  obtain ⟨N, hN⟩ : ∃ N, 8 * B.length = N := ⟨_, rfl⟩
  have HN := Lib.hid hN
  rw [hE]
  have HE := Lib.hid hE
  clear hE hN h hs hb hB
  go_enter Tryz.func31, Tryz.ntmps31
  go_wp2
  go_loopw [] (fun wr => ∃ (s' : RdS) (f : Nat), InB B s' ∧ endS B s' f = E ∧ N ≤ s'.at_ + f ∧ RdAt wr g A c B.length s' ∧ w.grownBy wr (some g)) (fun wr => rdMu g N wr)
  case atStart => exact ⟨s, N, HS.out, by rw [← HN.out]; exact HE.out, by omega, H.out, grown_refl _ _⟩
  case round =>
    obtain ⟨s', f, hi, he, hf, hR, hG⟩ := hrel
    have HI := Lib.hid hi
    have HQ := Lib.hid he
    have HR := Lib.hid hR
    have HG1 := Lib.hid hG
    have hmu := rdMu_at N hR
    have HMu := Lib.hid hmu
    unfold InB at hi
    rw [HN.out] at hi
    have h2 : ∀ W, RdAt W g A c B.length s' → W.cell? ⟨g, 2, none⟩ = some (.int .i64 s'.er) := fun W h => cell_of_row W g 2 _ _ _ h
    have H2 := Lib.hid h2
    have HLf := Lib.hid (HL.out s' wr HI.out HR.out)
    clear he hR hG hmu h2 H HE
    by_cases hgo : s'.er = 0 ∧ s'.at_ < N
    · obtain ⟨h0, hlt⟩ := hgo
      have hl : leftZ B.length s' = ((N - s'.at_ : Nat) : Int) := by
        unfold leftZ
        rw [if_pos h0]
        have := HN.out
        omega
      rw [hl] at HLf
      have t1 : (0 : Int) < ((N - s'.at_ : Nat) : Int) := by omega
      obtain ⟨K, hK⟩ : ∃ K : Int, ((N - s'.at_ : Nat) : Int) = K := ⟨_, rfl⟩
      rw [hK] at HLf t1
      have hS1 := getS_one h0 (show s'.at_ < 8 * B.length by rw [HN.out]; exact hlt)
      obtain ⟨f', rfl⟩ : ∃ f', f = f' + 1 := ⟨f - 1, by omega⟩
      have HSt := Lib.hid (endS_step (f := f') h0 (show s'.at_ < 8 * B.length by rw [HN.out]; exact hlt))
      have HNx := Lib.hid (show endN B s' = if getV B s' 1 = 0 then getS B s' 1 else failS (getS B s' 1) 4 from rfl)
      have HIn := Lib.hid (getS_in HI.out 1)
      have HFl := Lib.hid (show failS (⟨s'.at_ + 1, 0⟩ : RdS) 4 = ⟨s'.at_ + 1, 4⟩ from rfl)
      obtain ⟨v, hv⟩ : ∃ v, getV B s' 1 = v := ⟨_, rfl⟩
      have HV := Lib.hid hv
      rw [hv, hS1, HFl.out] at HNx
      rw [hS1] at HIn
      have HS1 := Lib.hid hS1
      have H0 := Lib.hid h0
      clear hK hl hS1 hv h0
      go_wp2_with (go_at_call 58; fail)
      refine HLf.out.mono ?_
      rintro e w1 ⟨rfl, hb1⟩
      have R1 := Lib.hid (show RdAt w1 g A c B.length s' from hkeep HR.out hb1)
      have G1 := Lib.hid (grown_next HG1.out (grown_of hb1))
      clear hb1
      go_wp2_with (go_at_call 27; fail)
      refine (HG.out s' w1 HI.out R1.out G1.out).mono ?_
      rintro e w2 ⟨rfl, hR2, hg2⟩
      rw [HS1.out] at hR2
      have R2 := Lib.hid hR2
      have G2 := Lib.hid (grown_next G1.out hg2)
      clear hR2 hg2 R1 G1
      rw [HV.out]
      rcases Nat.eq_zero_or_pos v with hv0 | hv0
      · subst hv0
        have t2 : (((0 : Nat) : Int) != 0) = false := rfl
        have HNy := Lib.hid (show endN B s' = ⟨s'.at_ + 1, 0⟩ from HNx.out)
        go_wp2
        go_roundw
        case rel => exact ⟨_, f', HIn.out, by rw [← HNy.out, ← HSt.out]; exact HQ.out, by show N ≤ s'.at_ + 1 + f'; omega, R2.out, G2.out⟩
        case measure =>
          rw [rdMu_at N R2.out, HMu.out, if_pos H0.out]
          simp only []
          split <;> omega
      · have t2 : ((v : Int) != 0) = true := by simp; omega
        have HNy := Lib.hid (show endN B s' = ⟨s'.at_ + 1, 4⟩ by rw [HNx.out, if_neg (by omega)])
        have HFa := Lib.hid (HF.out _ w2 R2.out)
        rw [HFl.out] at HFa
        go_wp2_with (go_at_call 28; fail)
        refine HFa.out.mono ?_
        rintro e w3 ⟨rfl, hR3, hg3⟩
        have R3 := Lib.hid hR3
        have G3 := Lib.hid (grown_next G2.out hg3)
        clear hR3 hg3
        go_wp2
        go_roundw
        case rel => exact ⟨⟨s'.at_ + 1, 4⟩, f', (show InB B ⟨s'.at_ + 1, 4⟩ from HIn.out), by rw [← HNy.out, ← HSt.out]; exact HQ.out, by show N ≤ s'.at_ + 1 + f'; omega, R3.out, G3.out⟩
        case measure =>
          rw [rdMu_at N R3.out, HMu.out, if_pos H0.out]
          simp only []
          split <;> omega
    · have hl : leftZ B.length s' = 0 := by
        unfold leftZ
        have := HN.out
        by_cases h0 : s'.er = 0
        · rw [if_pos h0]
          have : ¬ s'.at_ < N := fun h => hgo ⟨h0, h⟩
          omega
        · rw [if_neg h0]
      rw [hl] at HLf
      have HEr := Lib.hid (show E.er = s'.er by
        rw [← HQ.out, endS_stop]
        by_cases h0 : s'.er = 0
        · right
          have : ¬ s'.at_ < N := fun h => hgo ⟨h0, h⟩
          rw [HN.out]; omega
        · exact .inl h0)
      clear hgo hl
      go_wp2_with (go_at_call 58; fail)
      refine HLf.out.mono ?_
      rintro e w1 ⟨rfl, hb1⟩
      have c2 := H2.out w1 (hkeep HR.out hb1)
      have G1 := Lib.hid (grown_next HG1.out (grown_of hb1))
      clear hb1
      go_wp2
      go_ret
      exact ⟨by rw [HEr.out]; rfl, G1.out⟩
end Go.Proofs.YthmgjielcmjenaaGreat
