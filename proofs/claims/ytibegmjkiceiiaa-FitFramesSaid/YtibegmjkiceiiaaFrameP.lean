/- Plain law of layer 10: a frame's bits. No condition but each theorem's own. -/
import Derived.Test.YtibegmjkiceiiaaFitG
import Derived.Test.YtibegmjkiceiiaaBitsP
namespace Go.Proofs.Ytibegmjkiceiiaa

/-- a two's complement -/
def twos (v : Int) (k : Nat) : Nat := (v % 2 ^ k).toNat
theorem twos_lt (v : Int) (k : Nat) : twos v k < 2 ^ k := by
  unfold twos
  have hp : (0 : Int) < 2 ^ k := Int.pow_pos (by decide)
  have h1 := Int.emod_nonneg v (b := 2 ^ k) (by omega)
  have h2 := Int.emod_lt_of_pos v hp
  have e : ((2 ^ k : Nat) : Int) = 2 ^ k := by rw [Int.natCast_pow]; rfl
  omega
def gainsB (l : List Int) : List Nat := (l.map fun g => bitsOf g.toNat 2).flatten
def toneB (t : ToneV) : List Nat := bitsOf t.idx.toNat 4 ++ bitsOf (twos t.val 24) 24
def tonesB (l : List ToneV) : List Nat := (l.map toneB).flatten
def bandB (s w : List Int) (i : Nat) : List Nat := bitsOf (bgt s i).toNat 5 ++ bitsOf (bgt w i).toNat 5
def bandsB (s w : List Int) (m : Nat) : List Nat := ((List.range m).map (bandB s w)).flatten
def stepB (w q : List Int) (i : Nat) : List Nat := bitsOf (twos (bgt q i) (bgt w (i / 4)).toNat) (bgt w (i / 4)).toNat
def stepsB (w q : List Int) (m : Nat) : List Nat := ((List.range m).map (stepB w q)).flatten
def head1 : List Nat := bitsOf 1 2
def head2 (f : FrameV) : List Nat := head1 ++ gainsB f.gains
def head3 (f : FrameV) : List Nat := head2 f ++ bitsOf f.tones.length 2
def head4 (f : FrameV) : List Nat := head3 f ++ tonesB f.tones
def head5 (f : FrameV) : List Nat := head4 f ++ bandsB f.scale f.width 4
def frameB (f : FrameV) : List Nat := head5 f ++ stepsB f.width f.q 16

theorem gainsB_succ {l : List Int} {m : Nat} {x : Int} (h : l[m]? = some x) : gainsB (l.take (m + 1)) = gainsB (l.take m) ++ bitsOf x.toNat 2 := by
  obtain ⟨hm, rfl⟩ := List.getElem?_eq_some_iff.1 h
  unfold gainsB
  rw [List.take_succ_eq_append_getElem hm, List.map_append, List.flatten_append]
  simp only [List.map_cons, List.map_nil, List.flatten_cons, List.flatten_nil, List.append_nil]
theorem tonesB_succ {l : List ToneV} {m : Nat} {t : ToneV} (h : l[m]? = some t) : tonesB (l.take (m + 1)) = tonesB (l.take m) ++ toneB t := by
  obtain ⟨hm, rfl⟩ := List.getElem?_eq_some_iff.1 h
  unfold tonesB
  rw [List.take_succ_eq_append_getElem hm, List.map_append, List.flatten_append]
  simp only [List.map_cons, List.map_nil, List.flatten_cons, List.flatten_nil, List.append_nil]
theorem bandsB_succ (s w : List Int) (m : Nat) : bandsB s w (m + 1) = bandsB s w m ++ bandB s w m := by unfold bandsB; rw [List.range_succ]; simp
theorem stepsB_succ (w q : List Int) (m : Nat) : stepsB w q (m + 1) = stepsB w q m ++ stepB w q m := by unfold stepsB; rw [List.range_succ]; simp
theorem gainsB_len : ∀ (l : List Int), (gainsB l).length = 2 * l.length
  | [] => rfl
  | x :: r => by
    have := gainsB_len r
    unfold gainsB at this ⊢
    rw [List.map_cons, List.flatten_cons, List.length_append, this, bitsOf_len, List.length_cons]; omega
theorem tonesB_len : ∀ (l : List ToneV), (tonesB l).length = 28 * l.length
  | [] => rfl
  | x :: r => by
    have := tonesB_len r
    unfold tonesB at this ⊢
    rw [List.map_cons, List.flatten_cons, List.length_append, this]
    unfold toneB
    rw [List.length_append, bitsOf_len, bitsOf_len, List.length_cons]; omega
theorem bandsB_len (s w : List Int) : ∀ m, (bandsB s w m).length = 10 * m
  | 0 => rfl
  | m + 1 => by
    rw [bandsB_succ, List.length_append, bandsB_len s w m]
    unfold bandB
    rw [List.length_append, bitsOf_len, bitsOf_len]; omega
def widthSum (w : List Int) : Nat → Nat
  | 0 => 0
  | m + 1 => widthSum w m + (bgt w (m / 4)).toNat
theorem stepsB_len (w q : List Int) : ∀ m, (stepsB w q m).length = widthSum w m
  | 0 => rfl
  | m + 1 => by
    rw [stepsB_succ, List.length_append, stepsB_len w q m]
    unfold stepB
    rw [bitsOf_len]; rfl
theorem widthSum_succ (w : List Int) (m : Nat) : widthSum w (m + 1) = widthSum w m + (bgt w (m / 4)).toNat := rfl
theorem widthSum_16 (w : List Int) : widthSum w 16 = 4 * ((bgt w 0).toNat + (bgt w 1).toNat + (bgt w 2).toNat + (bgt w 3).toNat) := by
  simp [widthSum]
  omega
theorem widthSum_mono (w : List Int) : ∀ r m, widthSum w m ≤ widthSum w (m + r)
  | 0, _ => Nat.le_refl _
  | r + 1, m => by
    have := widthSum_mono w r m
    rw [← Nat.add_assoc, widthSum_succ]
    omega
theorem head2_len {f : FrameV} (h : RightF f) : (head2 f).length = 10 := by
  unfold head2 head1
  rw [List.length_append, gainsB_len, bitsOf_len, h.gains.1]
theorem head3_len {f : FrameV} (h : RightF f) : (head3 f).length = 12 := by
  unfold head3
  rw [List.length_append, head2_len h, bitsOf_len]
theorem head4_len {f : FrameV} (h : RightF f) : (head4 f).length = 12 + 28 * f.tones.length := by
  unfold head4
  rw [List.length_append, head3_len h, tonesB_len]
theorem head5_len {f : FrameV} (h : RightF f) : (head5 f).length = 52 + 28 * f.tones.length := by
  unfold head5
  rw [List.length_append, head4_len h, bandsB_len]; omega
theorem frameB_len {f : FrameV} (h : RightF f) : ((frameB f).length : Int) = bitsZ f := by
  unfold frameB
  rw [List.length_append, head5_len h, stepsB_len, widthSum_16]
  have := h.width 0 (by omega)
  have := h.width 1 (by omega)
  have := h.width 2 (by omega)
  have := h.width 3 (by omega)
  unfold bitsZ
  omega
theorem frameB_most {f : FrameV} (h : RightF f) : bitsZ f ≤ 492 := by
  have := h.width 0 (by omega)
  have := h.width 1 (by omega)
  have := h.width 2 (by omega)
  have := h.width 3 (by omega)
  have := h.tlen
  unfold bitsZ
  omega
theorem Bin.flatten {l : List (List Nat)} (h : ∀ x ∈ l, Bin x) : Bin l.flatten := fun b hb => by
  obtain ⟨x, hx, hbx⟩ := List.mem_flatten.1 hb
  exact h x hx b hbx
theorem frameB_bin (f : FrameV) : Bin (frameB f) := by
  unfold frameB head5 head4 head3 head2 head1
  refine ((((((bitsOf_bin _ _).append ?_).append (bitsOf_bin _ _)).append ?_).append ?_).append ?_)
  · exact Bin.flatten fun x hx => by obtain ⟨g, _, rfl⟩ := List.mem_map.1 hx; exact bitsOf_bin _ _
  · exact Bin.flatten fun x hx => by obtain ⟨g, _, rfl⟩ := List.mem_map.1 hx; exact (bitsOf_bin _ _).append (bitsOf_bin _ _)
  · exact Bin.flatten fun x hx => by obtain ⟨g, _, rfl⟩ := List.mem_map.1 hx; exact (bitsOf_bin _ _).append (bitsOf_bin _ _)
  · exact Bin.flatten fun x hx => by obtain ⟨g, _, rfl⟩ := List.mem_map.1 hx; exact bitsOf_bin _ _
/-- the two's complement of a number that has room -/
theorem twos_nn {v : Int} {k : Nat} (h1 : 0 ≤ v) (h2 : v < 2 ^ k) : (twos v k : Int) = v := by
  unfold twos
  rw [Int.emod_eq_of_lt h1 h2]; omega
theorem twos_neg {v : Int} {k : Nat} (h1 : -(2 ^ k) ≤ v) (h2 : v < 0) : (twos v k : Int) = v + 2 ^ k := by
  unfold twos
  have : v % 2 ^ k = v + 2 ^ k := by
    rw [← Int.add_emod_right]
    exact Int.emod_eq_of_lt (by omega) (by omega)
  rw [this]; omega
end Go.Proofs.Ytibegmjkiceiiaa
