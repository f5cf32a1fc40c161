/- FitG, FitH, FrameP. Conditions: as each theorem states. -/
import Derived.Test.YthmgjielcmjenaaGreatZc27
import Derived.Test.YthmgjielcmjenaaGreatZc01

namespace Go.Proofs.YthmgjielcmjenaaGreat

def addStep (b : List Int) (t : ToneV) : List Int := if 0 ≤ t.idx ∧ t.idx < 16 then b.set t.idx.toNat (bgt b t.idx.toNat + t.val) else b
def addT (b : List Int) (ts : List ToneV) : List Int := ts.foldl addStep b
theorem addStep_len (b : List Int) (t : ToneV) : (addStep b t).length = b.length := by unfold addStep; split <;> simp
theorem addT_len (b : List Int) : ∀ (ts : List ToneV), (addT b ts).length = b.length := by
  intro ts
  unfold addT
  induction ts generalizing b with
  | nil => rfl
  | cons t r ih => rw [List.foldl_cons, ih, addStep_len]
theorem addT_succ (b : List Int) {ts : List ToneV} {m : Nat} {t : ToneV} (h : ts[m]? = some t) : addT b (ts.take (m + 1)) = addStep (addT b (ts.take m)) t := by
  obtain ⟨hm, rfl⟩ := List.getElem?_eq_some_iff.1 h
  unfold addT
  rw [List.take_succ_eq_append_getElem hm, List.foldl_append]
  rfl
def lim31 (v : Int) : Int := if v < -2147483648 then -2147483648 else if 2147483648 < v then 2147483648 else v
theorem lim31_bd (v : Int) : -2147483648 ≤ lim31 v ∧ lim31 v ≤ 2147483648 := by
  unfold lim31
  repeat' split
  all_goals omega
def clampTo (b : List Int) (m : Nat) : List Int := (List.range 16).map fun k => if k < m then lim31 (bgt b k) else bgt b k
theorem clampTo_zero {b : List Int} (hb : b.length = 16) : clampTo b 0 = b := by
  rw [self_map hb]; unfold clampTo
  apply List.map_congr_left
  intro k hk
  have := List.mem_range.1 hk
  rw [if_neg (by omega), ← self_map hb]
theorem clampTo_succ (b : List Int) {m : Nat} (hm : m < 16) : (clampTo b m).set m (lim31 (bgt b m)) = clampTo b (m + 1) := by
  refine range_map_set _ (fun k => if k < m + 1 then lim31 (bgt b k) else bgt b k) hm ?_ (fun i hi => ?_)
  · rw [if_pos (by omega)]
  · by_cases h : i < m
    · rw [if_pos h, if_pos (by omega)]
    · rw [if_neg h, if_neg (by omega)]
theorem clampTo_len (b : List Int) (m : Nat) : (clampTo b m).length = 16 := by simp [clampTo]
theorem clampTo_get (b : List Int) {m k : Nat} (hk : k < 16) (hm : m ≤ k) {x : Int} (hx : b[k]? = some x) : (clampTo b m)[k]? = some x := by
  unfold clampTo
  rw [range_map_get _ hk, if_neg (by omega), bgt_get hx]
theorem clampTo_bgt (b : List Int) {m k : Nat} (hk : k < 16) : bgt (clampTo b m) k = if k < m then lim31 (bgt b k) else bgt b k := bgt_get (range_map_get _ hk)
/-- the spectrum that a frame tells -/
def specZ (f : FrameV) : List Int := clampTo (addT (valuesZ f.q f.scale) f.tones) 16
theorem specZ_len (f : FrameV) : (specZ f).length = 16 := clampTo_len _ _
theorem specZ_bd (f : FrameV) {k : Nat} (hk : k < 16) : -2147483648 ≤ bgt (specZ f) k ∧ bgt (specZ f) k ≤ 2147483648 := by
  unfold specZ
  rw [clampTo_bgt _ hk, if_pos hk]
  exact lim31_bd _
def BdB (B : Int) (b : List Int) : Prop := ∀ k, k < 16 → -B ≤ bgt b k ∧ bgt b k ≤ B
theorem BdB.get {B : Int} {b : List Int} (h : BdB B b) (hb : b.length = 16) {k : Nat} {x : Int} (hx : b[k]? = some x) : -B ≤ x ∧ x ≤ B := by
  have hk : k < 16 := by have := (List.getElem?_eq_some_iff.1 hx).1; omega
  have := h k hk
  rwa [bgt_get hx] at this
theorem addT_bd : ∀ (ts : List ToneV) (b : List Int) (B : Int), b.length = 16 → BdB B b → (∀ t ∈ ts, -8388608 ≤ t.val ∧ t.val ≤ 8388608) → BdB (B + 8388608 * (ts.length : Int)) (addT b ts)
  | [], b, B, _, h, _ => by
    intro k hk
    have := h k hk
    simp only [addT, List.foldl_nil, List.length_nil]
    omega
  | t :: r, b, B, hb, h, ht => by
    have h1 : BdB (B + 8388608) (addStep b t) := by
      intro k hk
      have h2 := ht t (by simp)
      have h3 := h k hk
      unfold addStep
      split
      · rename_i hi
        rw [bgt_set _ _ _ _ (by omega)]
        split
        · rename_i e
          rw [e]
          omega
        · omega
      · omega
    have := addT_bd r (addStep b t) (B + 8388608) (by rw [addStep_len, hb]) h1 (fun x hx => ht x (by simp [hx]))
    intro k hk
    have h2 := this k hk
    rw [List.length_cons]
    show _ ≤ bgt (addT (addStep b t) r) k ∧ bgt (addT (addStep b t) r) k ≤ _
    omega
theorem RightF.qbd {f : FrameV} (h : RightF f) {k : Nat} (hk : k < 16) : -8388608 ≤ bgt f.q k ∧ bgt f.q k < 8388608 := by
  have h1 := h.q k hk
  have h2 := h.width (k / 4) (by omega)
  exact widthZ_bd (k := 23) (by omega)
theorem pow23 {n : Nat} (h : n ≤ 23) : (1 : Int) ≤ 2 ^ n ∧ (2 : Int) ^ n ≤ 8388608 := by
  rw [show (2 : Int) ^ n = ((2 ^ n : Nat) : Int) by rw [Int.natCast_pow]; rfl]
  have h1 := Nat.pow_le_pow_right (n := 2) (by decide) h
  have h2 := Nat.two_pow_pos n
  omega
theorem mul_bd {x y X Y : Int} (h1 : -X ≤ x) (h2 : x ≤ X) (h3 : 0 ≤ y) (h4 : y ≤ Y) : -(X * Y) ≤ x * y ∧ x * y ≤ X * Y := by
  have hX : 0 ≤ X := by omega
  have a := Int.mul_le_mul_of_nonneg_right h2 h3
  have b := Int.mul_le_mul_of_nonneg_right h1 h3
  have c := Int.mul_le_mul_of_nonneg_left h4 hX
  rw [Int.neg_mul] at b
  omega
theorem RightF.values {f : FrameV} (h : RightF f) : BdB 70368744177664 (valuesZ f.q f.scale) := by
  intro k hk
  unfold valuesZ
  rw [if_pos h.scale.ok, valuesTo_bgt _ _ hk, if_pos hk]
  have h1 := h.qbd hk
  have h2 := h.scale.2 (k / 4) (by omega)
  have h3 := pow23 (n := (bgt f.scale (k / 4)).toNat) (by omega)
  exact mul_bd (X := 8388608) (Y := 8388608) h1.1 (by omega) (by omega) h3.2
theorem RightF.added {f : FrameV} (h : RightF f) (m : Nat) : BdB 70368769343488 (addT (valuesZ f.q f.scale) (f.tones.take m)) := by
  have h1 := addT_bd (f.tones.take m) (valuesZ f.q f.scale) 70368744177664 (valuesZ_len _ _) h.values (fun t ht => by have := h.tidx t (List.mem_of_mem_take ht); omega)
  intro k hk
  have h2 := h1 k hk
  have h3 := h.tlen
  have h4 : (f.tones.take m).length ≤ 2 := by rw [List.length_take]; omega
  omega

/-- the exact frame -/
def exactZ (b : List Int) : FrameV := toldZ b zero4 zero4 []
theorem bits_low (b : List Int) (hb : b.length = 16) (hr : BigB b) : bitsZ (exactZ b) ≤ 1073741824 := by
  have ht : TonesOk b [] := tones_ok hb hr false
  have hw := told_width (g := zero4) hb ht ScB.zero
  have hl : (exactZ b).width.length = 4 := widthsTo_len _ _
  have h : ∀ k, k < 4 → bgt (exactZ b).width k ≤ 1000 := by
    intro k hk
    obtain ⟨x, hx⟩ := list_get hl hk
    rw [bgt_get hx]
    exact (hw k x hx).2
  have := h 0 (by omega)
  have := h 1 (by omega)
  have := h 2 (by omega)
  have := h 3 (by omega)
  unfold bitsZ
  have e : (exactZ b).tones.length = 0 := rfl
  rw [e]
  omega
theorem search_exact (b : List Int) (hb : b.length = 16) (hr : BigB b) : searchZ b zero4 1073741824 false = (exactZ b, 0) := by
  have h := bits_low b hb hr
  show searchFrom b zero4 1073741824 [] (maskZ (outT b [])) (91 + 1) zero4 0 = _
  unfold searchFrom
  simp only
  rw [if_pos (.inl h)]
  rfl
theorem exact_steps {b : List Int} (hb : b.length = 16) : stepsZ b zero4 = b := by
  unfold stepsZ
  rw [if_pos ScB.zero.ok]
  refine Eq.trans ?_ (self_map hb).symm
  unfold stepsTo
  apply List.map_congr_left
  intro k hk
  have h16 := List.mem_range.1 hk
  rw [if_pos h16]
  have : bgt zero4 (k / 4) = 0 := by
    have h4 : k / 4 < 4 := by omega
    generalize k / 4 = j at *
    match j, h4 with
    | 0, _ | 1, _ | 2, _ | 3, _ => rfl
  rw [this]; rfl
theorem exact_values {b : List Int} (hb : b.length = 16) : valuesZ b zero4 = b := by
  unfold valuesZ
  rw [if_pos ScB.zero.ok]
  refine Eq.trans ?_ (self_map hb).symm
  unfold valuesTo
  apply List.map_congr_left
  intro k hk
  have h16 := List.mem_range.1 hk
  rw [if_pos h16]
  have : bgt zero4 (k / 4) = 0 := by
    have h4 : k / 4 < 4 := by omega
    generalize k / 4 = j at *
    match j, h4 with
    | 0, _ | 1, _ | 2, _ | 3, _ => rfl
  rw [this]; show bgt b k * 2 ^ 0 = _; omega
theorem exact_q {b : List Int} (hb : b.length = 16) : (exactZ b).q = b := exact_steps hb
theorem exact_spec {b : List Int} (hb : b.length = 16) (h : BdB 2147483648 b) : specZ (exactZ b) = b := by
  unfold specZ
  rw [exact_q hb, show (exactZ b).scale = zero4 from rfl, show (exactZ b).tones = [] from rfl, exact_values hb]
  show clampTo b 16 = b
  refine Eq.trans ?_ (self_map hb).symm
  unfold clampTo
  apply List.map_congr_left
  intro k hk
  have h16 := List.mem_range.1 hk
  rw [if_pos h16]
  have := h k h16
  unfold lim31
  rw [if_neg (by omega), if_neg (by omega)]
/-- how far a frame is off -/
def offZ (b : List Int) (f : FrameV) : Int := peakZ (subTo b (specZ f) 16)
theorem absZ_sub {x y : Int} (hx : -4611686018427387904 ≤ x ∧ x ≤ 4611686018427387904) (hy : -2147483648 ≤ y ∧ y ≤ 2147483648) : absZ (y - x) = absZ (x - y) := by
  unfold absZ
  repeat' split
  all_goals omega
/-- the greatest difference of the first so many numbers -/
def farTo (s b : List Int) : Nat → Int
  | 0 => 0
  | m + 1 => if farTo s b m < absZ (bgt s m - bgt b m) then absZ (bgt s m - bgt b m) else farTo s b m
theorem farTo_succ (s b : List Int) (m : Nat) : farTo s b (m + 1) = if farTo s b m < absZ (bgt s m - bgt b m) then absZ (bgt s m - bgt b m) else farTo s b m := rfl
theorem far_off {b : List Int} {f : FrameV} (hr : BigB b) (hb : b.length = 16) : farTo (specZ f) b 16 = offZ b f := by
  have key : ∀ m, m ≤ 16 → farTo (specZ f) b m = peakZ ((subTo b (specZ f) 16).take m) := by
    intro m
    induction m with
    | zero => intro _; rfl
    | succ m ih =>
      intro hm
      have h1 : (subTo b (specZ f) 16)[m]? = some (bgt b m - bgt (specZ f) m) := by unfold subTo; rw [range_map_get _ (by omega), if_pos (by omega)]
      rw [peakZ_take _ _ h1, ← ih (by omega), farTo_succ]
      obtain ⟨x, hx⟩ := list_get (k := m) hb (by omega)
      have h2 := hr m x hx
      rw [absZ_sub (x := bgt b m) (y := bgt (specZ f) m) (by rw [bgt_get hx]; exact h2) (specZ_bd f (by omega))]
      split <;> omega
  rw [key 16 (by omega), List.take_of_length_le (by rw [subTo_len]; omega)]
  rfl
theorem off_exact {b : List Int} (hb : b.length = 16) (h : BdB 2147483648 b) : offZ b (exactZ b) = 0 := by
  unfold offZ
  rw [exact_spec hb h]
  have : subTo b b 16 = List.replicate 16 0 := by
    unfold subTo
    have : ((List.range 16).map fun k => if k < 16 then bgt b k - bgt b k else 0) = (List.range 16).map fun _ => (0 : Int) := by
      apply List.map_congr_left
      intro k _
      split <;> omega
    rw [this]; rfl
  rw [this]; decide
end Go.Proofs.YthmgjielcmjenaaGreat

namespace Go.Proofs.YthmgjielcmjenaaGreat
open Go.RowKit

/-- a number that has room in 24 bits -/
def slimI (x : Int) : Bool := decide (widthZ (absZ x) ≤ 24)
theorem peak_four (x y z u : Int) : widthZ (peakZ [x, y, z, u]) = max (max (max (max 0 (widthZ (absZ x))) (widthZ (absZ y))) (widthZ (absZ z))) (widthZ (absZ u)) := by
  have nx := absZ_nn (v := x)
  have ny := absZ_nn (v := y)
  have nz := absZ_nn (v := z)
  have nu := absZ_nn (v := u)
  simp only [peakZ, List.foldl]
  rw [widthZ_max (by omega) nu, widthZ_max (by omega) nz, widthZ_max (by omega) ny, widthZ_max (by omega) nx]
  rfl
theorem mask_eq {b : List Int} (hb : b.length = 16) : maskZ b = masksTo b 16 := by
  obtain ⟨a0, a1, a2, a3, a4, a5, a6, a7, a8, a9, b0, b1, b2, b3, b4, b5, rfl⟩ := sixteen_of hb
  show [((widthZ (peakZ [a0, a1, a2, a3]) : Nat) : Int), (widthZ (peakZ [a4, a5, a6, a7]) : Nat), (widthZ (peakZ [a8, a9, b0, b1]) : Nat), (widthZ (peakZ [b2, b3, b4, b5]) : Nat)] = _
  rw [peak_four, peak_four, peak_four, peak_four]
  rfl
theorem masksTo_len (q : List Int) (m : Nat) : (masksTo q m).length = 4 := by simp [masksTo]
theorem masksTo_get (q : List Int) (m : Nat) {i : Nat} (hi : i < 4) : (masksTo q m)[i]? = some (maskTo q m i : Int) := range_map_get _ hi
theorem masksTo_succ (q : List Int) (m : Nat) (hm : m < 16) : (masksTo q m).set (m / 4) (max (maskTo q m (m / 4)) (widthZ (absZ (bgt q m))) : Nat) = masksTo q (m + 1) := by
  refine range_map_set _ (fun i => ((maskTo q (m + 1) i : Nat) : Int)) (by omega) ?_ (fun i hi => ?_)
  · rw [maskTo_succ, if_pos rfl]
  · rw [maskTo_succ, if_neg (fun e => hi e.symm)]
end Go.Proofs.YthmgjielcmjenaaGreat

namespace Go.Proofs.YthmgjielcmjenaaGreat

/-- a two's complement -/
def twos (v : Int) (k : Nat) : Nat := (v % 2 ^ k).toNat
theorem twos_lt (v : Int) (k : Nat) : twos v k < 2 ^ k := by
  unfold twos
  have hp : (0 : Int) < 2 ^ k := Int.pow_pos (by decide)
  have h1 := Int.emod_nonneg v (b := 2 ^ k) (by omega)
  have h2 := Int.emod_lt_of_pos v hp
  have e : ((2 ^ k : Nat) : Int) = 2 ^ k := by rw [Int.natCast_pow]; rfl
  omega
def gainsB (l : List Int) : List Nat := (l.map fun g => bitsOf g.toNat 2).flatten
def toneB (t : ToneV) : List Nat := bitsOf t.idx.toNat 4 ++ bitsOf (twos t.val 24) 24
def tonesB (l : List ToneV) : List Nat := (l.map toneB).flatten
def bandB (s w : List Int) (i : Nat) : List Nat := bitsOf (bgt s i).toNat 5 ++ bitsOf (bgt w i).toNat 5
def bandsB (s w : List Int) (m : Nat) : List Nat := ((List.range m).map (bandB s w)).flatten
def stepB (w q : List Int) (i : Nat) : List Nat := bitsOf (twos (bgt q i) (bgt w (i / 4)).toNat) (bgt w (i / 4)).toNat
def stepsB (w q : List Int) (m : Nat) : List Nat := ((List.range m).map (stepB w q)).flatten
def head1 : List Nat := bitsOf 1 2
def head2 (f : FrameV) : List Nat := head1 ++ gainsB f.gains
def head3 (f : FrameV) : List Nat := head2 f ++ bitsOf f.tones.length 2
def head4 (f : FrameV) : List Nat := head3 f ++ tonesB f.tones
def head5 (f : FrameV) : List Nat := head4 f ++ bandsB f.scale f.width 4
def frameB (f : FrameV) : List Nat := head5 f ++ stepsB f.width f.q 16

theorem gainsB_succ {l : List Int} {m : Nat} {x : Int} (h : l[m]? = some x) : gainsB (l.take (m + 1)) = gainsB (l.take m) ++ bitsOf x.toNat 2 := by
  obtain ⟨hm, rfl⟩ := List.getElem?_eq_some_iff.1 h
  unfold gainsB
  rw [List.take_succ_eq_append_getElem hm, List.map_append, List.flatten_append]
  simp only [List.map_cons, List.map_nil, List.flatten_cons, List.flatten_nil, List.append_nil]
theorem tonesB_succ {l : List ToneV} {m : Nat} {t : ToneV} (h : l[m]? = some t) : tonesB (l.take (m + 1)) = tonesB (l.take m) ++ toneB t := by
  obtain ⟨hm, rfl⟩ := List.getElem?_eq_some_iff.1 h
  unfold tonesB
  rw [List.take_succ_eq_append_getElem hm, List.map_append, List.flatten_append]
  simp only [List.map_cons, List.map_nil, List.flatten_cons, List.flatten_nil, List.append_nil]
theorem bandsB_succ (s w : List Int) (m : Nat) : bandsB s w (m + 1) = bandsB s w m ++ bandB s w m := by unfold bandsB; rw [List.range_succ]; simp
theorem stepsB_succ (w q : List Int) (m : Nat) : stepsB w q (m + 1) = stepsB w q m ++ stepB w q m := by unfold stepsB; rw [List.range_succ]; simp
theorem gainsB_len : ∀ (l : List Int), (gainsB l).length = 2 * l.length
  | [] => rfl
  | x :: r => by
    have := gainsB_len r
    unfold gainsB at this ⊢
    rw [List.map_cons, List.flatten_cons, List.length_append, this, bitsOf_len, List.length_cons]; omega
theorem tonesB_len : ∀ (l : List ToneV), (tonesB l).length = 28 * l.length
  | [] => rfl
  | x :: r => by
    have := tonesB_len r
    unfold tonesB at this ⊢
    rw [List.map_cons, List.flatten_cons, List.length_append, this]
    unfold toneB
    rw [List.length_append, bitsOf_len, bitsOf_len, List.length_cons]; omega
theorem bandsB_len (s w : List Int) : ∀ m, (bandsB s w m).length = 10 * m
  | 0 => rfl
  | m + 1 => by
    rw [bandsB_succ, List.length_append, bandsB_len s w m]
    unfold bandB
    rw [List.length_append, bitsOf_len, bitsOf_len]; omega
def widthSum (w : List Int) : Nat → Nat
  | 0 => 0
  | m + 1 => widthSum w m + (bgt w (m / 4)).toNat
theorem stepsB_len (w q : List Int) : ∀ m, (stepsB w q m).length = widthSum w m
  | 0 => rfl
  | m + 1 => by
    rw [stepsB_succ, List.length_append, stepsB_len w q m]
    unfold stepB
    rw [bitsOf_len]; rfl
theorem widthSum_succ (w : List Int) (m : Nat) : widthSum w (m + 1) = widthSum w m + (bgt w (m / 4)).toNat := rfl
theorem widthSum_16 (w : List Int) : widthSum w 16 = 4 * ((bgt w 0).toNat + (bgt w 1).toNat + (bgt w 2).toNat + (bgt w 3).toNat) := by
  simp [widthSum]
  omega
theorem widthSum_mono (w : List Int) : ∀ r m, widthSum w m ≤ widthSum w (m + r)
  | 0, _ => Nat.le_refl _
  | r + 1, m => by
    have := widthSum_mono w r m
    rw [← Nat.add_assoc, widthSum_succ]
    omega
theorem head2_len {f : FrameV} (h : RightF f) : (head2 f).length = 10 := by
  unfold head2 head1
  rw [List.length_append, gainsB_len, bitsOf_len, h.gains.1]
theorem head3_len {f : FrameV} (h : RightF f) : (head3 f).length = 12 := by
  unfold head3
  rw [List.length_append, head2_len h, bitsOf_len]
theorem head4_len {f : FrameV} (h : RightF f) : (head4 f).length = 12 + 28 * f.tones.length := by
  unfold head4
  rw [List.length_append, head3_len h, tonesB_len]
theorem head5_len {f : FrameV} (h : RightF f) : (head5 f).length = 52 + 28 * f.tones.length := by
  unfold head5
  rw [List.length_append, head4_len h, bandsB_len]; omega
theorem frameB_len {f : FrameV} (h : RightF f) : ((frameB f).length : Int) = bitsZ f := by
  unfold frameB
  rw [List.length_append, head5_len h, stepsB_len, widthSum_16]
  have := h.width 0 (by omega)
  have := h.width 1 (by omega)
  have := h.width 2 (by omega)
  have := h.width 3 (by omega)
  unfold bitsZ
  omega
theorem frameB_most {f : FrameV} (h : RightF f) : bitsZ f ≤ 492 := by
  have := h.width 0 (by omega)
  have := h.width 1 (by omega)
  have := h.width 2 (by omega)
  have := h.width 3 (by omega)
  have := h.tlen
  unfold bitsZ
  omega
theorem Bin.flatten {l : List (List Nat)} (h : ∀ x ∈ l, Bin x) : Bin l.flatten := fun b hb => by
  obtain ⟨x, hx, hbx⟩ := List.mem_flatten.1 hb
  exact h x hx b hbx
theorem frameB_bin (f : FrameV) : Bin (frameB f) := by
  unfold frameB head5 head4 head3 head2 head1
  refine ((((((bitsOf_bin _ _).append ?_).append (bitsOf_bin _ _)).append ?_).append ?_).append ?_)
  · exact Bin.flatten fun x hx => by obtain ⟨g, _, rfl⟩ := List.mem_map.1 hx; exact bitsOf_bin _ _
  · exact Bin.flatten fun x hx => by obtain ⟨g, _, rfl⟩ := List.mem_map.1 hx; exact (bitsOf_bin _ _).append (bitsOf_bin _ _)
  · exact Bin.flatten fun x hx => by obtain ⟨g, _, rfl⟩ := List.mem_map.1 hx; exact (bitsOf_bin _ _).append (bitsOf_bin _ _)
  · exact Bin.flatten fun x hx => by obtain ⟨g, _, rfl⟩ := List.mem_map.1 hx; exact bitsOf_bin _ _
/-- the two's complement of a number that has room -/
theorem twos_nn {v : Int} {k : Nat} (h1 : 0 ≤ v) (h2 : v < 2 ^ k) : (twos v k : Int) = v := by
  unfold twos
  rw [Int.emod_eq_of_lt h1 h2]; omega
theorem twos_neg {v : Int} {k : Nat} (h1 : -(2 ^ k) ≤ v) (h2 : v < 0) : (twos v k : Int) = v + 2 ^ k := by
  unfold twos
  have : v % 2 ^ k = v + 2 ^ k := by
    rw [← Int.add_emod_right]
    exact Int.emod_eq_of_lt (by omega) (by omega)
  rw [this]; omega
end Go.Proofs.YthmgjielcmjenaaGreat
