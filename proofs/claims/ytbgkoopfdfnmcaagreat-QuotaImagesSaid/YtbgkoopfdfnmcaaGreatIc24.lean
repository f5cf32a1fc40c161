/- FitG, FitH, FitJ, FrameP. Conditions: as each theorem states. -/
import Derived.Test.YtbgkoopfdfnmcaaGreatIc23
import Derived.Test.YtbgkoopfdfnmcaaGreatIc01

namespace Go.Proofs.YtbgkoopfdfnmcaaGreat

def addStep (b : List Int) (t : ToneV) : List Int := if 0 ≤ t.idx ∧ t.idx < 16 then b.set t.idx.toNat (bgt b t.idx.toNat + t.val) else b
def addT (b : List Int) (ts : List ToneV) : List Int := ts.foldl addStep b
theorem addStep_len (b : List Int) (t : ToneV) : (addStep b t).length = b.length := by unfold addStep; split <;> simp
theorem addT_len (b : List Int) : ∀ (ts : List ToneV), (addT b ts).length = b.length := by
  intro ts
  unfold addT
  induction ts generalizing b with
  | nil => rfl
  | cons t r ih => rw [List.foldl_cons, ih, addStep_len]
theorem addT_succ (b : List Int) {ts : List ToneV} {m : Nat} {t : ToneV} (h : ts[m]? = some t) : addT b (ts.take (m + 1)) = addStep (addT b (ts.take m)) t := by
  obtain ⟨hm, rfl⟩ := List.getElem?_eq_some_iff.1 h
  unfold addT
  rw [List.take_succ_eq_append_getElem hm, List.foldl_append]
  rfl
def lim31 (v : Int) : Int := if v < -2147483648 then -2147483648 else if 2147483648 < v then 2147483648 else v
theorem lim31_bd (v : Int) : -2147483648 ≤ lim31 v ∧ lim31 v ≤ 2147483648 := by
  unfold lim31
  repeat' split
  all_goals omega
def clampTo (b : List Int) (m : Nat) : List Int := (List.range 16).map fun k => if k < m then lim31 (bgt b k) else bgt b k
theorem clampTo_zero {b : List Int} (hb : b.length = 16) : clampTo b 0 = b := by
  rw [self_map hb]; unfold clampTo
  apply List.map_congr_left
  intro k hk
  have := List.mem_range.1 hk
  rw [if_neg (by omega), ← self_map hb]
theorem clampTo_succ (b : List Int) {m : Nat} (hm : m < 16) : (clampTo b m).set m (lim31 (bgt b m)) = clampTo b (m + 1) := by
  refine range_map_set _ (fun k => if k < m + 1 then lim31 (bgt b k) else bgt b k) hm ?_ (fun i hi => ?_)
  · rw [if_pos (by omega)]
  · by_cases h : i < m
    · rw [if_pos h, if_pos (by omega)]
    · rw [if_neg h, if_neg (by omega)]
theorem clampTo_len (b : List Int) (m : Nat) : (clampTo b m).length = 16 := by simp [clampTo]
theorem clampTo_get (b : List Int) {m k : Nat} (hk : k < 16) (hm : m ≤ k) {x : Int} (hx : b[k]? = some x) : (clampTo b m)[k]? = some x := by
  unfold clampTo
  rw [range_map_get _ hk, if_neg (by omega), bgt_get hx]
theorem clampTo_bgt (b : List Int) {m k : Nat} (hk : k < 16) : bgt (clampTo b m) k = if k < m then lim31 (bgt b k) else bgt b k := bgt_get (range_map_get _ hk)
/-- the spectrum that a frame tells -/
def specZ (f : FrameV) : List Int := clampTo (addT (valuesZ f.q f.scale) f.tones) 16
theorem specZ_len (f : FrameV) : (specZ f).length = 16 := clampTo_len _ _
theorem specZ_bd (f : FrameV) {k : Nat} (hk : k < 16) : -2147483648 ≤ bgt (specZ f) k ∧ bgt (specZ f) k ≤ 2147483648 := by
  unfold specZ
  rw [clampTo_bgt _ hk, if_pos hk]
  exact lim31_bd _
def BdB (B : Int) (b : List Int) : Prop := ∀ k, k < 16 → -B ≤ bgt b k ∧ bgt b k ≤ B
theorem BdB.get {B : Int} {b : List Int} (h : BdB B b) (hb : b.length = 16) {k : Nat} {x : Int} (hx : b[k]? = some x) : -B ≤ x ∧ x ≤ B := by
  have hk : k < 16 := by have := (List.getElem?_eq_some_iff.1 hx).1; omega
  have := h k hk
  rwa [bgt_get hx] at this
theorem addT_bd : ∀ (ts : List ToneV) (b : List Int) (B : Int), b.length = 16 → BdB B b → (∀ t ∈ ts, -8388608 ≤ t.val ∧ t.val ≤ 8388608) → BdB (B + 8388608 * (ts.length : Int)) (addT b ts)
  | [], b, B, _, h, _ => by
    intro k hk
    have := h k hk
    simp only [addT, List.foldl_nil, List.length_nil]
    omega
  | t :: r, b, B, hb, h, ht => by
    have h1 : BdB (B + 8388608) (addStep b t) := by
      intro k hk
      have h2 := ht t (by simp)
      have h3 := h k hk
      unfold addStep
      split
      · rename_i hi
        rw [bgt_set _ _ _ _ (by omega)]
        split
        · rename_i e
          rw [e]
          omega
        · omega
      · omega
    have := addT_bd r (addStep b t) (B + 8388608) (by rw [addStep_len, hb]) h1 (fun x hx => ht x (by simp [hx]))
    intro k hk
    have h2 := this k hk
    rw [List.length_cons]
    show _ ≤ bgt (addT (addStep b t) r) k ∧ bgt (addT (addStep b t) r) k ≤ _
    omega
theorem RightF.qbd {f : FrameV} (h : RightF f) {k : Nat} (hk : k < 16) : -8388608 ≤ bgt f.q k ∧ bgt f.q k < 8388608 := by
  have h1 := h.q k hk
  have h2 := h.width (k / 4) (by omega)
  exact widthZ_bd (k := 23) (by omega)
theorem pow23 {n : Nat} (h : n ≤ 23) : (1 : Int) ≤ 2 ^ n ∧ (2 : Int) ^ n ≤ 8388608 := by
  rw [show (2 : Int) ^ n = ((2 ^ n : Nat) : Int) by rw [Int.natCast_pow]; rfl]
  have h1 := Nat.pow_le_pow_right (n := 2) (by decide) h
  have h2 := Nat.two_pow_pos n
  omega
theorem mul_bd {x y X Y : Int} (h1 : -X ≤ x) (h2 : x ≤ X) (h3 : 0 ≤ y) (h4 : y ≤ Y) : -(X * Y) ≤ x * y ∧ x * y ≤ X * Y := by
  have hX : 0 ≤ X := by omega
  have a := Int.mul_le_mul_of_nonneg_right h2 h3
  have b := Int.mul_le_mul_of_nonneg_right h1 h3
  have c := Int.mul_le_mul_of_nonneg_left h4 hX
  rw [Int.neg_mul] at b
  omega
theorem RightF.values {f : FrameV} (h : RightF f) : BdB 70368744177664 (valuesZ f.q f.scale) := by
  intro k hk
  unfold valuesZ
  rw [if_pos h.scale.ok, valuesTo_bgt _ _ hk, if_pos hk]
  have h1 := h.qbd hk
  have h2 := h.scale.2 (k / 4) (by omega)
  have h3 := pow23 (n := (bgt f.scale (k / 4)).toNat) (by omega)
  exact mul_bd (X := 8388608) (Y := 8388608) h1.1 (by omega) (by omega) h3.2
theorem RightF.added {f : FrameV} (h : RightF f) (m : Nat) : BdB 70368769343488 (addT (valuesZ f.q f.scale) (f.tones.take m)) := by
  have h1 := addT_bd (f.tones.take m) (valuesZ f.q f.scale) 70368744177664 (valuesZ_len _ _) h.values (fun t ht => by have := h.tidx t (List.mem_of_mem_take ht); omega)
  intro k hk
  have h2 := h1 k hk
  have h3 := h.tlen
  have h4 : (f.tones.take m).length ≤ 2 := by rw [List.length_take]; omega
  omega

/-- the exact frame -/
def exactZ (b : List Int) : FrameV := toldZ b zero4 zero4 []
theorem bits_low (b : List Int) (hb : b.length = 16) (hr : BigB b) : bitsZ (exactZ b) ≤ 1073741824 := by
  have ht : TonesOk b [] := tones_ok hb hr false
  have hw := told_width (g := zero4) hb ht ScB.zero
  have hl : (exactZ b).width.length = 4 := widthsTo_len _ _
  have h : ∀ k, k < 4 → bgt (exactZ b).width k ≤ 1000 := by
    intro k hk
    obtain ⟨x, hx⟩ := list_get hl hk
    rw [bgt_get hx]
    exact (hw k x hx).2
  have := h 0 (by omega)
  have := h 1 (by omega)
  have := h 2 (by omega)
  have := h 3 (by omega)
  unfold bitsZ
  have e : (exactZ b).tones.length = 0 := rfl
  rw [e]
  omega
theorem search_exact (b : List Int) (hb : b.length = 16) (hr : BigB b) : searchZ b zero4 1073741824 false = (exactZ b, 0) := by
  have h := bits_low b hb hr
  show searchFrom b zero4 1073741824 [] (maskZ (outT b [])) (91 + 1) zero4 0 = _
  unfold searchFrom
  simp only
  rw [if_pos (.inl h)]
  rfl
theorem exact_steps {b : List Int} (hb : b.length = 16) : stepsZ b zero4 = b := by
  unfold stepsZ
  rw [if_pos ScB.zero.ok]
  refine Eq.trans ?_ (self_map hb).symm
  unfold stepsTo
  apply List.map_congr_left
  intro k hk
  have h16 := List.mem_range.1 hk
  rw [if_pos h16]
  have : bgt zero4 (k / 4) = 0 := by
    have h4 : k / 4 < 4 := by omega
    generalize k / 4 = j at *
    match j, h4 with
    | 0, _ | 1, _ | 2, _ | 3, _ => rfl
  rw [this]; rfl
theorem exact_values {b : List Int} (hb : b.length = 16) : valuesZ b zero4 = b := by
  unfold valuesZ
  rw [if_pos ScB.zero.ok]
  refine Eq.trans ?_ (self_map hb).symm
  unfold valuesTo
  apply List.map_congr_left
  intro k hk
  have h16 := List.mem_range.1 hk
  rw [if_pos h16]
  have : bgt zero4 (k / 4) = 0 := by
    have h4 : k / 4 < 4 := by omega
    generalize k / 4 = j at *
    match j, h4 with
    | 0, _ | 1, _ | 2, _ | 3, _ => rfl
  rw [this]; show bgt b k * 2 ^ 0 = _; omega
theorem exact_q {b : List Int} (hb : b.length = 16) : (exactZ b).q = b := exact_steps hb
theorem exact_spec {b : List Int} (hb : b.length = 16) (h : BdB 2147483648 b) : specZ (exactZ b) = b := by
  unfold specZ
  rw [exact_q hb, show (exactZ b).scale = zero4 from rfl, show (exactZ b).tones = [] from rfl, exact_values hb]
  show clampTo b 16 = b
  refine Eq.trans ?_ (self_map hb).symm
  unfold clampTo
  apply List.map_congr_left
  intro k hk
  have h16 := List.mem_range.1 hk
  rw [if_pos h16]
  have := h k h16
  unfold lim31
  rw [if_neg (by omega), if_neg (by omega)]
/-- how far a frame is off -/
def offZ (b : List Int) (f : FrameV) : Int := peakZ (subTo b (specZ f) 16)
theorem absZ_sub {x y : Int} (hx : -4611686018427387904 ≤ x ∧ x ≤ 4611686018427387904) (hy : -2147483648 ≤ y ∧ y ≤ 2147483648) : absZ (y - x) = absZ (x - y) := by
  unfold absZ
  repeat' split
  all_goals omega
/-- the greatest difference of the first so many numbers -/
def farTo (s b : List Int) : Nat → Int
  | 0 => 0
  | m + 1 => if farTo s b m < absZ (bgt s m - bgt b m) then absZ (bgt s m - bgt b m) else farTo s b m
theorem farTo_succ (s b : List Int) (m : Nat) : farTo s b (m + 1) = if farTo s b m < absZ (bgt s m - bgt b m) then absZ (bgt s m - bgt b m) else farTo s b m := rfl
theorem far_off {b : List Int} {f : FrameV} (hr : BigB b) (hb : b.length = 16) : farTo (specZ f) b 16 = offZ b f := by
  have key : ∀ m, m ≤ 16 → farTo (specZ f) b m = peakZ ((subTo b (specZ f) 16).take m) := by
    intro m
    induction m with
    | zero => intro _; rfl
    | succ m ih =>
      intro hm
      have h1 : (subTo b (specZ f) 16)[m]? = some (bgt b m - bgt (specZ f) m) := by unfold subTo; rw [range_map_get _ (by omega), if_pos (by omega)]
      rw [peakZ_take _ _ h1, ← ih (by omega), farTo_succ]
      obtain ⟨x, hx⟩ := list_get (k := m) hb (by omega)
      have h2 := hr m x hx
      rw [absZ_sub (x := bgt b m) (y := bgt (specZ f) m) (by rw [bgt_get hx]; exact h2) (specZ_bd f (by omega))]
      split <;> omega
  rw [key 16 (by omega), List.take_of_length_le (by rw [subTo_len]; omega)]
  rfl
theorem off_exact {b : List Int} (hb : b.length = 16) (h : BdB 2147483648 b) : offZ b (exactZ b) = 0 := by
  unfold offZ
  rw [exact_spec hb h]
  have : subTo b b 16 = List.replicate 16 0 := by
    unfold subTo
    have : ((List.range 16).map fun k => if k < 16 then bgt b k - bgt b k else 0) = (List.range 16).map fun _ => (0 : Int) := by
      apply List.map_congr_left
      intro k _
      split <;> omega
    rw [this]; rfl
  rw [this]; decide
end Go.Proofs.YtbgkoopfdfnmcaaGreat

namespace Go.Proofs.YtbgkoopfdfnmcaaGreat
open Go.RowKit

/-- a number that has room in 24 bits -/
def slimI (x : Int) : Bool := decide (widthZ (absZ x) ≤ 24)
theorem peak_four (x y z u : Int) : widthZ (peakZ [x, y, z, u]) = max (max (max (max 0 (widthZ (absZ x))) (widthZ (absZ y))) (widthZ (absZ z))) (widthZ (absZ u)) := by
  have nx := absZ_nn (v := x)
  have ny := absZ_nn (v := y)
  have nz := absZ_nn (v := z)
  have nu := absZ_nn (v := u)
  simp only [peakZ, List.foldl]
  rw [widthZ_max (by omega) nu, widthZ_max (by omega) nz, widthZ_max (by omega) ny, widthZ_max (by omega) nx]
  rfl
theorem mask_eq {b : List Int} (hb : b.length = 16) : maskZ b = masksTo b 16 := by
  obtain ⟨a0, a1, a2, a3, a4, a5, a6, a7, a8, a9, b0, b1, b2, b3, b4, b5, rfl⟩ := sixteen_of hb
  show [((widthZ (peakZ [a0, a1, a2, a3]) : Nat) : Int), (widthZ (peakZ [a4, a5, a6, a7]) : Nat), (widthZ (peakZ [a8, a9, b0, b1]) : Nat), (widthZ (peakZ [b2, b3, b4, b5]) : Nat)] = _
  rw [peak_four, peak_four, peak_four, peak_four]
  rfl
theorem masksTo_len (q : List Int) (m : Nat) : (masksTo q m).length = 4 := by simp [masksTo]
theorem masksTo_get (q : List Int) (m : Nat) {i : Nat} (hi : i < 4) : (masksTo q m)[i]? = some (maskTo q m i : Int) := range_map_get _ hi
theorem masksTo_succ (q : List Int) (m : Nat) (hm : m < 16) : (masksTo q m).set (m / 4) (max (maskTo q m (m / 4)) (widthZ (absZ (bgt q m))) : Nat) = masksTo q (m + 1) := by
  refine range_map_set _ (fun i => ((maskTo q (m + 1) i : Nat) : Int)) (by omega) ?_ (fun i hi => ?_)
  · rw [maskTo_succ, if_pos rfl]
  · rw [maskTo_succ, if_neg (fun e => hi e.symm)]
end Go.Proofs.YtbgkoopfdfnmcaaGreat

namespace Go.Proofs.YtbgkoopfdfnmcaaGreat
open Go.RowKit

/-- a frame's parts in memory -/
theorem frame_parts {w : World} {g : Nat} {f : FrameV} {tv : Value} (h : f.Len) (hg : w.heap[g]? = some (.cells (frameA f tv) 78 (0, 0))) :
    (∀ j v, (f.gains.map (Value.int .i64))[j]? = some v → w.cell? ⟨g, 0 + j, none⟩ = some v) ∧ w.cell? ⟨g, 4, none⟩ = some tv ∧ (∀ j v, (f.scale.map (Value.int .i64))[j]? = some v → w.cell? ⟨g, 5 + j, none⟩ = some v) ∧
    (∀ j v, (f.width.map (Value.int .i64))[j]? = some v → w.cell? ⟨g, 9 + j, none⟩ = some v) ∧ ∀ j v, (f.q.map (Value.int .i64))[j]? = some v → w.cell? ⟨g, 13 + j, none⟩ = some v := by
  have hc : ∀ j, w.cell? ⟨g, j, none⟩ = (frameA f tv)[j]? := fun j => cell_of_row w g j _ _ _ hg
  exact ⟨fun j v hv => (hc _).trans (frameA_gain h tv hv), (hc 4).trans (frameA_tones h tv), fun j v hv => (hc _).trans (frameA_scale h tv hv), fun j v hv => (hc _).trans (frameA_width h tv hv), fun j v hv => (hc _).trans (frameA_q h tv hv)⟩
theorem RightF.len {f : FrameV} (h : RightF f) : f.Len := ⟨h.gains.1, h.scale.1, h.wlen, h.qlen⟩
theorem BdB.big {B : Int} {b : List Int} (h : BdB B b) (hb : b.length = 16) (hB : B ≤ 4611686018427387904) : BigB b := fun k x hx => by
  have := h.get hb hx
  omega

set_option maxRecDepth 100000 in
set_option maxHeartbeats 8000000 in
theorem Spectrum_any (f : FrameV) (A : Option Addr) (c : Nat) (w : World) (h : RightF f) (hr : Row w w.heap.size A (toneCells f.tones)) :
    Calls Tryz.prog 28 #[.agg (frameA f (.slice A f.tones.length c))] w fun e w' => e = .returned (blockV (specZ f)) ∧ Below w.heap.size w w' := by
  have hV := Lib.hid (fun W => Values_any f.q f.scale W h.qlen h.scale.1 (fun k x hx => by
    have hk : k < 16 := by have := (List.getElem?_eq_some_iff.1 hx).1; have := h.qlen; omega
    have := h.qbd hk
    rw [bgt_get hx] at this
    omega) h.scale.ok)
  have hve : valuesTo f.q f.scale 16 = valuesZ f.q f.scale := by unfold valuesZ; rw [if_pos h.scale.ok]
  rw [hve] at hV
  have HL := h.len
  have Had := Lib.hid (fun m => h.added m)
  have Hti := Lib.hid h.tidx
  have hfz := frameA_size HL (.slice A f.tones.length c)
  have htl := h.tlen
  have HPa := Lib.hid (fun (W : World) (g : Nat) hg => frame_parts (w := W) (g := g) HL (tv := .slice A f.tones.length c) hg)
  have hql : (f.q.map (Value.int .i64)).length = 16 := by simp [HL.q]
  have hsl : (f.scale.map (Value.int .i64)).length = 4 := by simp [HL.s]
  have HSp := Lib.hid (show specZ f = clampTo (addT (valuesZ f.q f.scale) f.tones) 16 from rfl)
  rw [HSp.out]
  have hvl := valuesZ_len f.q f.scale
  have hvone := ints_one (valuesZ f.q f.scale)
  have hVb := h.values
  clear HSp hve h
  obtain ⟨gg, ts, sc, wd, q⟩ := f
  simp only at *
  have Hr := Lib.hid hr
  generalize hn : ts.length = n at *
  generalize valuesZ q sc = V at *
  generalize frameA ⟨gg, ts, sc, wd, q⟩ (.slice A n c) = fc at *
  have Hn := Lib.hid hn
  unfold blockV at hV ⊢
  generalize hqv : q.map (Value.int .i64) = qv at *
  generalize hsv : sc.map (Value.int .i64) = sv at *
  have HFq := Lib.hid (show (Tryz.prog.info? 74).map (·.size) = some qv.length by rw [hql]; exact inf_block)
  have HFs := Lib.hid (show (Tryz.prog.info? 75).map (·.size) = some sv.length by rw [hsl]; exact inf_four)
  have HFx := Lib.hid (fun (x : List Int) (hx : x.length = 16) => (show (Tryz.prog.info? 74).map (·.size) = some (x.map (Value.int .i64)).toArray.size by rw [List.size_toArray, List.length_map, hx]; exact inf_block))
  have H2 := Lib.hid (heap2 w (.cells fc 78) (.cells (List.replicate 16 (Value.int .i64 0)).toArray 74))
  have P := HPa.out _ _ H2.out.1
  have P1 := Lib.hid P.2.2.1
  have P2 := Lib.hid P.2.2.2.2
  have P3 := P.2.1
  have Hvl := Lib.hid hvl
  have Hvone := Lib.hid hvone
  have HVb := Lib.hid hVb
  clear P hr hn hqv hsv hql hsl hvl hvone HPa hVb hfz HL
  go_enter Tryz.func28, Tryz.ntmps28
  go_wp2_with (first | (go_at_call 57; fail) | (refine wpList_load_part_w rfl 74 (.tmp 8) rfl w.heap.size 13 rfl qv _ P2.out Tryz.underlying74 rfl HFq.out ?_) | (refine wpList_load_part_w rfl 75 (.tmp 10) rfl w.heap.size 5 rfl sv _ P1.out Tryz.underlying75 rfl HFs.out ?_))
  refine (hV.out _).mono ?_
  rintro e w1 ⟨rfl, hb1⟩
  have K0 := Lib.hid (hkeep H2.out.1 hb1)
  have K1 := Lib.hid (hkeep H2.out.2.1 hb1)
  have KB := Lib.hid (btail H2.out.2.2.2 (Nat.le_refl _) hb1)
  have hz := Nat.le_trans (Nat.le_of_eq H2.out.2.2.1.symm) hb1.size
  have p4 := (hb1.cell (p := ⟨w.heap.size, 4, none⟩) (hlt H2.out.1)).trans P3
  have p4' := cell_alloc p4 (.cells (V.map (Value.int .i64)).toArray 74)
  have HN := Lib.hid (Blk.new w1 74 (V.map (Value.int .i64)))
  have K1' := Lib.hid (hkeep K1.out (bnew w1 (.cells (V.map (Value.int .i64)).toArray 74)))
  have KB' := Lib.hid (btail KB.out (by omega) (bnew w1 (.cells (V.map (Value.int .i64)).toArray 74)))
  have HVF := Lib.hid (HFx.out V Hvl.out)
  have HVs := Lib.hid (show (V.map (Value.int .i64)).toArray.size = 16 by simp [Hvl.out])
  obtain ⟨va, hva⟩ : ∃ va, (V.map (Value.int .i64)).toArray = va := ⟨_, rfl⟩
  rw [hva] at HVF HVs Hvone p4' K1' KB' ⊢
  have HNa := Lib.hid (show Blk (w1.alloc (.cells va 74)) w1.heap.size 74 (V.map (Value.int .i64)) by rw [← hva]; exact HN.out)
  clear hb1 P1 P2 P3 p4 K0 K1 KB H2 HN hva
  go_wp2_with (first | (refine wpList_store_row_w rfl 74 (.tmp 3) (.tmp 12) rfl w1.heap.size rfl _ _ va rfl (heap_alloc_new w1 _) HVF.out (by rw [HVs.out]; rfl) Hvone.out ?_; rw [World.setRow_alloc_new]))
  go_loopw [16] (fun i wr => ∃ (m : Nat), m ≤ n ∧ i = .int .i64 m ∧ Blk wr w1.heap.size 74 ((addT V (ts.take m)).map (Value.int .i64)) ∧ Blk wr (w.heap.size + 1) 74 (List.replicate 16 (.int .i64 0)) ∧ Below w.heap.size w wr) (fun i _ => n - (intOf i).toNat)
  case atStart => exact ⟨0, by omega, rfl, HNa.out, K1'.out, KB'.out⟩
  case round =>
    obtain ⟨m, hm, rfl, hB, hZ, hbel⟩ := hrel
    have HB := Lib.hid hB
    have HZ := Lib.hid hZ
    have Hbel := Lib.hid hbel
    have hcl := addT_len V (ts.take m)
    rw [Hvl.out] at hcl
    have hcb := Had.out m
    have HO := Lib.hid (fun (t : ToneV) (h : ts[m]? = some t) => addT_succ V h)
    have HLl := Lib.hid (show m = n → addT V (ts.take m) = addT V ts from fun h => by rw [List.take_of_length_le (by rw [Hn.out]; omega)])
    generalize addT V (ts.take m) = cur at *
    have Hcl := Lib.hid hcl
    have Hcb := Lib.hid hcb
    clear hB hZ hbel hcl hcb p4' HNa K1' KB'
    by_cases hlt : m < n
    · obtain ⟨t, ht⟩ := list_get (k := m) Hn.out hlt
      have HS := Lib.hid (HO.out t ht)
      have htv := Hti.out t (List.mem_of_getElem? ht)
      obtain ⟨g, off, hA, hg, k0, k1⟩ := tone_row Hr.out ht
      have c0 := (Hbel.out.cell (p := ⟨g, off + m * 2, none⟩) hg).trans k0
      have c1 := (Hbel.out.cell (p := ⟨g, off + m * 2 + 1, none⟩) hg).trans k1
      subst hA
      obtain ⟨ix, vl⟩ := t
      obtain ⟨v1, v2, v3, v4⟩ := htv
      simp only at c0 c1 v1 v2 v3 v4
      clear ht k0 k1
      obtain ⟨j, rfl⟩ := Int.eq_ofNat_of_zero_le v1
      have hj : j < 16 := by omega
      obtain ⟨x, hx⟩ := list_get (k := j) Hcl.out hj
      have hxb := Hcb.out.get Hcl.out hx
      have HS2 := Lib.hid (show addStep cur ⟨(j : Int), vl⟩ = cur.set j (x + vl) by
        unfold addStep; simp only; rw [if_pos ⟨v1, v2⟩, Int.toNat_natCast, bgt_get hx])
      have hwr : IntKind.i64.wrap (x + vl) = x + vl := IntWalk.i64_in _ (by omega)
      have hcx : (cur.map (Value.int .i64)).toArray[j]? = some (.int .i64 x) := blk_get hx
      clear hx
      have t1 : (0 : Int) ≤ (j : Int) := v1
      have t2 : (j : Int) < 16 := v2
      have hB1 := (HB.out.alloc (.cells #[.int .i64 (j : Int), .int .i64 vl] 118))
      have hN1 := Blk.new wr 118 [.int .i64 (j : Int), .int .i64 vl]
      have HB1 := Lib.hid hB1
      have HN1 := Lib.hid hN1
      have hx5 := gw_cells hB1
      have hy5 := gw_blk hN1
      clear hB1 hN1
      go_wp2_with fail
      refine wp_region_calm_tail 8 (by kernel_rfl) (by kernel_rfl) ?_
      simp only [List.take_succ_cons, List.take_zero, List.drop_succ_cons, List.drop_zero]
      repeat (go_big_quiet_step (fail))
      refine wpQuiet_nil ?_
      intro w5 hw'
      have hb5 := gw_below hw'
      have hB5 := HB1.out.below hb5 (by have := HB.out.lt; simp; omega)
      have hZ5 := (HZ.out.alloc (.cells #[.int .i64 (j : Int), .int .i64 vl] 118)).below hb5 (by have := HZ.out.lt; simp; omega)
      have HB5 := Lib.hid hB5
      have HZ5 := Lib.hid hZ5
      have Hb5 := Lib.hid (Hbel.out.trans (((bnew wr _).trans (hb5.mono (by simp))).mono Hbel.out.size))
      have ce : w5.cell? ⟨w1.heap.size, j, none⟩ = some (.int .i64 x) := by rw [hB5.cell]; simpa using hcx
      have fz := hB5.frozen j
      clear hw' hb5 hx5 hy5 hB5 hZ5
      go_wp2
      go_roundw
      case rel =>
        refine ⟨m + 1, by omega, by go_num, ?_, HZ5.out.far (by simp; omega) _, Hb5.out.setCell (by simp; omega) _⟩
        rw [HS.out, HS2.out, List.map_set]
        exact HB5.out.set_ j _
      case measure => simp [intOf]; omega
    · have hmn : m = n := by omega
      have hce := HLl.out hmn
      have hcur := Lib.hid hce
      have hH := Lib.hid (show wr.heap[w1.heap.size]? = some (.cells (cur.map (Value.int .i64)).toArray 74 (0, 0)) from HB.out)
      have hsz : (cur.map (Value.int .i64)).toArray.size = 16 := by simp [Hcl.out]
      have HC := Lib.hid (fun (k : Nat) (x : Int) (h : cur[k]? = some x) => blk_get h)
      have HBl := Lib.hid HB.out
      obtain ⟨cs, hcs⟩ : ∃ cs, (cur.map (Value.int .i64)).toArray = cs := ⟨_, rfl⟩
      rw [hcs] at hH hsz HC
      have HF := Lib.hid (show (Tryz.prog.info? 74).map (·.size) = some cs.size by rw [hsz]; exact inf_block)
      clear hce hsz HO HLl hcs HB
      go_wp2_with (first | (refine wpList_load_row_w rfl 74 (.tmp 3) rfl w1.heap.size rfl _ cs _ _ hH.out Tryz.underlying74 rfl HF.out ?_))
      go_loopw [38] (fun i wt => ∃ (m : Nat), m ≤ 16 ∧ i = .int .i64 m ∧ Blk wt w1.heap.size 74 ((clampTo cur m).map (Value.int .i64)) ∧ Blk wt (w.heap.size + 1) 74 (List.replicate 16 (.int .i64 0)) ∧ Below w.heap.size w wt) (fun i _ => 16 - (intOf i).toNat)
      case atStart => exact ⟨0, by omega, rfl, by rw [clampTo_zero Hcl.out]; exact HBl.out, HZ.out, Hbel.out⟩
      case round =>
        obtain ⟨k, hk, rfl, hB, hZ, hbel⟩ := hrel
        have HB := Lib.hid hB
        have HZ := Lib.hid hZ
        have Hbel := Lib.hid hbel
        clear hH HBl
        by_cases hlt : k < 16
        · obtain ⟨x, hx⟩ := list_get (k := k) Hcl.out hlt
          have t1 : (k : Int) < 16 := by omega
          have hix := run_index_arr (P := Tryz.prog) Tryz.underlying74 hlt (fun W => by kernel_rfl) (fun W => by kernel_rfl) (HC.out _ _ hx)
          have HCl := Lib.hid (show ∀ W, Calls Tryz.prog 58 #[.int .i64 x, .int .i64 (-2147483648), .int .i64 2147483648] W fun e w' => e = .returned (.int .i64 (lim31 x)) ∧ W = w' from fun W => (Clamp_any x (-2147483648) 2147483648 W).mono fun e w' ⟨he, hw⟩ => ⟨he.trans (ret_int (by unfold clampZ lim31; (repeat' split) <;> omega)), hw⟩)
          have HSt := Lib.hid (show (clampTo cur k).set k (lim31 x) = clampTo cur (k + 1) by rw [← clampTo_succ cur hlt, bgt_get hx])
          have hc2 : ((clampTo cur k).map (Value.int .i64))[k]? = some (.int .i64 x) := by rw [List.getElem?_map, clampTo_get cur hlt (Nat.le_refl k) hx]; rfl
          have ce : wr.cell? ⟨w1.heap.size, k, none⟩ = some (.int .i64 x) := by rw [hB.cell]; exact hc2
          have fz := hB.frozen k
          generalize lim31 x = lx at *
          clear hx hB hZ hbel
          go_wp2_with (go_at_call 58; refine (HCl.out _).mono ?_; rintro e w5 ⟨rfl, rfl⟩)
          go_roundw
          case rel =>
            refine ⟨k + 1, by omega, by go_num, ?_, HZ.out.far (by simp; omega) _, Hbel.out.setCell (by simp; omega) _⟩
            rw [← HSt.out, List.map_set]
            exact HB.out.set_ k _
          case measure => simp [intOf]; omega
        · have hk16 : k = 16 := by omega
          subst hk16
          have t1 : ¬ (((16 : Nat) : Int) < 16) := by omega
          have hH := Lib.hid (show wr.heap[w1.heap.size]? = some (.cells ((clampTo cur 16).map (Value.int .i64)).toArray 74 (0, 0)) from HB.out)
          have hH2 := Lib.hid (show wr.heap[w.heap.size + 1]? = some (.cells (List.replicate 16 (Value.int .i64 0)).toArray 74 (0, 0)) from HZ.out)
          have H1 := Lib.hid (ints_one (clampTo cur 16))
          have hsz2 : ((clampTo cur 16).map (Value.int .i64)).toArray.size = 16 := by simp [clampTo_len]
          obtain ⟨xs, hxs⟩ : ∃ xs, ((clampTo cur 16).map (Value.int .i64)).toArray = xs := ⟨_, rfl⟩
          rw [hxs] at hH H1 hsz2
          have HE := Lib.hid hxs
          clear hxs
          have HF2 := Lib.hid (show (Tryz.prog.info? 74).map (·.size) = some xs.size by rw [hsz2]; exact inf_block)
          have Hsz := Lib.hid hsz2
          clear hsz2 hB hZ
          go_wp2_with (first | (refine wpList_load_row_w rfl 74 (.tmp 3) rfl w1.heap.size rfl _ xs _ _ hH.out Tryz.underlying74 rfl HF2.out ?_) | (refine wpList_store_row_w rfl 74 (.tmp 2) (.tmp 47) rfl (w.heap.size + 1) rfl _ _ xs rfl hH2.out HF2.out (by rw [Hsz.out]; simp) H1.out ?_))
          refine bodyPost_ret (v := .agg xs) (results_cell_row Tryz.results28 _ _ (w.heap.size + 1) 74 xs (0, 0) _ rfl (setRow_at wr _ _ _ xs hH2.out) Tryz.underlying74 rfl HF2.out) rfl ?_
          exact ⟨by rw [← HE.out, hcur.out], setRow_below Hbel.out _ (by omega) _⟩

end Go.Proofs.YtbgkoopfdfnmcaaGreat

namespace Go.Proofs.YtbgkoopfdfnmcaaGreat

/-- a two's complement -/
def twos (v : Int) (k : Nat) : Nat := (v % 2 ^ k).toNat
theorem twos_lt (v : Int) (k : Nat) : twos v k < 2 ^ k := by
  unfold twos
  have hp : (0 : Int) < 2 ^ k := Int.pow_pos (by decide)
  have h1 := Int.emod_nonneg v (b := 2 ^ k) (by omega)
  have h2 := Int.emod_lt_of_pos v hp
  have e : ((2 ^ k : Nat) : Int) = 2 ^ k := by rw [Int.natCast_pow]; rfl
  omega
def gainsB (l : List Int) : List Nat := (l.map fun g => bitsOf g.toNat 2).flatten
def toneB (t : ToneV) : List Nat := bitsOf t.idx.toNat 4 ++ bitsOf (twos t.val 24) 24
def tonesB (l : List ToneV) : List Nat := (l.map toneB).flatten
def bandB (s w : List Int) (i : Nat) : List Nat := bitsOf (bgt s i).toNat 5 ++ bitsOf (bgt w i).toNat 5
def bandsB (s w : List Int) (m : Nat) : List Nat := ((List.range m).map (bandB s w)).flatten
def stepB (w q : List Int) (i : Nat) : List Nat := bitsOf (twos (bgt q i) (bgt w (i / 4)).toNat) (bgt w (i / 4)).toNat
def stepsB (w q : List Int) (m : Nat) : List Nat := ((List.range m).map (stepB w q)).flatten
def head1 : List Nat := bitsOf 1 2
def head2 (f : FrameV) : List Nat := head1 ++ gainsB f.gains
def head3 (f : FrameV) : List Nat := head2 f ++ bitsOf f.tones.length 2
def head4 (f : FrameV) : List Nat := head3 f ++ tonesB f.tones
def head5 (f : FrameV) : List Nat := head4 f ++ bandsB f.scale f.width 4
def frameB (f : FrameV) : List Nat := head5 f ++ stepsB f.width f.q 16

theorem gainsB_succ {l : List Int} {m : Nat} {x : Int} (h : l[m]? = some x) : gainsB (l.take (m + 1)) = gainsB (l.take m) ++ bitsOf x.toNat 2 := by
  obtain ⟨hm, rfl⟩ := List.getElem?_eq_some_iff.1 h
  unfold gainsB
  rw [List.take_succ_eq_append_getElem hm, List.map_append, List.flatten_append]
  simp only [List.map_cons, List.map_nil, List.flatten_cons, List.flatten_nil, List.append_nil]
theorem tonesB_succ {l : List ToneV} {m : Nat} {t : ToneV} (h : l[m]? = some t) : tonesB (l.take (m + 1)) = tonesB (l.take m) ++ toneB t := by
  obtain ⟨hm, rfl⟩ := List.getElem?_eq_some_iff.1 h
  unfold tonesB
  rw [List.take_succ_eq_append_getElem hm, List.map_append, List.flatten_append]
  simp only [List.map_cons, List.map_nil, List.flatten_cons, List.flatten_nil, List.append_nil]
theorem bandsB_succ (s w : List Int) (m : Nat) : bandsB s w (m + 1) = bandsB s w m ++ bandB s w m := by unfold bandsB; rw [List.range_succ]; simp
theorem stepsB_succ (w q : List Int) (m : Nat) : stepsB w q (m + 1) = stepsB w q m ++ stepB w q m := by unfold stepsB; rw [List.range_succ]; simp
theorem gainsB_len : ∀ (l : List Int), (gainsB l).length = 2 * l.length
  | [] => rfl
  | x :: r => by
    have := gainsB_len r
    unfold gainsB at this ⊢
    rw [List.map_cons, List.flatten_cons, List.length_append, this, bitsOf_len, List.length_cons]; omega
theorem tonesB_len : ∀ (l : List ToneV), (tonesB l).length = 28 * l.length
  | [] => rfl
  | x :: r => by
    have := tonesB_len r
    unfold tonesB at this ⊢
    rw [List.map_cons, List.flatten_cons, List.length_append, this]
    unfold toneB
    rw [List.length_append, bitsOf_len, bitsOf_len, List.length_cons]; omega
theorem bandsB_len (s w : List Int) : ∀ m, (bandsB s w m).length = 10 * m
  | 0 => rfl
  | m + 1 => by
    rw [bandsB_succ, List.length_append, bandsB_len s w m]
    unfold bandB
    rw [List.length_append, bitsOf_len, bitsOf_len]; omega
def widthSum (w : List Int) : Nat → Nat
  | 0 => 0
  | m + 1 => widthSum w m + (bgt w (m / 4)).toNat
theorem stepsB_len (w q : List Int) : ∀ m, (stepsB w q m).length = widthSum w m
  | 0 => rfl
  | m + 1 => by
    rw [stepsB_succ, List.length_append, stepsB_len w q m]
    unfold stepB
    rw [bitsOf_len]; rfl
theorem widthSum_succ (w : List Int) (m : Nat) : widthSum w (m + 1) = widthSum w m + (bgt w (m / 4)).toNat := rfl
theorem widthSum_16 (w : List Int) : widthSum w 16 = 4 * ((bgt w 0).toNat + (bgt w 1).toNat + (bgt w 2).toNat + (bgt w 3).toNat) := by
  simp [widthSum]
  omega
theorem widthSum_mono (w : List Int) : ∀ r m, widthSum w m ≤ widthSum w (m + r)
  | 0, _ => Nat.le_refl _
  | r + 1, m => by
    have := widthSum_mono w r m
    rw [← Nat.add_assoc, widthSum_succ]
    omega
theorem head2_len {f : FrameV} (h : RightF f) : (head2 f).length = 10 := by
  unfold head2 head1
  rw [List.length_append, gainsB_len, bitsOf_len, h.gains.1]
theorem head3_len {f : FrameV} (h : RightF f) : (head3 f).length = 12 := by
  unfold head3
  rw [List.length_append, head2_len h, bitsOf_len]
theorem head4_len {f : FrameV} (h : RightF f) : (head4 f).length = 12 + 28 * f.tones.length := by
  unfold head4
  rw [List.length_append, head3_len h, tonesB_len]
theorem head5_len {f : FrameV} (h : RightF f) : (head5 f).length = 52 + 28 * f.tones.length := by
  unfold head5
  rw [List.length_append, head4_len h, bandsB_len]; omega
theorem frameB_len {f : FrameV} (h : RightF f) : ((frameB f).length : Int) = bitsZ f := by
  unfold frameB
  rw [List.length_append, head5_len h, stepsB_len, widthSum_16]
  have := h.width 0 (by omega)
  have := h.width 1 (by omega)
  have := h.width 2 (by omega)
  have := h.width 3 (by omega)
  unfold bitsZ
  omega
theorem frameB_most {f : FrameV} (h : RightF f) : bitsZ f ≤ 492 := by
  have := h.width 0 (by omega)
  have := h.width 1 (by omega)
  have := h.width 2 (by omega)
  have := h.width 3 (by omega)
  have := h.tlen
  unfold bitsZ
  omega
theorem Bin.flatten {l : List (List Nat)} (h : ∀ x ∈ l, Bin x) : Bin l.flatten := fun b hb => by
  obtain ⟨x, hx, hbx⟩ := List.mem_flatten.1 hb
  exact h x hx b hbx
theorem frameB_bin (f : FrameV) : Bin (frameB f) := by
  unfold frameB head5 head4 head3 head2 head1
  refine ((((((bitsOf_bin _ _).append ?_).append (bitsOf_bin _ _)).append ?_).append ?_).append ?_)
  · exact Bin.flatten fun x hx => by obtain ⟨g, _, rfl⟩ := List.mem_map.1 hx; exact bitsOf_bin _ _
  · exact Bin.flatten fun x hx => by obtain ⟨g, _, rfl⟩ := List.mem_map.1 hx; exact (bitsOf_bin _ _).append (bitsOf_bin _ _)
  · exact Bin.flatten fun x hx => by obtain ⟨g, _, rfl⟩ := List.mem_map.1 hx; exact (bitsOf_bin _ _).append (bitsOf_bin _ _)
  · exact Bin.flatten fun x hx => by obtain ⟨g, _, rfl⟩ := List.mem_map.1 hx; exact bitsOf_bin _ _
/-- the two's complement of a number that has room -/
theorem twos_nn {v : Int} {k : Nat} (h1 : 0 ≤ v) (h2 : v < 2 ^ k) : (twos v k : Int) = v := by
  unfold twos
  rw [Int.emod_eq_of_lt h1 h2]; omega
theorem twos_neg {v : Int} {k : Nat} (h1 : -(2 ^ k) ≤ v) (h2 : v < 0) : (twos v k : Int) = v + 2 ^ k := by
  unfold twos
  have : v % 2 ^ k = v + 2 ^ k := by
    rw [← Int.add_emod_right]
    exact Int.emod_eq_of_lt (by omega) (by omega)
  rw [this]; omega
end Go.Proofs.YtbgkoopfdfnmcaaGreat
