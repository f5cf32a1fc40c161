/- CostP. Conditions: as each theorem states. -/
import Derived.Test.YtoagdidkadfekaaGreatDoorPc27
import Derived.Test.YtoagdidkadfekaaGreatDoorPc33

namespace Go.Proofs.YtoagdidkadfekaaGreatDoor
open Go.RowKit

theorem samp16_small {l : List Int} (h : ∀ x ∈ l, -32768 ≤ x ∧ x ≤ 32767) : Small l := fun k x hx => by
  have := h x (List.mem_of_getElem? hx)
  omega
theorem samps_len2 {l : List Int} (size : Int) : (sampsZ (framesZ l size) l.length).length = l.length := by
  have hs : ((framesZ l size).map specZ).flatten.length = (framesZ l size).length * 16 := by
    rw [frows_len _ (fun cs hcs => by
      obtain ⟨f, _, rfl⟩ := List.mem_map.1 hcs
      exact specZ_len f), List.length_map]
  unfold sampsZ firstZ
  rw [List.length_map, List.length_take, wholeZ_len hs, framesZ_len]
  unfold countN
  omega
theorem samps_16 (fs : List FrameV) (n : Int) : Samp16 (sampsZ fs n) := fun x hx => by
  unfold sampsZ at hx
  obtain ⟨y, _, rfl⟩ := List.mem_map.1 hx
  exact satZ_bd y
/-- how far the worst is off, how many are off, of how many -/
structure CostV where
  far : Int
  off : Int
  all : Int
def CostV.cells (c : CostV) : List Value := [.int .i64 c.far, .int .i64 c.off, .int .i64 c.all]
def lostF (size : Int) (d : List Int) : Int := farM d (sampsZ (framesZ d size) d.length) d.length
def lostN (size : Int) (d : List Int) : Int := cntM d (sampsZ (framesZ d size) d.length) d.length
def addC (size : Int) (c : CostV) (d : List Int) : CostV := ⟨max c.far (lostF size d), c.off + lostN size d, c.all + d.length⟩
def chanTo (size : Int) (rows : List (List Int)) (c : CostV) : Nat → CostV
  | 0 => c
  | m + 1 => match rows[m]? with
    | some d => addC size (chanTo size rows c m) d
    | none => chanTo size rows c m
def lossTo (size : Int) (ss : List SampV) : Nat → CostV
  | 0 => ⟨0, 0, 0⟩
  | m + 1 => match ss[m]? with
    | some s => chanTo size s.rows (lossTo size ss m) s.rows.length
    | none => lossTo size ss m
theorem chanTo_succ {size : Int} {rows : List (List Int)} {c : CostV} {m : Nat} {d : List Int} (h : rows[m]? = some d) : chanTo size rows c (m + 1) = addC size (chanTo size rows c m) d := by
  show (match rows[m]? with | some d => _ | none => _) = _
  rw [h]
theorem lossTo_succ {size : Int} {ss : List SampV} {m : Nat} {s : SampV} (h : ss[m]? = some s) : lossTo size ss (m + 1) = chanTo size s.rows (lossTo size ss m) s.rows.length := by
  show (match ss[m]? with | some d => _ | none => _) = _
  rw [h]
def CostV.bd (c : CostV) (N : Int) : Prop := (0 ≤ c.far ∧ c.far ≤ 2199023255552) ∧ (0 ≤ c.off ∧ c.off ≤ N) ∧ 0 ≤ c.all ∧ c.all ≤ N
def GoodR (d : List Int) : Prop := d.length ≤ 150 ∧ Samp16 d
def GoodS (s : SampV) : Prop := s.rows.length ≤ 2 ∧ ∀ r ∈ s.rows, GoodR r
theorem good_of_check {s : SampV} (h : s.check = 0) (hs : s.small) : GoodS s := by
  unfold SampV.check checkZ at h
  cases h1 : isName s.name
  · simp [h1] at h
  · by_cases h2 : s.rate < 1 ∨ 192000 < s.rate
    · simp [h1, h2] at h
    · by_cases h3 : s.rows.length < 1 ∨ 2 < s.rows.length ∨ len0 s.rows < 1 ∨ 1048576 < len0 s.rows
      · rw [if_neg (by simp [h1]), if_neg h2, if_pos h3] at h; omega
      · cases h4 : loopOk s.lp s.f s.t (len0 s.rows)
        · rw [if_neg (by simp [h1]), if_neg h2, if_neg h3, if_pos h4] at h; omega
        · cases h5 : s.rows.all (lenIs (len0 s.rows))
          · rw [if_neg (by simp [h1]), if_neg h2, if_neg h3, if_neg (by simp [h4]), if_pos h5] at h; omega
          · cases h6 : s.rows.all allIn
            · rw [if_neg (by simp [h1]), if_neg h2, if_neg h3, if_neg (by simp [h4]), if_neg (by simp [h5]), if_pos h6] at h; omega
            · refine ⟨by omega, fun r hr => ⟨hs.2.2 r hr, fun x hx => ?_⟩⟩
              rw [List.all_eq_true] at h6
              have h7 := h6 r hr
              unfold allIn at h7
              rw [List.all_eq_true] at h7
              have h8 := h7 x hx
              unfold inS at h8
              simp only [Bool.and_eq_true, decide_eq_true_eq] at h8
              omega
theorem lost_bd {size : Int} {d : List Int} (h : GoodR d) : (0 ≤ lostF size d ∧ lostF size d ≤ 2199023255552) ∧ 0 ≤ lostN size d ∧ lostN size d ≤ 150 := by
  refine ⟨farM_bd (samp16_small h.2) (samp16_small (samps_16 _ _)) _ (Nat.le_refl _) (by rw [samps_len2]; exact Nat.le_refl _), ?_⟩
  have := cntM_bd d (sampsZ (framesZ d size) d.length) d.length
  have := h.1
  unfold lostN
  omega
theorem addC_bd {size : Int} {c : CostV} {d : List Int} {N : Int} (hc : c.bd N) (h : GoodR d) : (addC size c d).bd (N + 150) := by
  obtain ⟨h1, h2, h3⟩ := hc
  have h4 := lost_bd (size := size) h
  have h5 := h.1
  refine ⟨?_, ?_, ?_⟩
  · show 0 ≤ max c.far (lostF size d) ∧ max c.far (lostF size d) ≤ _
    omega
  · show 0 ≤ c.off + lostN size d ∧ c.off + lostN size d ≤ _
    omega
  · show 0 ≤ c.all + (d.length : Int) ∧ c.all + (d.length : Int) ≤ _
    omega
theorem chanTo_bd {size : Int} {rows : List (List Int)} {c : CostV} {N : Int} (hc : c.bd N) (h : ∀ r ∈ rows, GoodR r) : ∀ m, (chanTo size rows c m).bd (N + 150 * (m : Int))
  | 0 => by
    unfold chanTo
    rw [show N + 150 * ((0 : Nat) : Int) = N by omega]
    exact hc
  | m + 1 => by
    have ih := chanTo_bd (size := size) hc h m
    cases hr : rows[m]? with
    | none =>
      have : chanTo size rows c (m + 1) = chanTo size rows c m := by
        show (match rows[m]? with | some d => _ | none => _) = _
        rw [hr]
      rw [this]
      obtain ⟨h1, h2, h3⟩ := ih
      exact ⟨h1, by push_cast; omega, by push_cast; omega⟩
    | some d =>
      rw [chanTo_succ hr]
      have := addC_bd (size := size) ih (h d (List.mem_of_getElem? hr))
      rw [show N + 150 * ((m + 1 : Nat) : Int) = N + 150 * (m : Int) + 150 by push_cast; omega]
      exact this
theorem bd_more {c : CostV} {N M : Int} (h : c.bd N) (hm : N ≤ M) : c.bd M := ⟨h.1, by have := h.2.1; omega, by have := h.2.2; omega⟩
theorem lossTo_bd {size : Int} {ss : List SampV} : ∀ m, (∀ j s, j < m → ss[j]? = some s → GoodS s) → (lossTo size ss m).bd (300 * (m : Int))
  | 0, _ => by
    unfold lossTo
    exact ⟨by show (0 : Int) ≤ 0 ∧ (0 : Int) ≤ _; omega, by show (0 : Int) ≤ 0 ∧ (0 : Int) ≤ _; omega, by show (0 : Int) ≤ 0 ∧ (0 : Int) ≤ _; omega⟩
  | m + 1, h => by
    have ih := lossTo_bd (size := size) (ss := ss) m (fun j s hj hs => h j s (by omega) hs)
    cases hs : ss[m]? with
    | none =>
      have : lossTo size ss (m + 1) = lossTo size ss m := by
        show (match ss[m]? with | some d => _ | none => _) = _
        rw [hs]
      rw [this]
      exact bd_more ih (by push_cast; omega)
    | some s =>
      rw [lossTo_succ hs]
      have hg := h m s (by omega) hs
      exact bd_more (chanTo_bd (size := size) ih hg.2 _) (by have := hg.1; push_cast; omega)
/-! Nothing is lost in frames of 55 bytes and more. -/
theorem farM_same (a : List Int) : ∀ m, farM a a m = 0
  | 0 => rfl
  | m + 1 => by
    unfold farM
    rw [farM_same a m, show bgt a m - bgt a m = 0 by omega]
    rfl
theorem cntM_same (a : List Int) : ∀ m, cntM a a m = 0
  | 0 => rfl
  | m + 1 => by
    unfold cntM
    rw [cntM_same a m, show bgt a m - bgt a m = 0 by omega]
    rfl
theorem addC_zero {size : Int} {c : CostV} {d : List Int} (h1 : 55 ≤ size) (h2 : size ≤ 96) (hd : Samp16 d) (hc : c.far = 0 ∧ c.off = 0) : (addC size c d).far = 0 ∧ (addC size c d).off = 0 := by
  have e : sampsZ (framesZ d size) d.length = d := samps_frames hd h1 h2
  refine ⟨?_, ?_⟩
  · show max c.far (lostF size d) = 0
    unfold lostF
    rw [e, farM_same, hc.1]; rfl
  · show c.off + lostN size d = 0
    unfold lostN
    rw [e, cntM_same, hc.2]; rfl
theorem chanTo_zero {size : Int} {rows : List (List Int)} {c : CostV} (h1 : 55 ≤ size) (h2 : size ≤ 96) (h : ∀ r ∈ rows, GoodR r) (hc : c.far = 0 ∧ c.off = 0) : ∀ m, (chanTo size rows c m).far = 0 ∧ (chanTo size rows c m).off = 0
  | 0 => hc
  | m + 1 => by
    have ih := chanTo_zero h1 h2 h hc m
    cases hr : rows[m]? with
    | none =>
      have : chanTo size rows c (m + 1) = chanTo size rows c m := by
        show (match rows[m]? with | some d => _ | none => _) = _
        rw [hr]
      rw [this]; exact ih
    | some d =>
      rw [chanTo_succ hr]
      exact addC_zero h1 h2 (h d (List.mem_of_getElem? hr)).2 ih
theorem lossTo_zero {size : Int} {ss : List SampV} (h1 : 55 ≤ size) (h2 : size ≤ 96) : ∀ m, (∀ j s, j < m → ss[j]? = some s → GoodS s) → (lossTo size ss m).far = 0 ∧ (lossTo size ss m).off = 0
  | 0, _ => ⟨rfl, rfl⟩
  | m + 1, h => by
    have ih := lossTo_zero (size := size) (ss := ss) h1 h2 m (fun j s hj hs => h j s (by omega) hs)
    cases hs : ss[m]? with
    | none =>
      have : lossTo size ss (m + 1) = lossTo size ss m := by
        show (match ss[m]? with | some d => _ | none => _) = _
        rw [hs]
      rw [this]; exact ih
    | some s =>
      rw [lossTo_succ hs]
      exact chanTo_zero h1 h2 (h m s (by omega) hs).2 ih _
end Go.Proofs.YtoagdidkadfekaaGreatDoor
