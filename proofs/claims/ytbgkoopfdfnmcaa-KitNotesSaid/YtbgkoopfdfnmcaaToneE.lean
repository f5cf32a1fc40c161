/- The tones of a spectrum: plain lemmas; contract of layer 11's Find; conditions: as each theorem states. -/
import Derived.Test.YtbgkoopfdfnmcaaToneC
import Derived.Test.YtbgkoopfdfnmcaaToneD
namespace Go.Proofs.Ytbgkoopfdfnmcaa
open Go.RowKit

def toneAt (b : List Int) (k : Nat) : ToneV := ⟨k, bgt b k⟩
def tonesTo (b : List Int) (m : Nat) : List ToneV := ((List.range m).filter fun (k : Nat) => isTone b (k : Int)).map (toneAt b)
/-- a spectrum's tones: those of which there is at most one greater -/
def findT (b : List Int) : List ToneV := ((List.range 16).filter fun (k : Nat) => isTone b (k : Int) && decide (aheadZ b k ≤ 1)).map (toneAt b)
def precV (x y : ToneV) : Bool := decide (absZ y.val < absZ x.val) || (decide (absZ x.val = absZ y.val) && decide (x.idx < y.idx))
theorem tonesTo_succ (b : List Int) (m : Nat) : tonesTo b (m + 1) = tonesTo b m ++ if isTone b (m : Int) = true then [toneAt b m] else [] := by
  unfold tonesTo
  rw [List.range_succ, List.filter_append, List.map_append]
  congr 1
  cases h : isTone b (m : Int) <;> simp [h]
theorem tonesTo_len (b : List Int) (m : Nat) : (tonesTo b m).length ≤ m := by
  unfold tonesTo
  have := List.length_filter_le (fun k : Nat => isTone b (k : Int)) (List.range m)
  simpa using this
theorem range_inc (m : Nat) : (List.range m).Pairwise (· < ·) := List.pairwise_lt_range
theorem tonesTo_inc (b : List Int) (m : Nat) : (tonesTo b m).Pairwise fun x y => x.idx < y.idx := by
  unfold tonesTo
  rw [List.pairwise_map]
  refine ((range_inc m).filter _).imp fun {a c} h => ?_
  show (a : Int) < (c : Int)
  omega
theorem aheadZ_eq (b : List Int) (k : Nat) : ((tonesTo b 16).filter fun u => precV u (toneAt b k)).length = aheadZ b k := by
  unfold tonesTo aheadZ aheadTo
  rw [List.filter_map, List.length_map, List.filter_filter]
  congr 1
  refine List.filter_congr fun j _ => ?_
  unfold aheadB precV toneAt
  simp only [Function.comp]
  rw [Bool.and_comm]
  congr 2
  have : ((j : Int) < (k : Int)) ↔ j < k := by omega
  rw [decide_eq_decide.2 this]
theorem findT_eq (b : List Int) : (tonesTo b 16).filter (fun t => decide (((tonesTo b 16).filter fun u => precV u t).length ≤ 1)) = findT b := by
  unfold findT
  conv => lhs; arg 2; unfold tonesTo
  rw [List.filter_map, List.filter_filter]
  congr 1
  refine List.filter_congr fun k _ => ?_
  simp only [Function.comp]
  rw [aheadZ_eq, Bool.and_comm]
theorem findT_len (b : List Int) : (findT b).length ≤ 16 := by
  unfold findT
  have := List.length_filter_le (fun k : Nat => isTone b (k : Int) && decide (aheadZ b k ≤ 1)) (List.range 16)
  simpa using this

/-! The sorts' orders. -/
def precB (x y : BTone) : Bool := precV x.t y.t
theorem ltLoud (x y : BTone) : ltOf cmpLoud x y = decide (absZ y.t.val < absZ x.t.val) := by
  unfold ltOf cmpLoud clampZ
  rw [decide_eq_decide]
  split
  · omega
  · split <;> omega
theorem ltIdx (x y : BTone) : ltOf cmpIdx x y = decide (x.t.idx < y.t.idx) := by
  unfold ltOf cmpIdx
  rw [decide_eq_decide]; omega
theorem swo_loud : Sort.SWO (ltOf cmpLoud) := ⟨fun x => by rw [ltLoud]; simp, fun x y z => by rw [ltLoud, ltLoud, ltLoud]; simp; omega, fun x y z => by rw [ltLoud, ltLoud, ltLoud]; simp; omega⟩
theorem swo_idx : Sort.SWO (ltOf cmpIdx) := ⟨fun x => by rw [ltIdx]; simp, fun x y z => by rw [ltIdx, ltIdx, ltIdx]; simp; omega, fun x y z => by rw [ltIdx, ltIdx, ltIdx]; simp; omega⟩
theorem swo_prec : Sort.SWO precB := ⟨fun x => by unfold precB precV; simp, fun x y z => by unfold precB precV; simp; omega, fun x y z => by unfold precB precV; simp; omega⟩
theorem prec_irr (x : BTone) : precB x x = false := swo_prec.irrefl x
theorem prec_asy (x y : BTone) (h : precB x y = true) : precB y x = false := by
  unfold precB precV at *; simp at *; omega

theorem sorted_twice (b : List Int) (ts : List BTone) (h : ts.map BTone.t = tonesTo b 16) :
    (sortL (ltOf cmpIdx) ((sortL (ltOf cmpLoud) ts).take 2)).map BTone.t = findT b := by
  have hinc : ts.Pairwise fun x y => x.t.idx < y.t.idx := by
    have := tonesTo_inc b 16
    rw [← h, List.pairwise_map] at this
    exact this
  have e1 : sortL (ltOf cmpLoud) ts = sortL precB ts := sortL_stable _ _ (fun x => x.t.idx) (fun x y hxy => by
    rw [ltLoud]; unfold precB precV
    have : ¬ x.t.idx < y.t.idx := by omega
    simp [this]) ts hinc
  rw [e1]
  have hperm := sortL_perm precB swo_prec ts
  generalize hS : sortL precB ts = S at *
  have hsort := sortL_sorted precB swo_prec ts
  rw [hS] at hsort
  have hne : S.Pairwise fun x y => x.t.idx ≠ y.t.idx := by
    refine (hperm.pairwise_iff (fun {x y} h => Ne.symm h)).2 (hinc.imp fun {x y} h => ?_)
    omega
  have hprec : S.Pairwise fun x y => precB x y = true := by
    refine (hsort.and hne).imp fun {x y} ⟨h1, h2⟩ => ?_
    unfold precB precV at *
    simp at *
    omega
  have htake := first_two precB prec_irr prec_asy S hprec
  rw [← htake]
  have hrank : ∀ t, (S.filter fun u => precB u t).length = (ts.filter fun u => precB u t).length := fun t => (hperm.filter _).length_eq
  have e2 : (S.filter fun t => decide ((S.filter fun u => precB u t).length ≤ 1)) = S.filter fun t => decide ((ts.filter fun u => precB u t).length ≤ 1) := by
    refine List.filter_congr fun t _ => ?_
    rw [hrank]
  rw [e2]
  have hp2 := hperm.filter (fun t => decide ((ts.filter fun u => precB u t).length ≤ 1))
  generalize hT : S.filter (fun t => decide ((ts.filter fun u => precB u t).length ≤ 1)) = T at *
  have hp3 := (sortL_perm (ltOf cmpIdx) swo_idx T).trans hp2
  have hs3 := sortL_sorted (ltOf cmpIdx) swo_idx T
  have hinc2 := hinc.filter (fun t => decide ((ts.filter fun u => precB u t).length ≤ 1))
  have hne3 : (sortL (ltOf cmpIdx) T).Pairwise fun x y => x.t.idx ≠ y.t.idx := by
    refine (hp3.pairwise_iff (fun {x y} h => Ne.symm h)).2 (hinc2.imp fun {x y} h => ?_)
    omega
  have hfin := ordered_unique (fun x y : BTone => x.t.idx < y.t.idx) (fun x => by omega) (fun x y h => by omega) _ _ hp3 ((hs3.and hne3).imp fun {x y} ⟨h1, h2⟩ => by
    rw [ltIdx] at h1; simp at h1; omega) hinc2
  rw [hfin, ← findT_eq, ← h, List.filter_map]
  congr 1
  refine List.filter_congr fun t _ => ?_
  simp only [Function.comp]
  rw [List.filter_map, List.length_map]
  rfl
end Go.Proofs.Ytbgkoopfdfnmcaa
