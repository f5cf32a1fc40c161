/- LayE. Conditions: as each theorem states. -/
import Derived.Test.YtoagdidkadfekaaGreatDoorPfxLayC

namespace Go.Proofs.YtoagdidkadfekaaGreatDoor
open Go.RowKit Go.Lib

/-- a meta that law 15's image lays -/
structure GoodL (x : MetaV) : Prop where
  len : 0 ≤ x.length ∧ x.length ≤ 1048576
  ch : 0 ≤ x.channels ∧ x.channels ≤ 2
  rate : 0 ≤ x.rate ∧ x.rate ≤ 1000000000
  from_ : 0 ≤ x.from_ ∧ x.from_ ≤ 1000000000
  to_ : 0 ≤ x.to_ ∧ x.to_ ≤ 1000000000
  name : x.name.size ≤ 32
theorem GoodL.gen {x : MetaV} (h : GoodL x) : GenM x := genM_of h.len h.ch
theorem upZ_bd {n b : Int} (h : 0 ≤ n) (hb : 1 ≤ b) : 0 ≤ upZ n b ∧ upZ n b ≤ n + b := by
  have h1 := Int.ediv_mul_le (n + b - 1) (show b ≠ 0 by omega)
  have h2 := Int.ediv_nonneg (show 0 ≤ n + b - 1 by omega) (show 0 ≤ b by omega)
  have h3 := Int.mul_nonneg h2 (show 0 ≤ b by omega)
  unfold upZ
  omega
theorem atTo_ge20 {size : Int} {L : List MetaV} (hL : ∀ x ∈ L, GenM x) (h1 : 24 ≤ size) (m : Nat) : 20 + 64 * (L.length : Int) ≤ atTo size L m := by
  have := genTo_mono (size := size) (by omega) hL (Nat.zero_le m)
  have e : atTo size L 0 = 16 + (L.length : Int) * 64 + 4 := rfl
  omega
/-- a meta with its place, in plain numbers -/
theorem plc_nat {size N : Nat} {D : List MetaV} {q : Nat} {x : MetaV} (h : D[q]? = some x) (hg : ∀ x ∈ D, GoodL x) (h1 : 24 ≤ size) (h2 : size ≤ 96) (hD : D.length ≤ 64) (hN : upZ (atTo size D D.length) 64 = N) :
    ∃ (nm : ByteArray) (lp : Bool) (ln rn cn fn tn sn pn F SF : Nat), plc size D q x = ⟨nm, ln, rn, cn, lp, fn, tn, sn, pn⟩ ∧ nm.size ≤ 32 ∧ ln ≤ 1048576 ∧ rn ≤ 1000000000 ∧ cn ≤ 2 ∧ fn ≤ 1000000000 ∧ tn ≤ 1000000000 ∧ sn ≤ 900000000 ∧ pn ≤ 1000000000 ∧ countZ (ln : Int) * (cn : Int) = (F : Int) ∧ F ≤ 131072 ∧ framesN (plc size D q x) = (F : Int) ∧ 20 + 64 * D.length ≤ sn ∧ sn + 4 * F ≤ pn ∧ size * F = SF ∧ pn + SF ≤ N := by
  have hq := (List.getElem?_eq_some_iff.1 h).1
  have hx := hg x (List.mem_of_getElem? h)
  have hL : ∀ x ∈ D, GenM x := fun x hx => (hg x hx).gen
  have hfr := hx.gen.fr
  have hab := genTo_bd (size := (size : Int)) (by omega) (by omega) hL hD q
  have hst := atTo_succ (size := (size : Int)) h
  have hmo := genTo_mono (size := (size : Int)) (by omega) hL (show q + 1 ≤ D.length by omega)
  have h20 := atTo_ge20 (size := (size : Int)) hL (by omega) q
  have hup := upZ64_ge (atTo size D D.length)
  rw [hN] at hup
  obtain ⟨SF, hSF⟩ := Int.eq_ofNat_of_zero_le (Int.mul_nonneg (show 0 ≤ (size : Int) by omega) hfr.1)
  rw [hSF] at hst
  have hg16 := upZ16_ge (atTo size D q + 4 * framesN x)
  have hpf : framesN (plc size D q x) = framesN x := rfl
  have hbp : upZ (atTo size D q + 4 * framesN x) 16 ≤ atTo size D q + 4 * framesN x + 16 := (upZ_bd (by omega) (by omega)).2
  obtain ⟨A, hA⟩ := Int.eq_ofNat_of_zero_le hab.1
  obtain ⟨P, hP⟩ := Int.eq_ofNat_of_zero_le (show 0 ≤ upZ (atTo size D q + 4 * framesN x) 16 by omega)
  have hpl : plc size D q x = { x with sums := (A : Int), first := (P : Int) } := by unfold plc; rw [hP, hA]
  obtain ⟨F, hF⟩ := Int.eq_ofNat_of_zero_le hfr.1
  rw [hpf, hpl]
  obtain ⟨⟨g1, g2⟩, ⟨g3, g4⟩, ⟨g5, g6⟩, ⟨g7, g8⟩, ⟨g9, g10⟩, g11⟩ := hx
  obtain ⟨nm, len, rate, ch, lp, f, t, s0, f0⟩ := x
  simp only at g1 g2 g3 g4 g5 g6 g7 g8 g9 g10 g11
  obtain ⟨ln, rfl⟩ := Int.eq_ofNat_of_zero_le g1
  obtain ⟨cn, rfl⟩ := Int.eq_ofNat_of_zero_le g3
  obtain ⟨rn, rfl⟩ := Int.eq_ofNat_of_zero_le g5
  obtain ⟨fn, rfl⟩ := Int.eq_ofNat_of_zero_le g7
  obtain ⟨tn, rfl⟩ := Int.eq_ofNat_of_zero_le g9
  have hF' : countZ (ln : Int) * (cn : Int) = (F : Int) := hF
  rw [hP] at hst hg16 hbp
  rw [hF] at hg16 hbp hfr hSF
  refine ⟨nm, lp, ln, rn, cn, fn, tn, A, P, F, SF, rfl, g11, by omega, by omega, by omega, by omega, by omega, by omega, by omega, hF', by omega, hF, by omega, by omega, ?_, by omega⟩
  have : ((size * F : Nat) : Int) = (SF : Int) := by rw [← hSF]; push_cast; rfl
  exact Int.ofNat_inj.1 this
/-- an entry's name and its first numbers -/
def entN (o : Nat) (nm : ByteArray) (V : List Nat) (j : Nat) : List (Nat × List Nat) := (o, nameB nm) :: (List.range j).map fun j => (o + 32 + 4 * j, numB 4 (V.getD j 0))
theorem entN_succ (o : Nat) (nm : ByteArray) (V : List Nat) (j : Nat) : entN o nm V (j + 1) = entN o nm V j ++ [(o + 32 + 4 * j, numB 4 (V.getD j 0))] := by
  unfold entN
  rw [List.range_succ, List.map_append]
  rfl
theorem entryW_nat (o : Nat) (nm : ByteArray) (lp : Bool) (ln rn cn fn tn sn pn : Nat) : entryW o ⟨nm, ln, rn, cn, lp, fn, tn, sn, pn⟩ = entN o nm [ln, rn, fn, tn, sn, pn] 6 ++ ([(o + 56, [cn])] ++ if lp = true then [(o + 57, [1])] else []) := by
  unfold entryW entN
  simp only [Int.toNat_natCast]
  rw [← List.append_assoc]
  rfl
theorem lays_snoc (bs : List Nat) (l : List (Nat × List Nat)) (p : Nat × List Nat) : lays bs (l ++ [p]) = putAt (lays bs l) p.1 p.2 := by
  rw [lays_app]
  rfl
end Go.Proofs.YtoagdidkadfekaaGreatDoor
