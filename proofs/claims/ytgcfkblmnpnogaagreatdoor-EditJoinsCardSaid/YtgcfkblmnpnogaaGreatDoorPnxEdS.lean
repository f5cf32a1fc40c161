/- EdS. Conditions: as each theorem states. -/
import Derived.Test.YtgcfkblmnpnogaaGreatDoorPnxEdP
import Derived.Test.YtgcfkblmnpnogaaGreatDoorPn46
namespace Go.Proofs.YtgcfkblmnpnogaaGreatDoor
open Go.RowKit Go.Lib
theorem at_true {Z : List RawV} (h : AscZ Z) {nm : ByteArray} : atB Z nm = true ↔ ∃ r ∈ Z, r.m.name = nm := by
 constructor
 ·intro hb
  obtain ⟨r, hr, hn⟩ := at_of hb
  exact ⟨r, List.mem_of_getElem? hr, hn⟩
 ·rintro ⟨r, hr, rfl⟩
  obtain ⟨j, hj⟩ := List.getElem?_of_mem hr
  exact (at_name h hj).2
def bothTo (Z Y : List RawV) : Nat → List RawV
 | 0 => Z
 | m + 1 => match Y[m]? with
  | some y => if atB (bothTo Z Y m) y.m.name = true then bothTo Z Y m else (bothTo Z Y m).insertIdx (atZ (bothTo Z Y m) y.m.name) y
  | none => bothTo Z Y m
theorem bothTo_succ {Z Y : List RawV} {m : Nat} {y : RawV} (h : Y[m]? = some y) : bothTo Z Y (m + 1) = if atB (bothTo Z Y m) y.m.name = true then bothTo Z Y m else (bothTo Z Y m).insertIdx (atZ (bothTo Z Y m) y.m.name) y := by
 show (match Y[m]? with | some y => _ | none => _) = _
 rw [h]
theorem bothTo_ok {size : Nat} {Z Y : List RawV} (hZ : RawsOk size Z) (hY : RawsOk size Y) (hm : Z.length + Y.length ≤ 64) (hf : (fOf Z).length + (fOf Y).length ≤ 30000) :
  ∀ m, m ≤ Y.length → RawsOk size (bothTo Z Y m) ∧ (bothTo Z Y m).length ≤ Z.length + m ∧ (fOf (bothTo Z Y m)).length ≤ (fOf Z).length + (fOf (Y.take m)).length
 | 0, _ => ⟨hZ, Nat.le_refl _, Nat.le_add_right _ _⟩
 | m + 1, h => by
  obtain ⟨y, hy⟩ : ∃ y, Y[m]? = some y := ⟨_, List.getElem?_eq_getElem (by omega)⟩
  obtain ⟨h1, h2, h3⟩ := bothTo_ok hZ hY hm hf m (by omega)
  have ht : fOf (Y.take (m + 1)) = fOf (Y.take m) ++ y.fs := by rw [take_snoc hy, fOf_app, fOf_one]
  have hs := fOf_sub (List.take_sublist (m + 1) Y)
  rw [ht, List.length_append] at hs
  rw [bothTo_succ hy, ht, List.length_append]
  cases hb : atB (bothTo Z Y m) y.m.name with
  | true => rw [if_pos rfl]; exact ⟨h1, by omega, by omega⟩
  | false =>
   rw [if_neg Bool.false_ne_true]
   refine ⟨h1.ins (hY.each y (List.mem_of_getElem? hy)) hb (by omega) (by omega), ?_, ?_⟩
   ·rw [List.length_insertIdx, if_pos (atZ_le _ _)]; omega
   ·rw [fOf_ins _ _ (atZ_le _ _)]; omega
theorem bothTo_step {Z Y : List RawV} {m : Nat} {r : RawV} (h : r ∈ bothTo Z Y m) : r ∈ bothTo Z Y (m + 1) := by
 cases hy : Y[m]? with
 | none =>
  show r ∈ (match Y[m]? with | some y => _ | none => _)
  rw [hy]; exact h
 | some y =>
  rw [bothTo_succ hy]
  split
  ·exact h
  ·exact (mem_ins (atZ_le _ _)).2 (.inr h)
theorem bothTo_mono {Z Y : List RawV} {m : Nat} {r : RawV} (h : r ∈ bothTo Z Y m) : ∀ d, r ∈ bothTo Z Y (m + d)
 | 0 => h
 | d + 1 => bothTo_step (bothTo_mono h d)
theorem bothTo_old {Z Y : List RawV} {r : RawV} (h : r ∈ Z) (m : Nat) : r ∈ bothTo Z Y m := by
 have := bothTo_mono (Z := Z) (Y := Y) (m := 0) h m
 rwa [Nat.zero_add] at this
theorem bothTo_from {Z Y : List RawV} {r : RawV} : ∀ m, r ∈ bothTo Z Y m → r ∈ Z ∨ ∃ j, j < m ∧ Y[j]? = some r
 | 0, h => .inl h
 | m + 1, h => by
  have ih : r ∈ bothTo Z Y m → r ∈ Z ∨ ∃ j, j < m + 1 ∧ Y[j]? = some r := fun h => by
   rcases bothTo_from m h with h | ⟨j, h1, h2⟩
   ·exact .inl h
   ·exact .inr ⟨j, by omega, h2⟩
  cases hy : Y[m]? with
  | none =>
   have h : r ∈ (match Y[m]? with | some y => if atB (bothTo Z Y m) y.m.name = true then bothTo Z Y m else (bothTo Z Y m).insertIdx (atZ (bothTo Z Y m) y.m.name) y | none => bothTo Z Y m) := h
   rw [hy] at h
   exact ih h
  | some y =>
   rw [bothTo_succ hy] at h
   split at h
   ·exact ih h
   ·rcases (mem_ins (atZ_le _ _)).1 h with rfl | h
    ·exact .inr ⟨m, Nat.lt_succ_self m, hy⟩
    ·exact ih h
section
variable {size : Nat} {Z Y : List RawV}
theorem bothTo_at (hZ : RawsOk size Z) (hY : RawsOk size Y) (hm : Z.length + Y.length ≤ 64) (hf : (fOf Z).length + (fOf Y).length ≤ 30000) {m : Nat} {y : RawV} (hy : Y[m]? = some y) : atB (bothTo Z Y m) y.m.name = atB Z y.m.name := by
 have hml := (List.getElem?_eq_some_iff.1 hy).1
 have hA := (bothTo_ok hZ hY hm hf m (by omega)).1.asc
 rw [Bool.eq_iff_iff, at_true hA, at_true hZ.asc]
 constructor
 ·rintro ⟨r, hr, hn⟩
  rcases bothTo_from m hr with h | ⟨j, hj, h⟩
  ·exact ⟨r, h, hn⟩
  ·have := asc_next hY.asc hj h hy
   rw [hn, nameLt_irr] at this
   cases this
 ·rintro ⟨r, hr, hn⟩
  exact ⟨r, bothTo_old hr m, hn⟩
def newTo (Z Y : List RawV) (m : Nat) : Nat := (Y.take m).countP fun y => !atB Z y.m.name
theorem newTo_succ {m : Nat} {y : RawV} (hy : Y[m]? = some y) : newTo Z Y (m + 1) = newTo Z Y m + if atB Z y.m.name = true then 0 else 1 := by
 unfold newTo
 rw [take_snoc hy, List.countP_append, List.countP_cons, List.countP_nil]
 cases atB Z y.m.name <;> rfl
theorem newTo_le (m : Nat) : newTo Z Y m ≤ m := by
 unfold newTo
 refine Nat.le_trans List.countP_le_length ?_
 rw [List.length_take]
 omega
theorem bothTo_len (hZ : RawsOk size Z) (hY : RawsOk size Y) (hm : Z.length + Y.length ≤ 64) (hf : (fOf Z).length + (fOf Y).length ≤ 30000) : ∀ m, m ≤ Y.length → (bothTo Z Y m).length = Z.length + newTo Z Y m
 | 0, _ => rfl
 | m + 1, h => by
  obtain ⟨y, hy⟩ : ∃ y, Y[m]? = some y := ⟨_, List.getElem?_eq_getElem (by omega)⟩
  have ih := bothTo_len hZ hY hm hf m (by omega)
  rw [newTo_succ hy, bothTo_succ hy, bothTo_at hZ hY hm hf hy]
  cases atB Z y.m.name with
  | true => rw [if_pos rfl, if_pos rfl]; exact ih
  | false => rw [if_neg Bool.false_ne_true, if_neg Bool.false_ne_true, List.length_insertIdx, if_pos (atZ_le _ _)]; omega
theorem bothTo_new (hZ : RawsOk size Z) (hY : RawsOk size Y) (hm : Z.length + Y.length ≤ 64) (hf : (fOf Z).length + (fOf Y).length ≤ 30000) {i : Nat} {y : RawV} (hy : Y[i]? = some y) (hno : atB Z y.m.name = false) : y ∈ bothTo Z Y Y.length := by
 have hi := (List.getElem?_eq_some_iff.1 hy).1
 have h1 : y ∈ bothTo Z Y (i + 1) := by
  rw [bothTo_succ hy, bothTo_at hZ hY hm hf hy, hno, if_neg Bool.false_ne_true]
  exact (mem_ins (atZ_le _ _)).2 (.inl rfl)
 have h2 := bothTo_mono h1 (Y.length - (i + 1))
 rwa [show i + 1 + (Y.length - (i + 1)) = Y.length by omega] at h2
end
theorem fOf_all_len {size : Nat} {D : List MetaV} {FR : List (List Nat)} (h : CanB size D FR) : (fOf (allZ size D FR D.length)).length = FR.length := by
 have hc : ∀ r ∈ allZ size D FR D.length, (r.fs.length : Int) = framesN r.m := fun r hr => by
  obtain ⟨i, x, hi, hx, rfl⟩ := mem_allZ D.length (Nat.le_refl _) hr
  obtain ⟨F, S, T, _, _, hT, _, _, hkL, _⟩ := h.at_ hx
  show ((List.take (framesN x).toNat (List.drop (kOf D i) FR)).length : Int) = framesN x
  rw [hT, Int.toNat_natCast, List.length_take, List.length_drop, Nat.min_eq_left (by omega)]
 have h1 := kOf_raws hc (allZ size D FR D.length).length (Nat.le_refl _)
 rw [List.take_of_length_le (Nat.le_refl _), dOf_all, allZ_len size D FR D.length (Nat.le_refl _)] at h1
 have h2 : kOf (bldDir size D) D.length = kOf D D.length := kOf_mix _ _ _ _
 rw [← h1, h2, h.cnt]
/-! Few samples. -/
def MadeS (w : World) (e : Ending) (w' : World) : Prop :=
 Below w.heap.size w w' ∧ (e = .returned (.pointer none) ∨ ∃ D FR g, CanB 24 D FR ∧ List.length D ≤ 8 ∧ List.length FR ≤ 160 ∧ e = .returned (.pointer (some ⟨g, 0, none⟩)) ∧ BankAt w' g (bldZ 24 D FR) 24 (bldDir 24 D) ∧ w.heap.size ≤ g)
theorem canP_frs {size : Nat} {SS : List SampV} (h : CanP size SS) : (frTo size SS SS.length).length ≤ 20 * SS.length := by
 have h1 := kOf_few h.few (SS.map metaOf).length (Nat.le_refl _)
 rw [h.can.cnt, List.length_map] at h1
 exact h1
theorem madeS_of {w : World} {ss : List SampV} {e : Ending} {w' : World} (h8 : ss.length ≤ 8) (h : MadeP w ss e w') : MadeS w e w' := by
 obtain ⟨hb, ⟨_, he⟩ | ⟨_, hC, g, he, hB, hg⟩⟩ := h
 ·exact ⟨hb, .inl he⟩
 ·have hl : (sortS ss).length = ss.length := (sortS_perm ss).length_eq
  rw [hC.bld_eq, ← bldDir_pack] at hB
  have h2 := canP_frs hC
  exact ⟨hb, .inr ⟨_, _, g, hC.can, by rw [List.length_map, hl]; exact h8, by omega, he, hB, hg⟩⟩
theorem made29_small (L : List (HSamp × SampV)) (A : Option Addr) (cap : Nat) (w : World) (hs : SampsAt w w.heap.size A L) (hnm : ∀ p ∈ L, p.2.name.size ≤ 9223372036854775807) :
  Calls Tryz.prog 30 #[.slice A L.length cap] w (MadeS w) := by
 refine (made29_core (fun ss => ss.length ≤ 8) _ w ((Few15_any L A cap w hs hnm).mono ?_)).mono ?_
 ·rintro e w' ⟨A', c, M, he, h8, _, _, hn, hs', hsm, hb⟩
  exact ⟨A', c, M, he, by rw [List.length_map]; exact h8, h8, hn, hs', hsm, hb⟩
 ·rintro e w' ⟨ss, h8, h⟩
  exact madeS_of h8 h
theorem others_none {size : Nat} {Z : List RawV} (h : RawsOk size Z) : others ⟨#[]⟩ Z = Z.length := others_all fun r hr => by
 have h1 := (h.each r hr).right
 cases hb : r.m.name.toList == (⟨#[]⟩ : ByteArray).toList with
 | false => rfl
 | true =>
  have he : r.m.name = ⟨#[]⟩ := toList_inj (eq_of_beq hb)
  unfold MetaV.right at h1
  rw [he] at h1
  simp only [Bool.and_eq_true] at h1
  obtain ⟨⟨⟨⟨⟨⟨h2, _⟩, _⟩, _⟩, _⟩, _⟩, _⟩ := h1
  exact absurd h2 (by decide)
end Go.Proofs.YtgcfkblmnpnogaaGreatDoor
