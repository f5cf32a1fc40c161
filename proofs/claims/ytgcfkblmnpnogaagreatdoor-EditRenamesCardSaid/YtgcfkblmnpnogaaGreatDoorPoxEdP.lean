/- EdP. Conditions: as each theorem states. -/
import Derived.Test.YtgcfkblmnpnogaaGreatDoorPoxEdO
namespace Go.Proofs.YtgcfkblmnpnogaaGreatDoor
open Go.RowKit Go.Lib
theorem atZ_cons (x : RawV) (Z : List RawV) (nm : ByteArray) : atZ (x :: Z) nm = if nameLt x.m.name nm = true then atZ Z nm + 1 else 0 := by
 unfold atZ
 rw [List.takeWhile_cons]
 by_cases h : nameLt x.m.name nm = true
 ·rw [if_pos h, if_pos h, List.length_cons]
 ·rw [if_neg h, if_neg h]; rfl
theorem atZ_at (nm : ByteArray) : ∀ Z : List RawV, (∀ (t : Nat) r, t < atZ Z nm → Z[t]? = some r → nameLt r.m.name nm = true) ∧ ∀ r, Z[atZ Z nm]? = some r → nameLt r.m.name nm = false
 | [] => ⟨fun t r _ h => by simp at h, fun r h => by simp at h⟩
 | x :: Z => by
  obtain ⟨h1, h2⟩ := atZ_at nm Z
  rw [atZ_cons]
  by_cases h : nameLt x.m.name nm = true
  ·rw [if_pos h]
   refine ⟨fun t r ht hr => ?_, fun r hr => h2 r (by simpa using hr)⟩
   cases t with
   | zero => simp at hr; rw [← hr]; exact h
   | succ t => exact h1 t r (by omega) (by simpa using hr)
  ·rw [if_neg h]
   refine ⟨fun t r ht => by omega, fun r hr => ?_⟩
   simp at hr
   rw [← hr]
   simpa using h
theorem asc_ins {Y : List RawV} (h : AscZ Y) {r : RawV} (hno : atB Y r.m.name = false) : AscZ (Y.insertIdx (atZ Y r.m.name) r) := by
 obtain ⟨h1, h2⟩ := atZ_at r.m.name Y
 have hle := atZ_le Y r.m.name
 rw [ins_eq r Y _ hle]
 have hb : ∀ b ∈ Y.drop (atZ Y r.m.name), nameLt r.m.name b.m.name = true := fun b hb => by
  obtain ⟨j, hj⟩ := List.getElem?_of_mem hb
  rw [List.getElem?_drop] at hj
  obtain ⟨x, hx⟩ : ∃ x, Y[atZ Y r.m.name]? = some x := ⟨_, List.getElem?_eq_getElem (by have := (List.getElem?_eq_some_iff.1 hj).1; omega)⟩
  have hrx : nameLt r.m.name x.m.name = true := by
   cases hq : nameLt r.m.name x.m.name with
   | true => rfl
   | false =>
    have he := nameLt_eq (h2 x hx) hq
    unfold atB at hno
    rw [hx] at hno
    simp only [he, beq_self_eq_true] at hno
    cases hno
  by_cases hj0 : j = 0
  ·subst hj0
   rw [Nat.add_zero, hx] at hj
   injection hj with hj
   rw [← hj]; exact hrx
  ·exact nameLt_trans hrx (asc_next h (by omega) hx hj)
 refine List.pairwise_append.2 ⟨List.Pairwise.sublist (List.take_sublist _ _) h, List.pairwise_cons.2 ⟨hb, List.Pairwise.sublist (List.drop_sublist _ _) h⟩, fun a ha b hb' => ?_⟩
 obtain ⟨t, ht⟩ := List.getElem?_of_mem ha
 rw [List.getElem?_take] at ht
 split at ht
 ·rename_i htk
  have har := h1 t a htk ht
  rcases List.mem_cons.1 hb' with rfl | hb'
  ·exact har
  ·exact nameLt_trans har (hb b hb')
 ·cases ht
theorem fOf_ins (Y : List RawV) (k : Nat) (hk : k ≤ Y.length) (r : RawV) : (fOf (Y.insertIdx k r)).length = (fOf Y).length + r.fs.length := by
 rw [ins_eq r Y k hk, fOf_app, fOf_cons]
 have h : fOf Y = fOf (Y.take k) ++ fOf (Y.drop k) := by rw [← fOf_app, List.take_append_drop]
 rw [h]
 simp only [List.length_append]
 omega
theorem fOf_erase {Z : List RawV} {i : Nat} {r : RawV} (hr : Z[i]? = some r) : (fOf (Z.eraseIdx i)).length + r.fs.length = (fOf Z).length := by
 have hi := (List.getElem?_eq_some_iff.1 hr).1
 have hd : Z.drop i = r :: Z.drop (i + 1) := by
  rw [List.drop_eq_getElem_cons hi]
  congr 1
  exact (List.getElem?_eq_some_iff.1 hr).2
 have h : fOf Z = fOf (Z.take i) ++ fOf (Z.drop i) := by rw [← fOf_app, List.take_append_drop]
 rw [h, hd, fOf_cons, List.eraseIdx_eq_take_drop_succ, fOf_app]
 simp only [List.length_append]
 omega
theorem mem_ins {α : Type} {Y : List α} {k : Nat} (hk : k ≤ Y.length) {r q : α} : q ∈ Y.insertIdx k r ↔ q = r ∨ q ∈ Y := by
 rw [ins_eq r Y k hk, List.mem_append, List.mem_cons]
 have h : q ∈ Y ↔ q ∈ Y.take k ∨ q ∈ Y.drop k := by rw [← List.mem_append, List.take_append_drop]
 rw [h]
 constructor
 ·rintro (h | h | h)
  ·exact .inr (.inl h)
  ·exact .inl h
  ·exact .inr (.inr h)
 ·rintro (h | h | h)
  ·exact .inr (.inl h)
  ·exact .inl h
  ·exact .inr (.inr h)
theorem ins_self {α : Type} {Y : List α} {k : Nat} (hk : k ≤ Y.length) (r : α) : (Y.insertIdx k r)[k]? = some r := by
 rw [ins_eq r Y k hk, List.getElem?_append_right (by rw [List.length_take]; omega), List.length_take, Nat.min_eq_left hk, Nat.sub_self]
 rfl
theorem RawsOk.ins {size : Nat} {Y : List RawV} (h : RawsOk size Y) {r : RawV} (hr : RawOk size r) (hno : atB Y r.m.name = false) (hm : Y.length + 1 ≤ 64) (hf : (fOf Y).length + r.fs.length ≤ 30000) : RawsOk size (Y.insertIdx (atZ Y r.m.name) r) := by
 have hle := atZ_le Y r.m.name
 refine ⟨h.lo, h.hi, by rw [List.length_insertIdx, if_pos hle]; exact hm, fun q hq => ?_, asc_ins h.asc hno, by rw [fOf_ins Y _ hle]; exact hf⟩
 rcases (mem_ins hle).1 hq with rfl | hq
 ·exact hr
 ·exact h.each q hq
def nameM (m : MetaV) (nm : ByteArray) : MetaV := { m with name := nm }
def RenameP (w : World) (size : Nat) (Z : List RawV) (name other : ByteArray) (e : Ending) (w' : World) : Prop :=
 (atB Z name = false → e = .returned (.tuple #[.slice none 0 0, .int .i64 7]) ∧ Below w.heap.size w w') ∧
 (atB Z name = true → isName other = false → e = .returned (.tuple #[.slice none 0 0, .int .i64 10]) ∧ Below w.heap.size w w') ∧
 (atB Z name = true → isName other = true → atB (Z.eraseIdx (atZ Z name)) other = true → e = .returned (.tuple #[.slice none 0 0, .int .i64 11]) ∧ Below w.heap.size w w') ∧
 (∀ r : RawV, atB Z name = true → Z[atZ Z name]? = some r → isName other = true → atB (Z.eraseIdx (atZ Z name)) other = false → ImageP w size ((Z.eraseIdx (atZ Z name)).insertIdx (atZ (Z.eraseIdx (atZ Z name)) other) ⟨nameM r.m other, r.fs⟩) e w')
theorem rename_ok {size : Nat} {Z : List RawV} (h : RawsOk size Z) {i : Nat} {r : RawV} (hr : Z[i]? = some r) {other : ByteArray} (ho : isName other = true) (hno : atB (Z.eraseIdx i) other = false) : RawsOk size ((Z.eraseIdx i).insertIdx (atZ (Z.eraseIdx i) other) ⟨nameM r.m other, r.fs⟩) := by
 have hrz := h.each r (List.mem_of_getElem? hr)
 have hi := (List.getElem?_eq_some_iff.1 hr).1
 refine (h.sub (List.eraseIdx_sublist Z i)).ins (r := ⟨nameM r.m other, r.fs⟩) ⟨?_, hrz.cnt, hrz.len, hrz.byt⟩ hno ?_ ?_
 ·have h1 := hrz.right
  unfold MetaV.right at h1 ⊢
  simp only [Bool.and_eq_true] at h1 ⊢
  obtain ⟨⟨⟨⟨⟨⟨_, h2⟩, h3⟩, h4⟩, h5⟩, h6⟩, h7⟩ := h1
  exact ⟨⟨⟨⟨⟨⟨ho, h2⟩, h3⟩, h4⟩, h5⟩, h6⟩, h7⟩
 ·have := h.many
  rw [List.length_eraseIdx, if_pos hi]
  omega
 ·have h1 := fOf_erase hr
  have h2 := h.few
  show (fOf (Z.eraseIdx i)).length + r.fs.length ≤ 30000
  omega
end Go.Proofs.YtgcfkblmnpnogaaGreatDoor
