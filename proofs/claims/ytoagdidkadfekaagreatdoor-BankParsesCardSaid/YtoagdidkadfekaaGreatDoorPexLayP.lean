/- LayP. Conditions: as each theorem states. -/
import Derived.Test.YtoagdidkadfekaaGreatDoorPexLayC

namespace Go.Proofs.YtoagdidkadfekaaGreatDoor
open Go.RowKit Go.Lib

theorem byt_gd {X : List Nat} (hX : Byt X) (i : Nat) : X.getD i 0 < 256 := by
  rw [List.getD_eq_getElem?_getD]
  cases h : X[i]? with
  | none => exact (by decide : (0 : Nat) < 256)
  | some y => exact hX y (List.mem_of_getElem? h)
theorem num4_read {X : List Nat} (hX : Byt X) (a : Nat) {j : Nat} (hj : j < 4) : (numB 4 (readTo X a 4)).getD j 0 = X.getD (a + j) 0 := by
  have b0 := byt_gd hX (a + 0)
  have b1 := byt_gd hX (a + 1)
  have b2 := byt_gd hX (a + 2)
  have b3 := byt_gd hX (a + 3)
  have e : readTo X a 4 = (((0 * 256 + X.getD (a + 0) 0) * 256 + X.getD (a + 1) 0) * 256 + X.getD (a + 2) 0) * 256 + X.getD (a + 3) 0 := rfl
  rw [numB_gd hj, e]
  rcases (show j = 0 ∨ j = 1 ∨ j = 2 ∨ j = 3 by omega) with rfl | rfl | rfl | rfl
  all_goals
    simp only [Nat.reduceMul, Nat.reduceSub, Nat.reducePow, Nat.sub_zero, Nat.sub_self, Nat.mul_zero, Nat.pow_zero]
    omega
theorem num2_read {X : List Nat} (hX : Byt X) (a : Nat) {j : Nat} (hj : j < 2) : (numB 2 (readTo X a 2)).getD j 0 = X.getD (a + j) 0 := by
  have b0 := byt_gd hX (a + 0)
  have b1 := byt_gd hX (a + 1)
  have e : readTo X a 2 = (0 * 256 + X.getD (a + 0) 0) * 256 + X.getD (a + 1) 0 := rfl
  rw [numB_gd hj, e]
  rcases (show j = 0 ∨ j = 1 by omega) with rfl | rfl
  all_goals
    simp only [Nat.reduceMul, Nat.reduceSub, Nat.reducePow, Nat.sub_zero, Nat.sub_self, Nat.mul_zero, Nat.pow_zero]
    omega
theorem trim_gd (l : List UInt8) (j : Nat) : (trimRightB l 0).getD j 0 = l.getD j 0 := by
  have h := List.takeWhile_append_dropWhile (p := (· == (0 : UInt8))) (l := l.reverse)
  have h2 := congrArg List.reverse h
  rw [List.reverse_append, List.reverse_reverse] at h2
  have hz : ∀ x ∈ (List.takeWhile (· == (0 : UInt8)) l.reverse).reverse, x = 0 := fun x hx => by
    have := List.all_eq_true.1 (List.all_takeWhile (p := (· == (0 : UInt8))) (l := l.reverse)) x (List.mem_reverse.1 hx)
    simpa using this
  unfold trimRightB
  generalize (List.takeWhile (· == (0 : UInt8)) l.reverse).reverse = z at *
  generalize (List.dropWhile (· == (0 : UInt8)) l.reverse).reverse = t at *
  rw [← h2, List.getD_eq_getElem?_getD, List.getD_eq_getElem?_getD]
  by_cases hj : j < t.length
  · rw [List.getElem?_append_left hj]
  · rw [List.getElem?_eq_none (by omega), List.getElem?_append_right (by omega)]
    cases hq : z[j - t.length]? with
    | none => rfl
    | some y => rw [hz y (List.mem_of_getElem? hq)]; rfl
theorem name_gd {X : List Nat} (hX : Byt X) (o : Nat) {j : Nat} (hj : j < 32) : (nameB (nameOf X o)).getD j 0 = X.getD (o + j) 0 := by
  have e : nameB (nameOf X o) = (trimRightB (textB (subB X o 32)) 0).map (·.toNat) := rfl
  have h := trim_gd (textB (subB X o 32)) j
  rw [List.getD_eq_getElem?_getD, List.getD_eq_getElem?_getD] at h
  have h2 : (textB (subB X o 32))[j]? = some (UInt8.ofNat (X.getD (o + j) 0)) := by
    unfold textB
    rw [List.getElem?_map, subB_get hj]
    rfl
  rw [h2, Option.getD_some] at h
  have hb := byt_gd hX (o + j)
  have h3 : (UInt8.ofNat (X.getD (o + j) 0)).toNat = X.getD (o + j) 0 := by
    rw [UInt8.toNat_ofNat']
    exact Nat.mod_eq_of_lt hb
  rw [e, List.getD_eq_getElem?_getD, List.getElem?_map]
  generalize (trimRightB (textB (subB X o 32)) 0)[j]? = q at *
  cases q with
  | none =>
    have h : (0 : UInt8) = UInt8.ofNat (X.getD (o + j) 0) := h
    rw [← h] at h3
    exact h3
  | some y =>
    have h : y = UInt8.ofNat (X.getD (o + j) 0) := h
    rw [← h] at h3
    exact h3
/-- an entry that was read is laid again -/
theorem ent_again {X : List Nat} (hX : Byt X) {o : Nat} (hk : entOk X o = true) {j : Nat} (hj : j < 64) : layG (entryW o (metaAt X o)) (o + j) 0 = X.getD (o + j) 0 := by
  unfold entOk at hk
  simp only [Bool.and_eq_true, decide_eq_true_eq] at hk
  obtain ⟨ht, h57, hr⟩ := hk
  have h32 := name_size (right_name hr)
  have hi : ∀ v : Nat, ((v : Int)).toNat = v := fun v => Int.toNat_natCast v
  by_cases c0 : j < 32
  · rw [entW_name h32 c0]
    exact name_gd hX o c0
  have n4 : ∀ k, o + j = o + k + (j - k) ∨ j < k := fun k => by omega
  by_cases c1 : j < 36
  · rw [show o + j = o + 32 + (j - 32) by omega, entW_32 h32 (by omega)]
    exact num4_read hX (o + 32) (by omega)
  by_cases c2 : j < 40
  · rw [show o + j = o + 36 + (j - 36) by omega, entW_36 h32 (by omega)]
    exact num4_read hX (o + 36) (by omega)
  by_cases c3 : j < 44
  · rw [show o + j = o + 40 + (j - 40) by omega, entW_40 h32 (by omega)]
    exact num4_read hX (o + 40) (by omega)
  by_cases c4 : j < 48
  · rw [show o + j = o + 44 + (j - 44) by omega, entW_44 h32 (by omega)]
    exact num4_read hX (o + 44) (by omega)
  by_cases c5 : j < 52
  · rw [show o + j = o + 48 + (j - 48) by omega, entW_48 h32 (by omega)]
    exact num4_read hX (o + 48) (by omega)
  by_cases c6 : j < 56
  · rw [show o + j = o + 52 + (j - 52) by omega, entW_52 h32 (by omega)]
    exact num4_read hX (o + 52) (by omega)
  by_cases c7 : j = 56
  · subst c7
    rw [entW_56]
    rfl
  by_cases c8 : j = 57
  · subst c8
    rw [entW_57 h32]
    show (if decide (X.getD (o + 57) 0 = 1) = true then 1 else 0) = _
    by_cases hq : X.getD (o + 57) 0 = 1
    · rw [if_pos (decide_eq_true hq), hq]
    · rw [if_neg (by simpa using hq)]
      omega
  · rw [entW_58 h32 (by omega)]
    unfold tailOk at ht
    rw [List.all_eq_true] at ht
    have := ht (X.getD (o + 58 + (j - 58)) 0) (List.mem_of_getElem? (subB_get (bs := X) (o := o + 58) (n := 6) (j := j - 58) (by omega)))
    rw [show o + 58 + (j - 58) = o + j by omega, decide_eq_true_eq] at this
    exact this.symm
theorem dirTo_ent {bs : List Nat} : ∀ c, dirTo bs c = true → ∀ m, m < c → entOk bs (16 + m * 64) = true
  | 0, _, m, hm => by omega
  | c + 1, h, m, hm => by
    unfold dirTo at h
    simp only [Bool.and_eq_true] at h
    by_cases hc : m = c
    · subst hc; exact h.1.2
    · exact dirTo_ent c h.1.1 m (by omega)
/-- law 15's image without frames -/
theorem lawTo_nil (size : Nat) (PM : List MetaV) : ∀ m, lawTo size PM [] m = entsTo PM m
  | 0 => rfl
  | m + 1 => by
    have ih := lawTo_nil size PM m
    cases h : PM[m]? with
    | none =>
      show lawTo size PM [] m ++ (match PM[m]? with | some x => _ | none => _) = entsTo PM m ++ (match PM[m]? with | some x => _ | none => _)
      rw [h, ih]
    | some x =>
      have e0 := lawF_rest (size := size) (x := x) (FR := []) (k := kTo PM ([] : List (List Nat)).length m) (n := 0) (by simp) (framesN x).toNat
      rw [Nat.zero_add] at e0
      rw [lawTo_succ h, entsTo_succ h, ih, e0]
      show entsTo PM m ++ (entryW (16 + 64 * m) x ++ []) = _
      rw [List.append_nil, Nat.mul_comm]
theorem lawZ_nil (size : Nat) (PM : List MetaV) (N : Nat) : lawZ size PM [] N = withHead (List.replicate N 0) PM size := by
  have e : lawB size PM [] N = lays (List.replicate N 0) (headW N PM.length size ++ entsTo PM PM.length) := by
    unfold lawB
    rw [lawTo_nil]
  unfold lawZ withHead
  rw [e, List.length_replicate, Nat.mul_comm 64]
/-- what parsing found of an image -/
structure ParsedP (bs : List Nat) (n size : Nat) : Prop where
  len : 20 ≤ bs.length
  sign : subB bs 0 4 = [67, 65, 76, 49]
  nought : readTo bs 11 4 = 0
  last : bs.getD 15 0 = 0
  lo : 24 ≤ size
  hi : size ≤ 96
  many : n ≤ 64
  all : readTo bs 4 4 = bs.length
  room : 20 + n * 64 ≤ bs.length
  sum : crcZ (bs.take (16 + n * 64)) = (readTo bs (16 + n * 64) 4 : Nat)
  dir : dirTo bs n = true
  up : upZ (atTo size (dirZ bs n) n) 64 = bs.length
  mix : mixTo size (dirZ bs n) n = dirZ bs n
theorem parsed_of {bs : List Nat} (h : parseZ bs = 0) : ParsedP bs (cntZ bs) (sizeZ bs) := by
  unfold parseZ at h
  split at h
  · cases h
  split at h
  · cases h
  rename_i hhd
  split at h
  · cases h
  rename_i hsz
  split at h
  · cases h
  split at h
  · cases h
  rename_i hsum
  split at h
  · cases h
  rename_i hdir
  split at h
  · cases h
  rename_i hpl
  have hdir : dirTo bs (cntZ bs) = true := by simpa using hdir
  unfold sizeBad at hsz
  simp only [Bool.or_eq_true, decide_eq_true_eq, not_or, Decidable.not_not] at hsz
  obtain ⟨h1, h2, h3, h4⟩ := hsz
  unfold placeBad at hpl
  simp only [Bool.or_eq_true, decide_eq_true_eq, Bool.not_eq_true', not_or, Bool.not_eq_false, Decidable.not_not] at hpl
  obtain ⟨h5, h6, h7⟩ := hpl
  unfold headBad at hhd
  simp only [Bool.or_eq_true, decide_eq_true_eq, not_or, ne_eq, Decidable.not_not] at hhd
  obtain ⟨h8, h9, h10⟩ := hhd
  unfold sumBad at hsum
  simp only [decide_eq_true_eq, ne_eq, Decidable.not_not] at hsum
  exact ⟨by omega, h8, h9, h10, by omega, by omega, by omega, h4, by omega, hsum, hdir, h5, allEq_eq h7⟩
theorem ParsedP.headIn {bs : List Nat} {n size : Nat} (h : ParsedP bs n size) (hb : Byt bs) : HeadIn (List.replicate bs.length 0) (dirZ bs n) size bs.length n := by
  refine ⟨List.length_replicate, dirZ_len bs n, h.room, fun i _ => ?_, fun x hx => ?_⟩
  · rw [List.getD_eq_getElem?_getD, List.getElem?_replicate]
    split <;> rfl
  · have hr := dirTo_right _ h.dir x hx
    obtain ⟨m, hm, rfl⟩ := List.mem_iff_getElem.1 hx
    rw [dirZ_len] at hm
    have e := dirZ_get bs hm
    rw [List.getElem?_eq_getElem (by rw [dirZ_len]; exact hm)] at e
    injection e with e
    rw [e] at hr ⊢
    have q1 := readTo_lt hb (16 + m * 64 + 48) 4
    have q2 := readTo_lt hb (16 + m * 64 + 52) 4
    refine goodE_of hr ?_ ?_
    · show 0 ≤ ((readTo bs (16 + m * 64 + 48) 4 : Nat) : Int) ∧ ((readTo bs (16 + m * 64 + 48) 4 : Nat) : Int) < 4294967296
      omega
    · show 0 ≤ ((readTo bs (16 + m * 64 + 52) 4 : Nat) : Int) ∧ ((readTo bs (16 + m * 64 + 52) 4 : Nat) : Int) < 4294967296
      omega
theorem ParsedP.low {bs : List Nat} {n size : Nat} (h : ParsedP bs n size) (hb : Byt bs) (hn : cntZ bs = n) (hs : sizeZ bs = size) {i : Nat} (hi : i < 16) : layG (headW bs.length n size) i 0 = bs.getD i 0 := by
  have hz := h.nought
  have hz : (((0 * 256 + bs.getD (11 + 0) 0) * 256 + bs.getD (11 + 1) 0) * 256 + bs.getD (11 + 2) 0) * 256 + bs.getD (11 + 3) 0 = 0 := hz
  simp only [Nat.reduceAdd, Nat.add_zero] at hz
  have hl := h.last
  by_cases c0 : i < 4
  · have hg := h.sign
    have h2 : (subB bs 0 4)[i]? = some (bs.getD (0 + i) 0) := subB_get (by omega)
    rw [hg, Nat.zero_add] at h2
    unfold headW
    simp only [layG]
    iterate 3 rw [if_neg (by simp only [numB_len, List.length_cons, List.length_nil]; omega)]
    rw [if_pos (by simp only [List.length_cons, List.length_nil]; omega), List.getD_eq_getElem?_getD, Nat.sub_zero, h2]
    rfl
  by_cases c1 : i < 8
  · have := num4_read hb 4 (j := i - 4) (by omega)
    rw [h.all, show 4 + (i - 4) = i by omega] at this
    unfold headW
    simp only [layG]
    iterate 2 rw [if_neg (by simp only [numB_len, List.length_cons, List.length_nil]; omega)]
    rw [if_pos (by rw [numB_len]; omega), this]
  by_cases c2 : i < 10
  · have := num2_read hb 8 (j := i - 8) (by omega)
    unfold cntZ at hn
    rw [hn, show 8 + (i - 8) = i by omega] at this
    unfold headW
    simp only [layG]
    rw [if_neg (by simp only [List.length_cons, List.length_nil]; omega)]
    rw [if_pos (by rw [numB_len]; omega), this]
  by_cases c3 : i = 10
  · subst c3
    unfold headW
    simp only [layG]
    rw [if_pos (by simp only [List.length_cons, List.length_nil]; omega)]
    exact hs.symm
  · unfold headW
    simp only [layG]
    iterate 4 rw [if_neg (by simp only [numB_len, List.length_cons, List.length_nil]; omega)]
    rcases (show i = 11 ∨ i = 12 ∨ i = 13 ∨ i = 14 ∨ i = 15 by omega) with rfl | rfl | rfl | rfl | rfl
    all_goals omega
/-- the head that law 15's image lays is the one that was parsed -/
theorem parsed_again {bs : List Nat} (h : parseZ bs = 0) (hb : Byt bs) {n size : Nat} (hn : cntZ bs = n) (hs : sizeZ bs = size) : (lawZ size (mixTo size (dirZ bs n) (dirZ bs n).length) [] bs.length).take (20 + 64 * n) = bs.take (20 + 64 * n) := by
  have hp := parsed_of h
  rw [hn, hs] at hp
  have hh := hp.headIn hb
  rw [dirZ_len, hp.mix, lawZ_nil]
  have hlow : ∀ i, i < 16 + n * 64 → (withHead (List.replicate bs.length 0) (dirZ bs n) size).getD i 0 = bs.getD i 0 := fun i hi => by
    by_cases c : i < 16
    · rw [hh.low c]
      exact hp.low hb hn hs c
    · have hm : (i - 16) / 64 < n := by omega
      have hj : (i - 16) % 64 < 64 := Nat.mod_lt _ (by decide)
      have he := hh.ent (dirZ_get bs hm) hj
      have ha := ent_again hb (dirTo_ent _ hp.dir _ hm) hj
      rw [show 16 + (i - 16) / 64 * 64 + (i - 16) % 64 = i by omega] at he ha
      rw [he, ha]
  have hrm := hp.room
  have hlen := hh.out_len
  have htk : (withHead (List.replicate bs.length 0) (dirZ bs n) size).take (16 + n * 64) = bs.take (16 + n * 64) := by
    refine List.ext_getElem? fun i => ?_
    rw [List.getElem?_take, List.getElem?_take]
    split
    · rename_i hi
      have := hlow i hi
      rw [List.getD_eq_getElem?_getD, List.getD_eq_getElem?_getD, List.getElem?_eq_getElem (by omega), List.getElem?_eq_getElem (by omega)] at this
      rw [List.getElem?_eq_getElem (by omega), List.getElem?_eq_getElem (by omega)]
      exact congrArg some this
    · rfl
  have hlaid : (lays (List.replicate bs.length 0) (headW bs.length n size ++ entsTo (dirZ bs n) n)).take (16 + n * 64) = bs.take (16 + n * 64) := by
    rw [← htk, hh.eq]
    unfold putAt
    rw [List.append_assoc, List.take_append_of_le_length (by rw [List.length_take, hh.mid_len]; omega), List.take_take, Nat.min_self]
  refine List.ext_getElem? fun i => ?_
  rw [List.getElem?_take, List.getElem?_take]
  split
  · rename_i hi
    have hg : (withHead (List.replicate bs.length 0) (dirZ bs n) size).getD i 0 = bs.getD i 0 := by
      by_cases c : i < 16 + n * 64
      · exact hlow i c
      · rw [hh.eq, putAt_gd (by rw [numB_len, hh.mid_len]; omega), if_pos (by rw [numB_len]; omega), hlaid, hp.sum, Int.toNat_natCast, num4_read hb _ (by omega)]
        congr 1
        omega
    rw [List.getD_eq_getElem?_getD, List.getD_eq_getElem?_getD, List.getElem?_eq_getElem (by omega), List.getElem?_eq_getElem (by omega)] at hg
    rw [List.getElem?_eq_getElem (by omega), List.getElem?_eq_getElem (by omega)]
    exact congrArg some hg
  · rfl
theorem parsed_len {bs : List Nat} (h : parseZ bs = 0) (hb : Byt bs) {n size : Nat} (hn : cntZ bs = n) (hs : sizeZ bs = size) : (lawZ size (mixTo size (dirZ bs n) (dirZ bs n).length) [] bs.length).length = bs.length := by
  have hp := parsed_of h
  rw [hn, hs] at hp
  have hh := hp.headIn hb
  rw [dirZ_len, hp.mix, lawZ_nil]
  exact hh.out_len
end Go.Proofs.YtoagdidkadfekaaGreatDoor
