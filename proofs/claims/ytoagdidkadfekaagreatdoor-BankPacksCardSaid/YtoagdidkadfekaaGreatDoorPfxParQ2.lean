/- ParQ2. Conditions: as each theorem states. -/
import Derived.Test.YtoagdidkadfekaaGreatDoorPfxParO

namespace Go.Proofs.YtoagdidkadfekaaGreatDoor
open Go.RowKit Go.Lib

theorem layG_all {i V : Nat} : ∀ {W : List (Nat × List Nat)} {v : Nat}, (∀ p ∈ W, p.1 ≤ i ∧ i < p.1 + p.2.length → p.2.getD (i - p.1) 0 = V) → (∃ p ∈ W, p.1 ≤ i ∧ i < p.1 + p.2.length) → layG W i v = V
  | [], _, _, he => by obtain ⟨p, hp, _⟩ := he; simp at hp
  | p :: r, v, h, he => by
    show layG r i _ = V
    by_cases hr : ∃ q ∈ r, q.1 ≤ i ∧ i < q.1 + q.2.length
    · exact layG_all (fun q hq => h q (by simp [hq])) hr
    · rw [layG_far (fun q hq => by
        have : ¬ (q.1 ≤ i ∧ i < q.1 + q.2.length) := fun hc => hr ⟨q, hq, hc⟩
        omega)]
      obtain ⟨q, hq, hc⟩ := he
      rcases List.mem_cons.1 hq with rfl | hq
      · rw [if_pos hc]; exact h q (by simp) hc
      · exact absurd ⟨q, hq, hc⟩ hr
/-- what is laid of a frame, by its channel and its block -/
structure FrW (first sums size : Nat) (rows : List (List Int)) (p : Nat × List Nat) (k i : Nat) (d : List Int) (x : FrameV) : Prop where
  hk : k < rows.length
  row : rows[k]? = some d
  hi : i < countN d.length
  fr : (framesZ d size)[i]? = some x
  eq : p = (first + (i * rows.length + k) * size, frameBytes x size) ∨ p = (sums + 4 * (i * rows.length + k), numB 4 (crcZ (frameBytes x size)).toNat)
theorem mem_chanW {first sums size ch k : Nat} {fs : List FrameV} {p : Nat × List Nat} : ∀ n, p ∈ chanW first sums size ch k fs n → ∃ i x, i < n ∧ fs[i]? = some x ∧ p ∈ frameW first sums size (i * ch + k) x
  | 0, h => by simp [chanW] at h
  | n + 1, h => by
    unfold chanW at h
    rcases List.mem_append.1 h with h | h
    · obtain ⟨i, x, h1, h2, h3⟩ := mem_chanW n h
      exact ⟨i, x, by omega, h2, h3⟩
    · cases hx : fs[n]? with
      | none => rw [hx] at h; simp at h
      | some x => rw [hx] at h; exact ⟨n, x, by omega, hx, h⟩
theorem mem_layTo {first sums size : Nat} {rows : List (List Int)} {p : Nat × List Nat} : ∀ K, K ≤ rows.length → p ∈ layTo first sums size rows K → ∃ k i d x, FrW first sums size rows p k i d x
  | 0, _, h => by simp [layTo] at h
  | K + 1, hK, h => by
    unfold layTo at h
    rcases List.mem_append.1 h with h | h
    · exact mem_layTo K (by omega) h
    · cases hd : rows[K]? with
      | none => rw [hd] at h; simp at h
      | some d =>
        rw [hd] at h
        obtain ⟨i, x, h1, h2, h3⟩ := mem_chanW _ h
        simp only [frameW, List.mem_cons, List.not_mem_nil, or_false] at h3
        exact ⟨K, i, d, x, by omega, hd, h1, h2, h3⟩
theorem chanW_mem {first sums size ch k : Nat} {fs : List FrameV} {i : Nat} {x : FrameV} {p : Nat × List Nat} (hx : fs[i]? = some x) (hp : p ∈ frameW first sums size (i * ch + k) x) : ∀ n, i < n → p ∈ chanW first sums size ch k fs n
  | 0, h => by omega
  | n + 1, h => by
    unfold chanW
    by_cases hi : i = n
    · subst hi
      rw [hx]
      exact List.mem_append_right _ hp
    · exact List.mem_append_left _ (chanW_mem hx hp n (by omega))
theorem layTo_mem {first sums size : Nat} {rows : List (List Int)} {p : Nat × List Nat} {k i : Nat} {d : List Int} {x : FrameV} (h : FrW first sums size rows p k i d x) : ∀ K, k < K → p ∈ layTo first sums size rows K
  | 0, hK => by omega
  | K + 1, hK => by
    unfold layTo
    by_cases hk : k = K
    · subst hk
      rw [h.row]
      refine List.mem_append_right _ (chanW_mem h.fr ?_ _ h.hi)
      simp only [frameW, List.mem_cons, List.not_mem_nil, or_false]
      exact h.eq
    · exact List.mem_append_left _ (layTo_mem h K (by omega))
theorem no_two {R i k i' k' : Nat} (hk : k < R) (hk' : k' < R) (h : i * R + k = i' * R + k') : i = i' ∧ k = k' := by
  have h1 : (i * R + k) / R = i := by rw [Nat.mul_comm, Nat.mul_add_div (by omega), Nat.div_eq_of_lt hk]; omega
  have h2 : (i' * R + k') / R = i' := by rw [Nat.mul_comm, Nat.mul_add_div (by omega), Nat.div_eq_of_lt hk']; omega
  have : i = i' := by rw [← h1, ← h2, h]
  subst this
  exact ⟨rfl, by omega⟩
section
variable {size : Nat} {SS : List SampV}
theorem mem_packTo {PM : List MetaV} {p : Nat × List Nat} : ∀ M, p ∈ packTo size SS PM M → ∃ m s x, m < M ∧ SS[m]? = some s ∧ PM[m]? = some x ∧ p ∈ layTo x.first.toNat x.sums.toNat size s.rows s.rows.length
  | 0, h => by simp [packTo] at h
  | M + 1, h => by
    unfold packTo at h
    rcases List.mem_append.1 h with h | h
    · obtain ⟨m, s, x, h1, h2⟩ := mem_packTo M h
      exact ⟨m, s, x, by omega, h2⟩
    · cases hs : SS[M]? with
      | none => rw [hs] at h; simp at h
      | some s =>
        cases hx : PM[M]? with
        | none => rw [hs, hx] at h; simp at h
        | some x => rw [hs, hx] at h; exact ⟨M, s, x, by omega, hs, hx, h⟩
theorem packTo_mem {PM : List MetaV} {p : Nat × List Nat} {m : Nat} {s : SampV} {x : MetaV} (hs : SS[m]? = some s) (hx : PM[m]? = some x) (hp : p ∈ layTo x.first.toNat x.sums.toNat size s.rows s.rows.length) : ∀ M, m < M → p ∈ packTo size SS PM M
  | 0, h => by omega
  | M + 1, h => by
    unfold packTo
    by_cases hm : m = M
    · subst hm
      rw [hs, hx]
      exact List.mem_append_right _ hp
    · exact List.mem_append_left _ (packTo_mem hs hx hp M (by omega))
/-- a sample's place in its image -/
structure SPlace (size : Nat) (SS : List SampV) (m : Nat) (s : SampV) (F S cnt R A B : Nat) : Prop where
  fst : ((packDir size SS)[m]?).map (·.first) = some (F : Int)
  sum : ((packDir size SS)[m]?).map (·.sums) = some (S : Int)
  hcnt : countN (len0 s.rows) = cnt
  hR : s.rows.length = R
  ha : atTo size (SS.map metaOf) m = A
  hb : atTo size (SS.map metaOf) (m + 1) = B
  lo : A = S
  mid : S + 4 * (cnt * R) ≤ F
  up : F + size * (cnt * R) = B
theorem CanP.place (h : CanP size SS) {m : Nat} {s : SampV} (hs : SS[m]? = some s) : ∃ F S cnt R A B, SPlace size SS m s F S cnt R A B := by
  have hm := (List.getElem?_eq_some_iff.1 hs).1
  have hx : (SS.map metaOf)[m]? = some (metaOf s) := by rw [List.getElem?_map, hs]; rfl
  have hb := h.bd m (by omega)
  have hb2 := h.bd (m + 1) (by omega)
  have hsu := atTo_succ (size := (size : Int)) hx
  have hfr := framesN_nat s
  rw [hfr] at hsu
  have hge := upZ16_ge (atTo size (SS.map metaOf) m + 4 * framesN (metaOf s))
  rw [hfr] at hge
  obtain ⟨A, hA⟩ := Int.eq_ofNat_of_zero_le hb.1
  obtain ⟨B, hB⟩ := Int.eq_ofNat_of_zero_le hb2.1
  have hu0 : 0 ≤ upZ (atTo size (SS.map metaOf) m + 4 * ((countN (len0 s.rows) * s.rows.length : Nat) : Int)) 16 := by omega
  obtain ⟨F, hF⟩ := Int.eq_ofNat_of_zero_le hu0
  have e1 : (size : Int) * ((countN (len0 s.rows) * s.rows.length : Nat) : Int) = ((size * (countN (len0 s.rows) * s.rows.length) : Nat) : Int) := by push_cast; rfl
  rw [hF, e1, hB] at hsu
  rw [hF, hA] at hge
  refine ⟨F, A, _, _, A, B, ?_, ?_, rfl, rfl, hA, hB, rfl, ?_, ?_⟩
  · rw [packDir_get hs]
    show some (upZ (atTo size (SS.map metaOf) m + 4 * framesN (metaOf s)) 16) = _
    rw [hfr, hF]
  · rw [packDir_get hs]
    show some (atTo size (SS.map metaOf) m) = _
    rw [hA]
  · generalize countN (len0 s.rows) * s.rows.length = T at *
    omega
  · generalize size * (countN (len0 s.rows) * s.rows.length) = T at *
    omega
/-- a frame's write lies in its sample's part -/
theorem FrW.lies {m : Nat} {s : SampV} {F S cnt R A B : Nat} (h : CanP size SS) (hs : SS[m]? = some s) (hp : SPlace size SS m s F S cnt R A B) {p : Nat × List Nat} {k i : Nat} {d : List Int} {x : FrameV} (hf : FrW F S size s.rows p k i d x) :
    ∃ q, q = i * R + k ∧ q + 1 ≤ cnt * R ∧ q * size + size ≤ size * (cnt * R) ∧ (frameBytes x size).length = size ∧ (p = (F + q * size, frameBytes x size) ∨ p = (S + 4 * q, numB 4 (crcZ (frameBytes x size)).toNat)) ∧ S ≤ p.1 ∧ p.1 + p.2.length ≤ B := by
  have hfine := h.fine s (List.mem_of_getElem? hs)
  have hdm := List.mem_of_getElem? hf.row
  have hRi := framesZ_right (hfine.good.2 d hdm).2 (size := (size : Int)) (by have := h.lo; omega) (by have := h.hi; omega) x (List.mem_of_getElem? hf.fr)
  have hlen := frameBytes_len hRi.1 hRi.2
  have hi : i < cnt := by have := hf.hi; rw [hfine.same d hdm, hp.hcnt] at this; exact this
  have hk : k < R := by have := hf.hk; rw [hp.hR] at this; exact this
  have hq : i * R + k + 1 ≤ cnt * R := by
    have := Nat.mul_le_mul_right R (show i + 1 ≤ cnt by omega)
    rw [Nat.succ_mul] at this
    omega
  have hqs : (i * R + k) * size + size ≤ size * (cnt * R) := by
    have := Nat.mul_le_mul_right size hq
    rw [Nat.succ_mul, Nat.mul_comm (cnt * R) size] at this
    exact this
  have he := hf.eq
  rw [hp.hR] at he
  have h1 := hp.mid
  have h2 := hp.up
  refine ⟨i * R + k, rfl, hq, hqs, hlen, he, ?_⟩
  generalize size * (cnt * R) = T at *
  generalize cnt * R = T2 at *
  rcases he with rfl | rfl
  · rw [hlen]
    show S ≤ F + _ ∧ F + _ + size ≤ B
    generalize (i * R + k) * size = P at *
    omega
  · rw [numB_len]
    show S ≤ S + 4 * _ ∧ S + 4 * _ + 4 ≤ B
    generalize i * R + k = q at *
    omega
theorem SPlace.nat {m : Nat} {s : SampV} {F S cnt R A B : Nat} (hp : SPlace size SS m s F S cnt R A B) {x : MetaV} (hx : (packDir size SS)[m]? = some x) : x.first.toNat = F ∧ x.sums.toNat = S := by
  have h1 := hp.fst
  have h2 := hp.sum
  rw [hx] at h1 h2
  have h1' : x.first = F := Option.some.inj h1
  have h2' : x.sums = S := Option.some.inj h2
  rw [h1', h2']
  exact ⟨rfl, rfl⟩
/-- no two of an image's writes meet -/
theorem CanP.apart (h : CanP size SS) {p p' : Nat × List Nat} (hp : p ∈ packTo size SS (packDir size SS) SS.length) (hp' : p' ∈ packTo size SS (packDir size SS) SS.length) {j : Nat}
    (c1 : p.1 ≤ j ∧ j < p.1 + p.2.length) (c2 : p'.1 ≤ j ∧ j < p'.1 + p'.2.length) : p = p' := by
  obtain ⟨m, s, x, hm, hs, hx, hl⟩ := mem_packTo _ hp
  obtain ⟨m', s', x', hm', hs', hx', hl'⟩ := mem_packTo _ hp'
  obtain ⟨F, S, cnt, R, A, B, hpl⟩ := h.place hs
  obtain ⟨F', S', cnt', R', A', B', hpl'⟩ := h.place hs'
  rw [(hpl.nat hx).1, (hpl.nat hx).2] at hl
  rw [(hpl'.nat hx').1, (hpl'.nat hx').2] at hl'
  obtain ⟨k, i, d, y, hf⟩ := mem_layTo _ (Nat.le_refl _) hl
  obtain ⟨k', i', d', y', hf'⟩ := mem_layTo _ (Nat.le_refl _) hl'
  obtain ⟨q, hq, q1, q2, hlen, he, l1, l2⟩ := hf.lies h hs hpl
  obtain ⟨q', hq', q1', q2', hlen', he', l1', l2'⟩ := hf'.lies h hs' hpl'
  have hmono := fun (a b : Nat) (hab : a ≤ b) => atTo_mono (size := (size : Int)) (by have := h.lo; omega) h.few hab
  rcases Nat.lt_trichotomy m m' with hlt | heq | hgt
  · have := hmono (m + 1) m' hlt
    rw [hpl.hb, hpl'.ha, hpl'.lo] at this
    omega
  · subst heq
    rw [hs] at hs'
    injection hs' with hs'
    subst hs'
    rw [hx] at hx'
    injection hx' with hx'
    subst hx'
    have e1 := (hpl.nat hx).1.symm.trans (hpl'.nat hx).1
    have e2 := (hpl.nat hx).2.symm.trans (hpl'.nat hx).2
    have e3 := hpl.hR.symm.trans hpl'.hR
    have e4 := hpl.hcnt.symm.trans hpl'.hcnt
    subst e1 e2 e3 e4
    have hmid := hpl.mid
    have hkR : k < R := by have := hf.hk; rw [hpl.hR] at this; exact this
    have hkR' : k' < R := by have := hf'.hk; rw [hpl.hR] at this; exact this
    have same : q = q' → p = p' ∨ (p = (F + q * size, frameBytes y size) ∧ p' = (S + 4 * q, numB 4 (crcZ (frameBytes y size)).toNat)) ∨ (p' = (F + q * size, frameBytes y size) ∧ p = (S + 4 * q, numB 4 (crcZ (frameBytes y size)).toNat)) := fun e => by
      rw [hq, hq'] at e
      obtain ⟨ei, ek⟩ := no_two hkR hkR' e
      subst ei ek
      have er := hf.row.symm.trans hf'.row
      injection er with er
      subst er
      have ef := hf.fr.symm.trans hf'.fr
      injection ef with ef
      subst ef
      rw [← hq] at hq'
      subst hq'
      rcases he with rfl | rfl <;> rcases he' with rfl | rfl
      · exact .inl rfl
      · exact .inr (.inl ⟨rfl, rfl⟩)
      · exact .inr (.inr ⟨rfl, rfl⟩)
      · exact .inl rfl
    have cross : ∀ (a b : Nat), a + 1 ≤ cnt * R → F + b * size ≤ j → ¬ (S + 4 * a ≤ j ∧ j < S + 4 * a + 4) := fun a b h1 h2 h3 => by
      generalize cnt * R = T at *
      generalize b * size = P at *
      omega
    have key : ∀ a b : Nat, a * size ≤ j - F → j - F < a * size + size → b * size ≤ j - F → j - F < b * size + size → a = b := fun a b h1 h2 h3 h4 => by
      have ha : (j - F) / size = a := by
        rw [Nat.div_eq_iff (by have := h.lo; omega)]
        constructor <;> omega
      have hb : (j - F) / size = b := by
        rw [Nat.div_eq_iff (by have := h.lo; omega)]
        constructor <;> omega
      omega
    rcases he with hpe | hpe <;> rcases he' with hpe' | hpe'
    · have c1' := c1
      have c2' := c2
      rw [hpe, hlen] at c1'
      rw [hpe', hlen'] at c2'
      simp only at c1' c2'
      have e := key q q' (by omega) (by omega) (by omega) (by omega)
      rcases same e with h1 | ⟨_, h1⟩ | ⟨_, h1⟩
      · exact h1
      · rw [h1] at c2; rw [numB_len] at c2; exact absurd c2 (cross q q q1 (by omega))
      · rw [h1] at c1; rw [numB_len] at c1; exact absurd c1 (cross q q q1 (by omega))
    · rw [hpe, hlen] at c1
      rw [hpe', numB_len] at c2
      exact absurd c2 (cross q' q q1' c1.1)
    · rw [hpe, numB_len] at c1
      rw [hpe', hlen'] at c2
      exact absurd c1 (cross q q' q1 c2.1)
    · have c1' := c1
      have c2' := c2
      rw [hpe, numB_len] at c1'
      rw [hpe', numB_len] at c2'
      simp only at c1' c2'
      have e : q = q' := by omega
      rcases same e with h1 | ⟨h1, _⟩ | ⟨h1, _⟩
      · exact h1
      · rw [h1, hlen] at c1; exact absurd c1' (cross q q q1 c1.1)
      · rw [h1] at c2; rw [e] at c2; exact absurd c2' (cross q' q' q1' c2.1)
  · have := hmono (m' + 1) m hgt
    rw [hpl'.hb, hpl.ha, hpl.lo] at this
    omega
theorem CanP.frame_gd (h : CanP size SS) {p : Nat × List Nat} (hp : p ∈ packTo size SS (packDir size SS) SS.length) {j : Nat} (hj : j < p.2.length) : (packZ size SS).getD (p.1 + j) 0 = p.2.getD j 0 := by
  have hfit : FitsW (packLen size SS) (packTo size SS (packDir size SS) SS.length) := packTo_fits h.lo h.hi h.fine h.len_eq SS.length
  obtain ⟨m, s, x, hm, hs, hx, hl⟩ := mem_packTo _ hp
  obtain ⟨F, S, cnt, R, A, B, hpl⟩ := h.place hs
  rw [(hpl.nat hx).1, (hpl.nat hx).2] at hl
  obtain ⟨k, i, d, y, hf⟩ := mem_layTo _ (Nat.le_refl _) hl
  obtain ⟨q, hq, q1, q2, hlen, he, l1, l2⟩ := hf.lies h hs hpl
  have hbase := h.base m
  rw [hpl.ha, hpl.lo] at hbase
  rw [packZ_eq, h.head.far (by omega), lays_gd (by rw [List.length_replicate]; exact hfit)]
  refine layG_all (fun p' hp' hc => ?_) ⟨p, hp, by omega, by omega⟩
  have := h.apart hp hp' (j := p.1 + j) (by omega) hc
  subst this
  congr 1
  omega
/-- a frame's bytes in the image, and its sum -/
theorem CanP.frame_at (h : CanP size SS) {m : Nat} {s : SampV} {F S cnt R A B : Nat} (hs : SS[m]? = some s) (hpl : SPlace size SS m s F S cnt R A B) {k i : Nat} {d : List Int} {x : FrameV} (hk : k < R) (hd : s.rows[k]? = some d) (hi : i < cnt) (hx : (framesZ d size)[i]? = some x) :
    subB (packZ size SS) (F + (i * R + k) * size) size = frameBytes x size ∧ (readTo (packZ size SS) (S + 4 * (i * R + k)) 4 : Int) = crcZ (frameBytes x size) := by
  have hm := (List.getElem?_eq_some_iff.1 hs).1
  have hfine := h.fine s (List.mem_of_getElem? hs)
  have hlen' : d.length = len0 s.rows := hfine.same d (List.mem_of_getElem? hd)
  have hx0 := packDir_get (size := size) hs
  obtain ⟨xm, hxm⟩ : ∃ xm, (packDir size SS)[m]? = some xm := ⟨_, hx0⟩
  have hn := hpl.nat hxm
  have f1 : FrW F S size s.rows (F + (i * s.rows.length + k) * size, frameBytes x size) k i d x := ⟨by rw [hpl.hR]; exact hk, hd, by rw [hlen', hpl.hcnt]; exact hi, hx, .inl rfl⟩
  have f2 : FrW F S size s.rows (S + 4 * (i * s.rows.length + k), numB 4 (crcZ (frameBytes x size)).toNat) k i d x := ⟨by rw [hpl.hR]; exact hk, hd, by rw [hlen', hpl.hcnt]; exact hi, hx, .inr rfl⟩
  have m1 := packTo_mem hs hxm (by rw [hn.1, hn.2]; exact layTo_mem f1 _ (by rw [hpl.hR]; exact hk)) SS.length hm
  have m2 := packTo_mem hs hxm (by rw [hn.1, hn.2]; exact layTo_mem f2 _ (by rw [hpl.hR]; exact hk)) SS.length hm
  obtain ⟨q, hq, q1, q2, hlen, he, l1, l2⟩ := f1.lies h hs hpl
  rw [hpl.hR] at m1 m2
  constructor
  · refine List.ext_getElem? fun j => ?_
    by_cases hj : j < size
    · rw [subB_get hj, h.frame_gd m1 (by rw [hlen]; exact hj), List.getD_eq_getElem?_getD, List.getElem?_eq_getElem (by rw [hlen]; exact hj)]
      rfl
    · rw [List.getElem?_eq_none (by rw [subB_len]; omega), List.getElem?_eq_none (by omega)]
  · have hb := crcZ_bd (frameBytes x size)
    have := readTo_num4 (X := packZ size SS) (a := S + 4 * (i * R + k)) (v := (crcZ (frameBytes x size)).toNat) (fun j hj => h.frame_gd m2 (by rw [numB_len]; exact hj)) (by omega)
    rw [this]
    omega
end
end Go.Proofs.YtoagdidkadfekaaGreatDoor
