/- LayQ. Conditions: as each theorem states. -/
import Derived.Test.YtoagdidkadfekaaGreatDoorPfxLayP
import Derived.Test.YtoagdidkadfekaaGreatDoorPfxLayT

namespace Go.Proofs.YtoagdidkadfekaaGreatDoor
open Go.RowKit Go.Lib

/-- frames' writes of law 15's image -/
def lawFs (size : Nat) (PM : List MetaV) (FR : List (List Nat)) : Nat → List (Nat × List Nat)
  | 0 => []
  | m + 1 => lawFs size PM FR m ++ match PM[m]? with
    | some x => lawF size x FR (kTo PM FR.length m) (framesN x).toNat
    | none => []
theorem mem_lawF {size : Nat} {x : MetaV} {FR : List (List Nat)} {k : Nat} {p : Nat × List Nat} : ∀ n, p ∈ lawF size x FR k n ↔ ∃ j f, j < n ∧ FR[k + j]? = some f ∧ (p = (x.sums.toNat + 4 * j, numB 4 (crcZ f).toNat) ∨ p = (x.first.toNat + size * j, f))
  | 0 => by simp [lawF]
  | n + 1 => by
    unfold lawF
    rw [List.mem_append, mem_lawF n]
    constructor
    · rintro (⟨j, f, h1, h2, h3⟩ | h)
      · exact ⟨j, f, by omega, h2, h3⟩
      · cases hf : FR[k + n]? with
        | none => rw [hf] at h; simp at h
        | some f =>
          rw [hf] at h
          simp only [List.mem_cons, List.not_mem_nil, or_false] at h
          exact ⟨n, f, by omega, hf, h⟩
    · rintro ⟨j, f, h1, h2, h3⟩
      by_cases hj : j = n
      · subst hj
        rw [h2]
        refine .inr ?_
        simp only [List.mem_cons, List.not_mem_nil, or_false]
        exact h3
      · exact .inl ⟨j, f, by omega, h2, h3⟩
theorem mem_lawFs {size : Nat} {PM : List MetaV} {FR : List (List Nat)} {p : Nat × List Nat} : ∀ m, p ∈ lawFs size PM FR m ↔ ∃ i x, i < m ∧ PM[i]? = some x ∧ p ∈ lawF size x FR (kTo PM FR.length i) (framesN x).toNat
  | 0 => by simp [lawFs]
  | m + 1 => by
    unfold lawFs
    rw [List.mem_append, mem_lawFs m]
    constructor
    · rintro (⟨i, x, h1, h2, h3⟩ | h)
      · exact ⟨i, x, by omega, h2, h3⟩
      · cases hx : PM[m]? with
        | none => rw [hx] at h; simp at h
        | some x => rw [hx] at h; exact ⟨m, x, by omega, hx, h⟩
    · rintro ⟨i, x, h1, h2, h3⟩
      by_cases hi : i = m
      · subst hi
        rw [h2]
        exact .inr h3
      · exact .inl ⟨i, x, by omega, h2, h3⟩
/-- ahead of a place that no frame reaches only entries are laid -/
theorem lawTo_low {size : Nat} {PM : List MetaV} {FR : List (List Nat)} {i : Nat} (v : Nat) : ∀ m, FarW i (lawFs size PM FR m) → layG (lawTo size PM FR m) i v = layG (entsTo PM m) i v
  | 0, _ => rfl
  | m + 1, hf => by
    have ih := lawTo_low v m (fun p hp => hf p (List.mem_append_left _ hp))
    cases h : PM[m]? with
    | none =>
      show layG (lawTo size PM FR m ++ (match PM[m]? with | some x => _ | none => _)) i v = layG (entsTo PM m ++ (match PM[m]? with | some x => _ | none => _)) i v
      rw [h, List.append_nil, List.append_nil, ih]
    | some x =>
      rw [lawTo_succ h, entsTo_succ h, layG_app, layG_app, layG_app, ih, Nat.mul_comm 64, layG_far (l := lawF size x FR (kTo PM FR.length m) (framesN x).toNat)]
      intro p hp
      refine hf p (List.mem_append_right _ ?_)
      rw [h]
      exact hp
/-- behind the directory only frames are laid -/
theorem lawTo_high {size : Nat} {PM : List MetaV} {FR : List (List Nat)} {i : Nat} (v : Nat) (hL : ∀ x ∈ PM, x.name.size ≤ 32) : ∀ m, 16 + 64 * m ≤ i → layG (lawTo size PM FR m) i v = layG (lawFs size PM FR m) i v
  | 0, _ => rfl
  | m + 1, hi => by
    have ih := lawTo_high (size := size) (FR := FR) (i := i) v hL m (by omega)
    cases h : PM[m]? with
    | none =>
      show layG (lawTo size PM FR m ++ (match PM[m]? with | some x => _ | none => _)) i v = layG (lawFs size PM FR m ++ (match PM[m]? with | some x => _ | none => _)) i v
      rw [h, List.append_nil, List.append_nil, ih]
    | some x =>
      have e : lawFs size PM FR (m + 1) = lawFs size PM FR m ++ lawF size x FR (kTo PM FR.length m) (framesN x).toNat := by
        show lawFs size PM FR m ++ (match PM[m]? with | some x => _ | none => _) = _
        rw [h]
      rw [lawTo_succ h, e, layG_app, layG_app, layG_app, ih, entW_far (o := 16 + 64 * m) (i := i) (hL x (List.mem_of_getElem? h)) (by omega)]
theorem lawTo_fits {size N : Nat} {PM : List MetaV} {FR : List (List Nat)} (hL : ∀ x ∈ PM, x.name.size ≤ 32) : ∀ m, 16 + 64 * m ≤ N → FitsW N (lawFs size PM FR m) → FitsW N (lawTo size PM FR m)
  | 0, _, _ => fun p hp => by simp [lawTo] at hp
  | m + 1, h1, h2 => fun p hp => by
    have ih := lawTo_fits hL m (by omega) (fun q hq => h2 q (List.mem_append_left _ hq))
    cases h : PM[m]? with
    | none =>
      have hp' : p ∈ lawTo size PM FR m ++ (match PM[m]? with | some x => _ | none => _) := hp
      rw [h, List.append_nil] at hp'
      exact ih p hp'
    | some x =>
      rw [lawTo_succ h] at hp
      rcases List.mem_append.1 hp with hp | hp
      · exact ih p hp
      · rcases List.mem_append.1 hp with hp | hp
        · exact entryW_fits (hL x (List.mem_of_getElem? h)) (by omega) p hp
        · refine h2 p (List.mem_append_right _ ?_)
          rw [h]
          exact hp
section
variable {size : Nat} {SS : List SampV}
theorem framesN_dir {m : Nat} {s : SampV} (hs : SS[m]? = some s) {x : MetaV} (hx : (packDir size SS)[m]? = some x) : (framesN x).toNat = countN (len0 s.rows) * s.rows.length := by
  rw [packDir_get hs] at hx
  injection hx with hx
  subst hx
  rw [plc_frames, framesN_nat, Int.toNat_natCast]
theorem kTo_frames (size : Nat) (SS : List SampV) : ∀ m, m ≤ SS.length → kTo (packDir size SS) (frTo size SS SS.length).length m = (frTo size SS m).length
  | 0, _ => rfl
  | m + 1, hm => by
    obtain ⟨s, hs⟩ : ∃ s, SS[m]? = some s := ⟨_, List.getElem?_eq_getElem (by omega)⟩
    obtain ⟨x, hx⟩ : ∃ x, (packDir size SS)[m]? = some x := ⟨_, packDir_get hs⟩
    have ih := kTo_frames size SS m (by omega)
    have hmo := frTo_mono size SS hm
    rw [frTo_succ hs, List.length_append, frS_len] at hmo
    rw [kTo_succ hx, ih, framesN_dir hs hx, frTo_succ hs, List.length_append, frS_len]
    omega
theorem CanP.frAt_eq (h : CanP size SS) {m : Nat} {s : SampV} (hs : SS[m]? = some s) {q : Nat} (hq : q < countN (len0 s.rows) * s.rows.length) :
    ∃ d x, q % s.rows.length < s.rows.length ∧ s.rows[q % s.rows.length]? = some d ∧ q / s.rows.length < countN d.length ∧ (framesZ d size)[q / s.rows.length]? = some x ∧ frAt size s q = frameBytes x size := by
  have hfine := h.fine s (List.mem_of_getElem? hs)
  have hR : 0 < s.rows.length := by
    rcases Nat.eq_zero_or_pos s.rows.length with h0 | h0
    · rw [h0, Nat.mul_zero] at hq; omega
    · exact h0
  have hk := Nat.mod_lt q hR
  have hi : q / s.rows.length < countN (len0 s.rows) := Nat.div_lt_of_lt_mul (by rwa [Nat.mul_comm] at hq)
  obtain ⟨d, hd⟩ : ∃ d, s.rows[q % s.rows.length]? = some d := ⟨_, List.getElem?_eq_getElem hk⟩
  have hdl := hfine.same d (List.mem_of_getElem? hd)
  obtain ⟨x, hx⟩ : ∃ x, (framesZ d size)[q / s.rows.length]? = some x := ⟨_, List.getElem?_eq_getElem (by rw [framesZ_len, hdl]; exact hi)⟩
  refine ⟨d, x, hk, hd, by rw [hdl]; exact hi, hx, ?_⟩
  unfold frAt
  rw [hd]
  simp only
  rw [hx]
/-- both lay the same frames -/
theorem CanP.frames_mem (h : CanP size SS) (p : Nat × List Nat) : p ∈ packTo size SS (packDir size SS) SS.length ↔ p ∈ lawFs size (packDir size SS) (frTo size SS SS.length) SS.length := by
  rw [mem_lawFs]
  constructor
  · intro hp
    obtain ⟨m, s, x, hm, hs, hx, hl⟩ := mem_packTo _ hp
    obtain ⟨F, S, cnt, R, A, B, hpl⟩ := h.place hs
    refine ⟨m, x, hm, hx, ?_⟩
    rw [mem_lawF, kTo_frames size SS m (by omega), framesN_dir hs hx]
    rw [(hpl.nat hx).1, (hpl.nat hx).2] at hl ⊢
    obtain ⟨k, i, d, y, hf⟩ := mem_layTo _ (Nat.le_refl _) hl
    obtain ⟨q, hq, q1, q2, hlen, he, l1, l2⟩ := hf.lies h hs hpl
    have hk := hf.hk
    have hqq : q < countN (len0 s.rows) * s.rows.length := by rw [hpl.hcnt, hpl.hR]; omega
    rw [← hpl.hR] at hq
    have hd1 : q / s.rows.length = i := by rw [hq, Nat.mul_comm, Nat.mul_add_div (by omega), Nat.div_eq_of_lt hk]; omega
    have hd2 : q % s.rows.length = k := by rw [hq, Nat.mul_comm, Nat.mul_add_mod, Nat.mod_eq_of_lt hk]
    obtain ⟨d', x', _, h2, _, h4, h5⟩ := h.frAt_eq hs hqq
    rw [hd2, hf.row] at h2
    injection h2 with h2
    subst h2
    rw [hd1, hf.fr] at h4
    injection h4 with h4
    subst h4
    refine ⟨q, frameBytes y size, hqq, by rw [frTo_get hs hqq, h5], ?_⟩
    rcases he with he | he
    · exact .inr (by rw [he, Nat.mul_comm])
    · exact .inl he
  · rintro ⟨m, x, hm, hx, hp⟩
    obtain ⟨s, hs⟩ : ∃ s, SS[m]? = some s := ⟨_, List.getElem?_eq_getElem hm⟩
    obtain ⟨F, S, cnt, R, A, B, hpl⟩ := h.place hs
    rw [mem_lawF, kTo_frames size SS m (by omega), framesN_dir hs hx] at hp
    obtain ⟨q, f, hq, hf, he⟩ := hp
    obtain ⟨d, y, h1, h2, h3, h4, h5⟩ := h.frAt_eq hs hq
    rw [frTo_get hs hq, h5] at hf
    injection hf with hf
    subst hf
    refine packTo_mem hs hx ?_ _ hm
    refine layTo_mem (k := q % s.rows.length) (i := q / s.rows.length) (d := d) (x := y) ⟨h1, h2, h3, h4, ?_⟩ _ h1
    have hqe : q / s.rows.length * s.rows.length + q % s.rows.length = q := by rw [Nat.mul_comm]; exact Nat.div_add_mod q _
    rw [hqe]
    rcases he with he | he
    · exact .inr he
    · exact .inl (by rw [he, Nat.mul_comm])
/-- law 15's image of what was packed is the packed image -/
theorem CanP.law_eq (h : CanP size SS) : lawZ size (packDir size SS) (frTo size SS SS.length) (packLen size SS) = packZ size SS := by
  have hdl := packDir_len size SS
  have hN := h.len_bd
  have hpf : FitsW (packLen size SS) (packTo size SS (packDir size SS) SS.length) := packTo_fits h.lo h.hi h.fine h.len_eq SS.length
  have hnm : ∀ x ∈ packDir size SS, x.name.size ≤ 32 := fun x hx => name_size (h.goodE x hx).1.name
  have hge : ∀ p ∈ packTo size SS (packDir size SS) SS.length, 20 + 64 * SS.length ≤ p.1 := fun p hp => by
    obtain ⟨m, s, x, hm, hs, hx, hl⟩ := mem_packTo _ hp
    obtain ⟨F, S, cnt, R, A, B, hpl⟩ := h.place hs
    rw [(hpl.nat hx).1, (hpl.nat hx).2] at hl
    obtain ⟨k, i, d, y, hf⟩ := mem_layTo _ (Nat.le_refl _) hl
    obtain ⟨q, hq, q1, q2, hlen, he, l1, l2⟩ := hf.lies h hs hpl
    have hbase := h.base m
    rw [hpl.ha, hpl.lo] at hbase
    omega
  have hlf : FitsW (packLen size SS) (lawFs size (packDir size SS) (frTo size SS SS.length) SS.length) := fun p hp => hpf p ((h.frames_mem p).2 hp)
  have hlg : ∀ p ∈ lawFs size (packDir size SS) (frTo size SS SS.length) SS.length, 20 + 64 * SS.length ≤ p.1 := fun p hp => hge p ((h.frames_mem p).2 hp)
  have hb : lawB size (packDir size SS) (frTo size SS SS.length) (packLen size SS) = lays (lays (List.replicate (packLen size SS) 0) (packTo size SS (packDir size SS) SS.length)) (headW (packLen size SS) SS.length size ++ entsTo (packDir size SS) SS.length) := by
    unfold lawB
    rw [hdl, ← lays_app]
    have f1 : FitsW (packLen size SS) (headW (packLen size SS) SS.length size ++ lawTo size (packDir size SS) (frTo size SS SS.length) SS.length) := fun p hp => by
      rcases List.mem_append.1 hp with hp | hp
      · exact headW_fits (by omega) p hp
      · exact lawTo_fits hnm SS.length (by omega) hlf p hp
    have f2 : FitsW (packLen size SS) (packTo size SS (packDir size SS) SS.length ++ (headW (packLen size SS) SS.length size ++ entsTo (packDir size SS) SS.length)) := fun p hp => by
      rcases List.mem_append.1 hp with hp | hp
      · exact hpf p hp
      · rcases List.mem_append.1 hp with hp | hp
        · exact headW_fits (by omega) p hp
        · exact entsTo_fits hnm SS.length (by omega) p hp
    have l0 : (List.replicate (packLen size SS) 0).length = packLen size SS := List.length_replicate
    have l1 := lays_len l0 f1
    have l2 := lays_len l0 f2
    refine List.ext_getElem (by rw [l1, l2]) fun i hi1 hi2 => ?_
    have g1 := lays_gd (i := i) (l := _) (bs := List.replicate (packLen size SS) 0) (by rw [l0]; exact f1)
    have g2 := lays_gd (i := i) (l := _) (bs := List.replicate (packLen size SS) 0) (by rw [l0]; exact f2)
    rw [List.getD_eq_getElem?_getD, List.getElem?_eq_getElem hi1, Option.getD_some] at g1
    rw [List.getD_eq_getElem?_getD, List.getElem?_eq_getElem hi2, Option.getD_some] at g2
    rw [g1, g2]
    generalize (List.replicate (packLen size SS) 0).getD i 0 = v
    rw [layG_app, layG_app, layG_app]
    by_cases hlow : i < 20 + 64 * SS.length
    · rw [layG_far (l := packTo size SS (packDir size SS) SS.length) (fun p hp => .inl (by have := hge p hp; omega)), lawTo_low _ _ (fun p hp => .inl (by have := hlg p hp; omega))]
    · have hh : FarW i (headW (packLen size SS) SS.length size) := fun p hp => .inr (by
        have := headW_fits (n := packLen size SS) (N := 16) (c := SS.length) (size := size) (by omega) p hp
        omega)
      have he : FarW i (entsTo (packDir size SS) SS.length) := fun p hp => .inr (by
        have := entsTo_fits hnm SS.length (Nat.le_refl _) p hp
        omega)
      rw [lawTo_high _ hnm _ (by omega), layG_far hh, layG_far he, layG_far hh]
      by_cases hc : ∃ p ∈ packTo size SS (packDir size SS) SS.length, p.1 ≤ i ∧ i < p.1 + p.2.length
      · obtain ⟨p, hp, hpc⟩ := hc
        rw [layG_all (V := p.2.getD (i - p.1) 0) (fun p' hp' hc' => ?_) ⟨p, (h.frames_mem p).1 hp, hpc⟩, layG_all (V := p.2.getD (i - p.1) 0) (fun p' hp' hc' => ?_) ⟨p, hp, hpc⟩]
        · rw [h.apart hp hp' hpc hc']
        · rw [h.apart hp ((h.frames_mem p').2 hp') hpc hc']
      · have far : FarW i (packTo size SS (packDir size SS) SS.length) := fun p hp => by
          have : ¬ (p.1 ≤ i ∧ i < p.1 + p.2.length) := fun hc' => hc ⟨p, hp, hc'⟩
          omega
        rw [layG_far (fun p hp => far p ((h.frames_mem p).2 hp)), layG_far far]
  have hlen : (lays (List.replicate (packLen size SS) 0) (packTo size SS (packDir size SS) SS.length)).length = packLen size SS := lays_len List.length_replicate hpf
  rw [packZ_eq]
  unfold lawZ withHead
  rw [hb, hdl, hlen, Nat.mul_comm 64]
end
end Go.Proofs.YtoagdidkadfekaaGreatDoor
