/- EdA. Conditions: as each theorem states. -/
import Derived.Test.YtgcfkblmnpnogaaGreatDoorPh40
import Derived.Test.YtgcfkblmnpnogaaGreatDoorPhxBldB
import Derived.Test.YtgcfkblmnpnogaaGreatDoorPhxBackF

namespace Go.Proofs.YtgcfkblmnpnogaaGreatDoor
open Go.RowKit Go.Lib

structure RawV where
  m : MetaV
  fs : List (List Nat)
structure HRaw where
  a : Option Addr
  c : Nat
def rawC (p : HRaw × RawV) : List Value := p.2.m.cells ++ [.slice p.1.a p.2.fs.length p.1.c]
def rawsC (L : List (HRaw × RawV)) : List Value := (L.map rawC).flatten
theorem rawC_len (p : HRaw × RawV) : (rawC p).length = 10 := rfl
theorem rawsC_snoc (L : List (HRaw × RawV)) (p : HRaw × RawV) : rawsC (L ++ [p]) = rawsC L ++ rawC p := by simp [rawsC]
theorem rawsC_app (L M : List (HRaw × RawV)) : rawsC (L ++ M) = rawsC L ++ rawsC M := by simp [rawsC]
theorem rawsC_get (L : List (HRaw × RawV)) {k : Nat} {p : HRaw × RawV} (h : L[k]? = some p) (j : Nat) (hj : j < 10) : (rawsC L)[k * 10 + j]? = (rawC p)[j]? := by
  unfold rawsC
  rw [flat_get 10 (L.map rawC) (fun cs hcs => by obtain ⟨z, _, rfl⟩ := List.mem_map.1 hcs; rfl) k j hj]
  simp [h]
theorem rawsC_len (L : List (HRaw × RawV)) : (rawsC L).length = L.length * 10 := by
  induction L with
  | nil => rfl
  | cons p r ih =>
    show (rawC p ++ rawsC r).length = _
    rw [List.length_append, ih, rawC_len, List.length_cons, Nat.succ_mul, Nat.add_comm]
theorem raw_at {w : World} {B : Nat} {A : Option Addr} {L : List (HRaw × RawV)} (hr : Row w B A (rawsC L)) {k : Nat} {p : HRaw × RawV} (h : L[k]? = some p) :
    ∃ b off, A = some ⟨b, off, none⟩ ∧ b < B ∧ ∀ j v, (rawC p)[j]? = some v → w.cell? ⟨b, off + k * 10 + j, none⟩ = some v := by
  have h0 := rawsC_get L h 0 (by omega)
  obtain ⟨b, off, hA, hb, _⟩ := hr (k * 10 + 0) (.string p.2.m.name) h0
  refine ⟨b, off, hA, hb, fun j v hv => ?_⟩
  have hj : j < 10 := by have := (List.getElem?_eq_some_iff.1 hv).1; rwa [rawC_len] at this
  have h1 := rawsC_get L h j hj
  rw [hv] at h1
  obtain ⟨b', off', hA', _, hc⟩ := hr (k * 10 + j) v h1
  rw [hA] at hA'
  injection hA' with hA'
  injection hA' with e1 e2
  subst e1 e2
  rw [Nat.add_assoc]; exact hc
theorem rawC_one (p : HRaw × RawV) : ∀ u ∈ rawC p, u.oneCell' = true := by
  intro u hu
  unfold rawC at hu
  rcases List.mem_append.1 hu with h | h
  · exact meta_one p.2.m u h
  · rw [List.mem_singleton] at h; rw [h]; rfl
theorem rawsC_one (L : List (HRaw × RawV)) : ∀ u ∈ rawsC L, u.oneCell' = true := by
  intro u hu
  unfold rawsC at hu
  obtain ⟨cs, hcs, hu⟩ := List.mem_flatten.1 hu
  obtain ⟨z, _, rfl⟩ := List.mem_map.1 hcs
  exact rawC_one z u hu
theorem raw_info : ∃ i, Tryz.prog.info? 149 = some i ∧ (∃ z, i.zero = some z ∧ z.cells.size = 10) ∧ i.size = 10 ∧ i.bytes = 104 := by
  have h : (Tryz.prog.info? 149).map (fun i => (i.zero.map (fun z => z.cells.size), i.size, i.bytes)) = some (some 10, 10, 104) := by kernel_rfl
  cases hi : Tryz.prog.info? 149 with
  | none => rw [hi] at h; cases h
  | some i =>
    rw [hi] at h
    simp at h
    obtain ⟨⟨z, h1, h2⟩, h3, h4⟩ := h
    exact ⟨i, rfl, ⟨z, h1, h2⟩, h3, h4⟩
theorem inf_raw : (Tryz.prog.info? 149).map (·.size) = some 10 := by kernel_rfl
/-- rows of elements of two types do not share a block -/
theorem own_far {w : World} {base base' size size' n n' : Nat} {e e' : TypeId} {v V : Value} {xs xs' : List Value} (h : w.ownsRow base e size v n xs) (k : w.ownsRow base' e' size' V n' xs') (he : e ≠ e') : v.ownBlock = none ∨ v.ownBlock ≠ V.ownBlock := by
  rcases h.2 with ⟨rfl, _⟩ | ⟨g, cap, cur, rfl, _, hg, _⟩
  · exact .inl rfl
  · right
    have := own_ne k hg he
    exact this
theorem own_base {w : World} {base base' size n : Nat} {e : TypeId} {v : Value} {xs : List Value} (h : w.ownsRow base e size v n xs) (hb : base' ≤ base) : w.ownsRow base' e size v n xs := by
  refine ⟨h.1, ?_⟩
  rcases h.2 with h1 | ⟨g, cap, cur, h1, h2, h3⟩
  · exact .inl h1
  · exact .inr ⟨g, cap, cur, h1, Nat.le_trans hb h2, h3⟩
/-- frames as bytes, in a row -/
structure FsAt (w : World) (base : Nat) (A : Option Addr) (c : Nat) (FR : List (List Nat)) (vs : List Value) : Prop where
  len : vs.length = FR.length
  own : w.ownsRow base 29 1 (.slice A FR.length c) FR.length vs
  each : ∀ (j : Nat) v f, vs[j]? = some v → FR[j]? = some f → ∃ a k, v = .slice a f.length k ∧ f.length ≤ k ∧ k ≤ 9223372036854775807 ∧ w.ownsRow 0 5 1 (.slice a f.length k) f.length (u8s f)
theorem FsAt.nil (w : World) (base : Nat) : FsAt w base none 0 [] [] := ⟨rfl, World.ownsRow_nil _ _ _ _, fun j v f h => by simp at h⟩
theorem FsAt.below {w w' : World} {base : Nat} {A : Option Addr} {c : Nat} {FR : List (List Nat)} {vs : List Value} (h : FsAt w base A c FR vs) (hb : Below w.heap.size w w') : FsAt w' base A c FR vs :=
  ⟨h.len, own_below h.own hb, fun j v f h1 h2 => by
    obtain ⟨a, k, e, h3, h4, h5⟩ := h.each j v f h1 h2
    exact ⟨a, k, e, h3, h4, own_below h5 hb⟩⟩
theorem FsAt.far {w w' : World} {base base' size n : Nat} {A : Option Addr} {c : Nat} {FR : List (List Nat)} {vs xs : List Value} {e : TypeId} {V : Value} (h : FsAt w base A c FR vs) (k : w.ownsRow base' e size V n xs) (h1 : 29 ≠ e) (h2 : 5 ≠ e) (hg : w.grownBy w' V.ownBlock) : FsAt w' base A c FR vs :=
  ⟨h.len, h.own.kept hg (own_far h.own k h1), fun j v f q1 q2 => by
    obtain ⟨a, k', e, h3, h4, h5⟩ := h.each j v f q1 q2
    exact ⟨a, k', e, h3, h4, h5.kept hg (own_far h5 k h2)⟩⟩
theorem FsAt.push {w w' : World} {base : Nat} {A : Option Addr} {c : Nat} {FR : List (List Nat)} {vs : List Value} (h : FsAt w base A c FR vs) {f : List Nat} {a : Option Addr} {k : Nat} (h1 : f.length ≤ k) (h2 : k ≤ 9223372036854775807) (hf : w.ownsRow 0 5 1 (.slice a f.length k) f.length (u8s f)) {A' : Option Addr} {c' : Nat}
    (hown : w'.ownsRow base 29 1 (.slice A' (FR.length + 1) c') (FR.length + 1) (vs ++ [.slice a f.length k])) (hg : w.grownBy w' (Value.slice A FR.length c).ownBlock) : FsAt w' base A' c' (FR ++ [f]) (vs ++ [.slice a f.length k]) := by
  have hl : (FR ++ [f]).length = FR.length + 1 := by simp
  refine ⟨by rw [List.length_append, h.len, hl]; rfl, by rw [hl]; exact hown, fun j v g hj1 hj2 => ?_⟩
  by_cases hj : j < FR.length
  · rw [List.getElem?_append_left (by rw [h.len]; exact hj)] at hj1
    rw [List.getElem?_append_left hj] at hj2
    obtain ⟨a', k', e, h3, h4, h5⟩ := h.each j v g hj1 hj2
    exact ⟨a', k', e, h3, h4, h5.kept hg (own_far h5 h.own (by decide))⟩
  · have hj3 : j = FR.length := by
      have := (List.getElem?_eq_some_iff.1 hj2).1
      rw [hl] at this
      omega
    subst hj3
    rw [List.getElem?_append_right (by rw [h.len]; exact Nat.le_refl _), h.len, Nat.sub_self] at hj1
    rw [List.getElem?_append_right (Nat.le_refl _), Nat.sub_self] at hj2
    injection hj1 with hj1
    injection hj2 with hj2
    subst hj1 hj2
    exact ⟨a, k, rfl, h1, h2, hf.kept hg (own_far hf h.own (by decide))⟩
theorem FsAt.rows {w : World} {base : Nat} {A : Option Addr} {c : Nat} {FR : List (List Nat)} {vs : List Value} (h : FsAt w base A c FR vs) : BRows w w.heap.size A FR :=
  ⟨vs, h.len, Row.of_own h.own, fun j v f h1 h2 => by
    obtain ⟨a, k, e, h3, h4, h5⟩ := h.each j v f h1 h2
    exact ⟨a, k, e, h3, h4, Row.of_own h5⟩⟩
/-- a raw in memory -/
def RawAt (w : World) (p : HRaw × RawV) : Prop := ∃ vs, FsAt w 0 p.1.a p.1.c p.2.fs vs
theorem RawAt.below {w w' : World} {p : HRaw × RawV} (h : RawAt w p) (hb : Below w.heap.size w w') : RawAt w' p := by
  obtain ⟨vs, h⟩ := h
  exact ⟨vs, h.below hb⟩
theorem RawAt.far {w w' : World} {base size n : Nat} {p : HRaw × RawV} {xs : List Value} {e : TypeId} {V : Value} (h : RawAt w p) (k : w.ownsRow base e size V n xs) (h1 : 29 ≠ e) (h2 : 5 ≠ e) (hg : w.grownBy w' V.ownBlock) : RawAt w' p := by
  obtain ⟨vs, h⟩ := h
  exact ⟨vs, h.far k h1 h2 hg⟩
/-- raws in a row of the call's own -/
structure RawsAt (w : World) (base : Nat) (A : Option Addr) (c : Nat) (L : List (HRaw × RawV)) : Prop where
  own : w.ownsRow base 149 10 (.slice A L.length c) L.length (rawsC L)
  each : ∀ p ∈ L, RawAt w p
theorem RawsAt.below {w w' : World} {base : Nat} {A : Option Addr} {c : Nat} {L : List (HRaw × RawV)} (h : RawsAt w base A c L) (hb : Below w.heap.size w w') : RawsAt w' base A c L :=
  ⟨own_below h.own hb, fun p hp => (h.each p hp).below hb⟩
/-! The samples of a built image. -/
/-- the first samples of a built image, with their frames -/
def allZ (size : Nat) (D : List MetaV) (FR : List (List Nat)) : Nat → List RawV
  | 0 => []
  | m + 1 => allZ size D FR m ++ match (bldDir size D)[m]? with
    | some x => [⟨x, (FR.drop (kOf D m)).take (framesN x).toNat⟩]
    | none => []
theorem allZ_succ {size : Nat} {D : List MetaV} {FR : List (List Nat)} {m : Nat} {x : MetaV} (h : (bldDir size D)[m]? = some x) : allZ size D FR (m + 1) = allZ size D FR m ++ [⟨x, (FR.drop (kOf D m)).take (framesN x).toNat⟩] := by
  show allZ size D FR m ++ (match (bldDir size D)[m]? with | some x => _ | none => _) = _
  rw [h]
theorem allZ_len (size : Nat) (D : List MetaV) (FR : List (List Nat)) : ∀ m, m ≤ D.length → (allZ size D FR m).length = m
  | 0, _ => rfl
  | m + 1, hm => by
    obtain ⟨x, hx⟩ : ∃ x, (bldDir size D)[m]? = some x := ⟨_, List.getElem?_eq_getElem (by rw [bldDir_len]; omega)⟩
    rw [allZ_succ hx, List.length_append, allZ_len size D FR m (by omega)]
    rfl
end Go.Proofs.YtgcfkblmnpnogaaGreatDoor
