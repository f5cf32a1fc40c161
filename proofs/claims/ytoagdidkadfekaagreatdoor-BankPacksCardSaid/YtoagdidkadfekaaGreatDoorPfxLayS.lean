/- LayS. Conditions: as each theorem states. -/
import Derived.Test.YtoagdidkadfekaaGreatDoorPfxLayG
import Derived.Test.YtoagdidkadfekaaGreatDoorPfxLayT

namespace Go.Proofs.YtoagdidkadfekaaGreatDoor
open Go.RowKit Go.Lib

/-- two rows do not share a block -/
def ApartV (a b : Value) : Prop := a.ownBlock = none ∨ a.ownBlock ≠ b.ownBlock
theorem ApartV.symm {a b : Value} (h : ApartV a b) : ApartV b a := by
  unfold ApartV at *
  rcases h with h | h
  · rcases hb : b.ownBlock with _ | k
    · exact .inl rfl
    · right; rw [h]; simp
  · right; exact fun e => h e.symm
theorem ApartV.grow {a a' b : Value} {n : Nat} (h : ApartV a b) (ha : a'.ownBlock = a.ownBlock ∨ a'.ownBlock = some n) (hb : ∀ k, b.ownBlock = some k → k < n) : ApartV a' b := by
  unfold ApartV at *
  rcases ha with ha | ha
  · rw [ha]; exact h
  · right; rw [ha]; intro e; have := hb n e.symm; omega
/-- blocks between two numbers stay -/
structure MidW (lo hi : Nat) (w w' : World) : Prop where
  size : w.heap.size ≤ w'.heap.size
  block : ∀ k, lo ≤ k → k < hi → w'.heap[k]? = w.heap[k]?
theorem MidW.refl (lo hi : Nat) (w : World) : MidW lo hi w w := ⟨Nat.le_refl _, fun _ _ _ => rfl⟩
theorem MidW.trans {lo hi : Nat} {a b c : World} (h : MidW lo hi a b) (k : MidW lo hi b c) : MidW lo hi a c := ⟨Nat.le_trans h.size k.size, fun i h1 h2 => (k.block i h1 h2).trans (h.block i h1 h2)⟩
theorem MidW.of_below {lo hi : Nat} {w w' : World} (h : Below w.heap.size w w') (hh : hi ≤ w.heap.size) : MidW lo hi w w' := ⟨h.size, fun k _ h2 => h.block k (by omega)⟩
theorem MidW.of_grown {lo hi : Nat} {w w' : World} {row : Option Nat} (h : w.grownBy w' row) (hh : hi ≤ w.heap.size) (hr : ∀ k, row = some k → k < lo ∨ hi ≤ k) : MidW lo hi w w' :=
  ⟨h.size, fun k h1 h2 => h.block k (by omega) (fun e => by have := hr k e.symm; omega)⟩
theorem Row.midW {lo hi : Nat} {w w' : World} {a : Option Addr} {vs : List Value} (h : Row w hi a vs) (hm : MidW lo hi w w') (hlo : ∀ ad, a = some ad → lo ≤ ad.block) : Row w' hi a vs := fun i v hv => by
  obtain ⟨b, off, ha, hb, hc⟩ := h i v hv
  have hl := hlo _ ha
  exact ⟨b, off, ha, hb, (World.cell?_of_block (hm.block b hl hb)).trans hc⟩
/-- frames whose rows lie between two numbers, and not in a block -/
structure FrIn (w : World) (lo hi : Nat) (no : Option Nat) (A : Option Addr) (L : List (FrH × FrameV)) : Prop where
  row : Row w hi A (framesC L)
  low : ∀ ad, A = some ad → lo ≤ ad.block ∧ no ≠ some ad.block
  len : ∀ p ∈ L, p.2.Len
  tones : ∀ p ∈ L, p.2.tones.length ≤ p.1.c ∧ p.1.c ≤ 9223372036854775807 ∧ (p.2.tones = [] ∨ ∃ g, p.1.a = some ⟨g, 0, none⟩ ∧ lo ≤ g ∧ no ≠ some g ∧ Row w hi p.1.a (toneCells p.2.tones))
theorem FrIn.new {W w' : World} {no : Option Nat} {A : Option Addr} {c : Nat} {L : List (FrH × FrameV)} (h : FramesAt w' A L) (h1 : ∀ k, (Value.slice A (List.length L) c).ownBlock = some k → W.heap.size ≤ k)
    (h2 : ∀ p ∈ L, p.2.tones = [] ∨ ∃ g, p.1.a = some ⟨g, 0, none⟩ ∧ W.heap.size ≤ g) {lo : Nat} (hlo : lo ≤ W.heap.size) (hno : ∀ k, no = some k → k < W.heap.size) : FrIn w' lo w'.heap.size no A L := by
  refine ⟨h.row, fun ad ha => ?_, h.len, fun p hp => ⟨(h.tones p hp).1, (h.tones p hp).2.1, ?_⟩⟩
  · subst ha
    have := h1 ad.block rfl
    exact ⟨by omega, fun e => by have := hno _ e; omega⟩
  · rcases h2 p hp with h3 | ⟨g, h3, h4⟩
    · exact .inl h3
    · exact .inr ⟨g, h3, by omega, fun e => by have := hno _ e; omega, (h.tones p hp).2.2⟩
theorem FrIn.more {w : World} {lo hi hi' : Nat} {no : Option Nat} {A : Option Addr} {L : List (FrH × FrameV)} (h : FrIn w lo hi no A L) (hh : hi ≤ hi') : FrIn w lo hi' no A L :=
  ⟨h.row.more hh, h.low, h.len, fun p hp => ⟨(h.tones p hp).1, (h.tones p hp).2.1, (h.tones p hp).2.2.imp id fun ⟨g, h1, h2, h3, h4⟩ => ⟨g, h1, h2, h3, h4.more hh⟩⟩⟩
theorem FrIn.mid {w w' : World} {lo hi : Nat} {no : Option Nat} {A : Option Addr} {L : List (FrH × FrameV)} (h : FrIn w lo hi no A L) (hm : MidW lo hi w w') : FrIn w' lo hi no A L :=
  ⟨h.row.midW hm (fun ad ha => (h.low ad ha).1), h.low, h.len, fun p hp => ⟨(h.tones p hp).1, (h.tones p hp).2.1, (h.tones p hp).2.2.imp id fun ⟨g, h1, h2, h3, h4⟩ => ⟨g, h1, h2, h3, h4.midW hm (fun ad ha => by
    rw [h1] at ha
    injection ha with ha
    subst ha
    exact h2)⟩⟩⟩
theorem FrIn.later {w w' : World} {lo : Nat} {no : Option Nat} {A : Option Addr} {L : List (FrH × FrameV)} (h : FrIn w lo w.heap.size no A L) (hb : Below w.heap.size w w') : FrIn w' lo w'.heap.size no A L :=
  (h.mid (MidW.of_below hb (Nat.le_refl _))).more hb.size
theorem FrIn.grown {w w' : World} {lo : Nat} {no no' : Option Nat} {A : Option Addr} {L : List (FrH × FrameV)} (h : FrIn w lo w.heap.size no A L) (hg : w.grownBy w' no) (hn : no' = no ∨ no' = some w.heap.size) (hA : ∀ ad, A = some ad → ad.block < w.heap.size)
    (hT : ∀ p ∈ L, ∀ g, p.2.tones ≠ [] → p.1.a = some ⟨g, 0, none⟩ → g < w.heap.size) : FrIn w' lo w'.heap.size no' A L := by
  refine ⟨(h.row.aside (Nat.le_refl _) hg (fun ad ha => (h.low ad ha).2)).more hg.size, fun ad ha => ⟨(h.low ad ha).1, ?_⟩, h.len, fun p hp => ⟨(h.tones p hp).1, (h.tones p hp).2.1, ?_⟩⟩
  · rcases hn with rfl | rfl
    · exact (h.low ad ha).2
    · intro e
      injection e with e
      have := hA ad ha
      omega
  · by_cases ht : p.2.tones = []
    · exact .inl ht
    · rcases (h.tones p hp).2.2 with h1 | ⟨g, h1, h2, h3, h4⟩
      · exact .inl h1
      · refine .inr ⟨g, h1, h2, ?_, (h4.aside (Nat.le_refl _) hg (fun ad ha => by
          rw [h1] at ha
          injection ha with ha
          subst ha
          exact h3)).more hg.size⟩
        rcases hn with rfl | rfl
        · exact h3
        · intro e
          injection e with e
          have := hT p hp g ht h1
          omega
theorem FrIn.at_ {w : World} {lo hi : Nat} {no : Option Nat} {A : Option Addr} {L : List (FrH × FrameV)} (h : FrIn w lo hi no A L) (hh : hi ≤ w.heap.size) : FramesAt w A L :=
  ⟨h.row.more hh, h.len, fun p hp => ⟨(h.tones p hp).1, (h.tones p hp).2.1, by
    rcases (h.tones p hp).2.2 with h1 | ⟨g, _, _, _, h4⟩
    · rw [h1]; exact Row.none_ _ _ _
    · exact h4.more hh⟩⟩
theorem FrIn.lt {w : World} {lo hi : Nat} {no : Option Nat} {A : Option Addr} {L : List (FrH × FrameV)} (h : FrIn w lo hi no A L) : (L ≠ [] → ∀ ad, A = some ad → ad.block < hi) ∧ ∀ p ∈ L, ∀ g, p.2.tones ≠ [] → p.1.a = some ⟨g, 0, none⟩ → g < hi := by
  constructor
  · intro hne ad ha
    obtain ⟨p, r, rfl⟩ : ∃ p r, L = p :: r := by
      cases L with
      | nil => exact absurd rfl hne
      | cons p r => exact ⟨p, r, rfl⟩
    have h0 : 0 < (frC p).length := by rw [frC_len (h.len p (by simp))]; decide
    obtain ⟨b, off, hA, hb, _⟩ := h.row (0 * 29 + 0) (frC p)[0] (by rw [framesC_get h.len (k := 0) rfl (by decide)]; exact List.getElem?_eq_getElem h0)
    rw [ha] at hA
    injection hA with hA
    rw [hA]
    exact hb
  · intro p hp g ht hg
    rcases (h.tones p hp).2.2 with h1 | ⟨g', h1, _, _, h4⟩
    · exact absurd h1 ht
    · obtain ⟨t, r, hr⟩ : ∃ t r, p.2.tones = t :: r := by
        cases hq : p.2.tones with
        | nil => exact absurd hq ht
        | cons t r => exact ⟨t, r, rfl⟩
      have hl : 0 < (toneCells p.2.tones).length := by rw [toneCells_len, hr]; simp
      obtain ⟨b, off, hA, hb, _⟩ := h4 0 _ (List.getElem?_eq_getElem hl)
      rw [hg] at hA
      injection hA with hA
      injection hA with hA
      omega
/-- rows of bytes in a row that grows beside another -/
structure OutV (w : World) (base : Nat) (D : Value) (A : Option Addr) (c : Nat) (FR : List (List Nat)) (vs : List Value) : Prop where
  len : vs.length = FR.length
  own : w.ownsRow base 24 1 (.slice A FR.length c) FR.length vs
  each : ∀ (j : Nat) v f, vs[j]? = some v → FR[j]? = some f → ∃ a k, v = .slice a f.length k ∧ f.length ≤ k ∧ k ≤ 9223372036854775807 ∧ Row w w.heap.size a (u8s f) ∧ ∀ ad, a = some ad → ad.block < w.heap.size ∧ (Value.slice A FR.length c).ownBlock ≠ some ad.block ∧ D.ownBlock ≠ some ad.block
  ne : ApartV D (.slice A FR.length c)
theorem OutV.nil (w : World) (base : Nat) (D : Value) : OutV w base D none 0 [] [] := ⟨rfl, World.ownsRow_nil _ _ _ _, fun j v f h => by simp at h, (ApartV.symm (.inl rfl))⟩
theorem OutV.below {w w' : World} {base : Nat} {D : Value} {A : Option Addr} {c : Nat} {FR : List (List Nat)} {vs : List Value} (h : OutV w base D A c FR vs) (hb : Below w.heap.size w w') : OutV w' base D A c FR vs :=
  ⟨h.len, own_below h.own hb, fun j v f h1 h2 => by
    obtain ⟨a, k, e, h3, h4, h5, h6⟩ := h.each j v f h1 h2
    exact ⟨a, k, e, h3, h4, h5.later hb, fun ad ha => ⟨Nat.lt_of_lt_of_le (h6 ad ha).1 hb.size, (h6 ad ha).2⟩⟩, h.ne⟩
theorem OutV.dir {w w' : World} {base : Nat} {D D' : Value} {A : Option Addr} {c : Nat} {FR : List (List Nat)} {vs : List Value} (h : OutV w base D A c FR vs) (hg : w.grownBy w' D.ownBlock) (hD : D'.ownBlock = D.ownBlock ∨ D'.ownBlock = some w.heap.size) : OutV w' base D' A c FR vs := by
  refine ⟨h.len, h.own.kept hg (h.ne.symm.imp id fun h1 => h1), fun j v f h1 h2 => ?_, h.ne.grow hD (own_row_lt h.own)⟩
  obtain ⟨a, k, e, h3, h4, h5, h6⟩ := h.each j v f h1 h2
  refine ⟨a, k, e, h3, h4, (h5.aside (Nat.le_refl _) hg (fun ad ha => (h6 ad ha).2.2)).more hg.size, fun ad ha => ⟨Nat.lt_of_lt_of_le (h6 ad ha).1 hg.size, (h6 ad ha).2.1, ?_⟩⟩
  rcases hD with hD | hD
  · rw [hD]; exact (h6 ad ha).2.2
  · rw [hD]
    intro e2
    injection e2 with e2
    have := (h6 ad ha).1
    omega
theorem OutV.push {w w' : World} {base : Nat} {D : Value} {A : Option Addr} {c : Nat} {FR : List (List Nat)} {vs : List Value} (h : OutV w base D A c FR vs) {f : List Nat} {a : Option Addr} {k : Nat} (h1 : f.length ≤ k) (h2 : k ≤ 9223372036854775807) (hr : Row w w.heap.size a (u8s f))
    (ha : ∀ ad, a = some ad → ad.block < w.heap.size ∧ (Value.slice A FR.length c).ownBlock ≠ some ad.block ∧ D.ownBlock ≠ some ad.block) (hDl : ∀ k, D.ownBlock = some k → k < w.heap.size) {A' : Option Addr} {c' : Nat}
    (hown : w'.ownsRow base 24 1 (.slice A' (FR.length + 1) c') (FR.length + 1) (vs ++ [.slice a f.length k])) (hg : w.grownBy w' (Value.slice A FR.length c).ownBlock)
    (hat : (Value.slice A' (FR.length + 1) c').ownBlock = (Value.slice A FR.length c).ownBlock ∨ (Value.slice A' (FR.length + 1) c').ownBlock = some w.heap.size) : OutV w' base D A' c' (FR ++ [f]) (vs ++ [.slice a f.length k]) := by
  have hl : (FR ++ [f]).length = FR.length + 1 := by simp
  have hno : ∀ ad : Addr, ad.block < w.heap.size ∧ (Value.slice A FR.length c).ownBlock ≠ some ad.block ∧ D.ownBlock ≠ some ad.block → ad.block < w'.heap.size ∧ (Value.slice A' (FR.length + 1) c').ownBlock ≠ some ad.block ∧ D.ownBlock ≠ some ad.block := fun ad hq => by
    refine ⟨Nat.lt_of_lt_of_le hq.1 hg.size, ?_, hq.2.2⟩
    rcases hat with e | e
    · rw [e]; exact hq.2.1
    · rw [e]
      intro e2
      injection e2 with e2
      have := hq.1
      omega
  refine ⟨by rw [List.length_append, h.len, hl]; rfl, by rw [hl]; exact hown, fun j v g hj1 hj2 => ?_, by rw [hl]; exact ((h.ne.symm).grow hat hDl).symm⟩
  rw [hl]
  by_cases hj : j < FR.length
  · rw [List.getElem?_append_left (by rw [h.len]; exact hj)] at hj1
    rw [List.getElem?_append_left hj] at hj2
    obtain ⟨a', k', e, h3, h4, h5, h6⟩ := h.each j v g hj1 hj2
    exact ⟨a', k', e, h3, h4, (h5.aside (Nat.le_refl _) hg (fun ad hd => (h6 ad hd).2.1)).more hg.size, fun ad hd => hno ad (h6 ad hd)⟩
  · have hj3 : j = FR.length := by
      have := (List.getElem?_eq_some_iff.1 hj2).1
      rw [hl] at this
      omega
    subst hj3
    rw [List.getElem?_append_right (by rw [h.len]; exact Nat.le_refl _), h.len, Nat.sub_self] at hj1
    rw [List.getElem?_append_right (Nat.le_refl _), Nat.sub_self] at hj2
    injection hj1 with hj1
    injection hj2 with hj2
    subst hj1 hj2
    exact ⟨a, k, rfl, h1, h2, (hr.aside (Nat.le_refl _) hg (fun ad hd => (ha ad hd).2.1)).more hg.size, fun ad hd => hno ad (ha ad hd)⟩
theorem OutV.rows {w : World} {base : Nat} {D : Value} {A : Option Addr} {c : Nat} {FR : List (List Nat)} {vs : List Value} (h : OutV w base D A c FR vs) : BRows w w.heap.size A FR :=
  ⟨vs, h.len, Row.of_own h.own, fun j v f h1 h2 => by
    obtain ⟨a, k, e, h3, h4, h5, _⟩ := h.each j v f h1 h2
    exact ⟨a, k, e, h3, h4, h5⟩⟩
/-- law 15's frames, while a sample's frames are laid in a row -/
structure FrSt (w : World) (base lo hi gm : Nat) (wb : World) (D : Value) (nd : Nat) (LMc mc : List Value) (A : Option Addr) (c : Nat) (FR : List (List Nat)) (vs : List Value) : Prop where
  dir : w.ownsRow base 49 9 D nd LMc
  out : OutV w base D A c FR vs
  far : ∀ g, (Value.slice A FR.length c).ownBlock = some g → g < lo ∨ hi ≤ g
  blk : Blk w gm 49 mc
  mid : MidW lo hi wb w
section
variable {w w' : World} {base lo hi gm : Nat} {wb : World} {D : Value} {nd : Nat} {LMc mc : List Value} {A : Option Addr} {c : Nat} {FR : List (List Nat)} {vs : List Value}
theorem FrSt.below (h : FrSt w base lo hi gm wb D nd LMc mc A c FR vs) (hb : Below w.heap.size w w') (hh : hi ≤ w.heap.size) : FrSt w' base lo hi gm wb D nd LMc mc A c FR vs :=
  ⟨own_below h.dir hb, h.out.below hb, h.far, h.blk.below hb h.blk.lt, h.mid.trans (MidW.of_below hb hh)⟩
theorem FrSt.push (h : FrSt w base lo hi gm wb D nd LMc mc A c FR vs) {f : List Nat} {a : Option Addr} {k : Nat} (h1 : f.length ≤ k) (h2 : k ≤ 9223372036854775807) (hr : Row w w.heap.size a (u8s f))
    (ha : ∀ ad, a = some ad → ad.block < w.heap.size ∧ (Value.slice A FR.length c).ownBlock ≠ some ad.block ∧ D.ownBlock ≠ some ad.block) {A' : Option Addr} {c' : Nat}
    (hown : w'.ownsRow base 24 1 (.slice A' (FR.length + 1) c') (FR.length + 1) (vs ++ [.slice a f.length k])) (hg : w.grownBy w' (Value.slice A FR.length c).ownBlock)
    (hat : (Value.slice A' (FR.length + 1) c').ownBlock = (Value.slice A FR.length c).ownBlock ∨ (Value.slice A' (FR.length + 1) c').ownBlock = some w.heap.size) (hh : hi ≤ w.heap.size) : FrSt w' base lo hi gm wb D nd LMc mc A' c' (FR ++ [f]) (vs ++ [.slice a f.length k]) := by
  refine ⟨h.dir.kept hg h.out.ne, h.out.push h1 h2 hr ha (own_row_lt h.dir) hown hg hat, fun g e => ?_, h.blk.grown hg (own_ne h.out.own h.blk (by decide)), h.mid.trans (MidW.of_grown hg hh h.far)⟩
  rw [show (FR ++ [f]).length = FR.length + 1 by simp] at e
  rcases hat with e2 | e2
  · rw [e2] at e; exact h.far g e
  · rw [e2] at e
    injection e with e
    omega
end
theorem frTo_bd {size : Nat} {SS : List SampV} (h : ∀ s ∈ SS, Fine s) : ∀ m, (frTo size SS m).length ≤ 20 * m
  | 0 => Nat.le_refl _
  | m + 1 => by
    have ih := frTo_bd (size := size) h m
    cases hs : SS[m]? with
    | none =>
      show (frTo size SS m ++ (match SS[m]? with | some s => _ | none => _)).length ≤ _
      rw [hs, List.append_nil]
      omega
    | some s =>
      have hf := h s (List.mem_of_getElem? hs)
      rw [frTo_succ hs, List.length_append, frS_len]
      have h1 : countN (len0 s.rows) ≤ 10 := by
        obtain ⟨r, hr, e⟩ := len0_mem hf.pos
        rw [← e]
        have := (hf.good.2 r hr).1
        unfold countN
        omega
      have := Nat.mul_le_mul h1 hf.good.1
      omega
theorem frAt_of {size : Nat} {s : SampV} {q k len : Nat} {d : List Int} {x : FrameV} (hl : s.rows.length = len) (hk : k < len) (hd : s.rows[k]? = some d) (hx : (framesZ d size)[q]? = some x) : frAt size s (q * len + k) = frameBytes x size := by
  have h1 : (q * len + k) % len = k := by rw [Nat.mul_comm, Nat.mul_add_mod, Nat.mod_eq_of_lt hk]
  have h2 : (q * len + k) / len = q := by rw [Nat.mul_comm, Nat.mul_add_div (by omega), Nat.div_eq_of_lt hk]; omega
  unfold frAt
  rw [hl, h1, h2, hd]
  simp only
  rw [hx]
end Go.Proofs.YtoagdidkadfekaaGreatDoor
