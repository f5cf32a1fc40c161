/- BldArg. Conditions: as each theorem states. -/
import Derived.Test.YtgcfkblmnpnogaaGreatDoorPg44

namespace Go.Proofs.YtgcfkblmnpnogaaGreatDoor
open Go.RowKit Go.Lib

theorem flat_bytes3 : ∀ (css : List (List Value)), (∀ cs ∈ css, ∃ n : Int, cs = [.int .u8 n] ∧ IntKind.u8.min ≤ n ∧ n ≤ IntKind.u8.max) → ∃ B : List Nat, B.length = css.length ∧ css.flatten = u8s B ∧ ∀ x ∈ B, x < 256
  | [], _ => ⟨[], rfl, rfl, nofun⟩
  | cs :: r, h => by
    obtain ⟨B, h1, h2, h3⟩ := flat_bytes3 r (fun c hc => h c (by simp [hc]))
    obtain ⟨n, rfl, h4, h5⟩ := h cs (by simp)
    have h4 : 0 ≤ n := h4
    have h5 : n ≤ 255 := h5
    obtain ⟨k, rfl⟩ := Int.eq_ofNat_of_zero_le h4
    refine ⟨k :: B, by simp [h1], by rw [List.flatten_cons, h2]; rfl, fun x hx => ?_⟩
    rcases List.mem_cons.1 hx with rfl | hx
    · omega
    · exact h3 x hx
theorem byte_shape {w : World} {cs : List Value} (h : Shape w (.slice 1 (.int .u8)) cs) : ∃ (f : List Nat) (a : Option Addr) (c : Nat), cs = [.slice a f.length c] ∧ f.length ≤ c ∧ c ≤ 9223372036854775807 ∧ Row w w.heap.size a (u8s f) ∧ Byt f := by
  obtain ⟨a, len, cap, hv, h1, h2, _, h4⟩ := h
  obtain ⟨css, hl, _, hs, hrow⟩ := rows_of_shape h4
  obtain ⟨B, hB, hf, hb⟩ := flat_bytes3 css hs
  rw [hf] at hrow
  exact ⟨B, a, cap, by rw [hv, hB, hl], by omega, h2, hrow, hb⟩
theorem brows_of {w : World} : ∀ (css : List (List Value)), (∀ cs ∈ css, Shape w (.slice 1 (.int .u8)) cs) → ∃ FR : List (List Nat), FR.length = css.length ∧ css.flatten.length = FR.length ∧ (∀ f ∈ FR, Byt f) ∧ ∀ (j : Nat) v f, css.flatten[j]? = some v → FR[j]? = some f → ∃ a c, v = .slice a f.length c ∧ f.length ≤ c ∧ c ≤ 9223372036854775807 ∧ Row w w.heap.size a (u8s f)
  | [], _ => ⟨[], rfl, rfl, nofun, fun j v f h => by simp at h⟩
  | cs :: r, h => by
    obtain ⟨FR, h1, h2, h3, h4⟩ := brows_of r (fun c hc => h c (by simp [hc]))
    obtain ⟨f, a, c, rfl, q1, q2, q3, q4⟩ := byte_shape (h cs (by simp))
    refine ⟨f :: FR, by simp [h1], by simp [h2], fun x hx => ?_, fun j v g hv hg => ?_⟩
    · rcases List.mem_cons.1 hx with rfl | hx
      · exact q4
      · exact h3 x hx
    · cases j with
      | zero =>
        simp at hv hg
        subst hv hg
        exact ⟨a, c, rfl, q1, q2, q3⟩
      | succ j => exact h4 j v g (by simpa using hv) (by simpa using hg)
/-- rows of bytes that came in -/
theorem brows_arg {w : World} {v : Value} (h : Arg w (.slice 1 (.slice 1 (.int .u8))) v) :
    ∃ (FR : List (List Nat)) (A : Option Addr) (cap : Nat), v = .slice A FR.length cap ∧ FR.length ≤ cap ∧ cap ≤ 9223372036854775807 ∧ (A = none → cap = 0) ∧ (∀ f ∈ FR, Byt f) ∧ BRows w w.heap.size A FR := by
  obtain ⟨a, len, cap, hv, h1, h2, h3, h4⟩ := h
  obtain ⟨css, hl, _, hs, hrow⟩ := rows_of_shape h4
  obtain ⟨FR, q1, q2, q3, q4⟩ := brows_of css hs
  injection hv with hv
  subst hv
  exact ⟨FR, a, cap, by rw [q1, hl], by omega, h2, fun ha => (h3 ha).2, q3, css.flatten, q2, hrow, q4⟩
abbrev metaTy : Ty := .pair (.str) 1 (.pair (.int .i64) 1 (.pair (.int .i64) 1 (.pair (.int .i64) 1 (.pair (.bool) 1 (.pair (.int .i64) 1 (.pair (.int .i64) 1 (.pair (.int .i64) 1 (.pair (.int .i64) 1 (.unit)))))))))
/-- a meta's numbers are int64s -/
structure M64 (x : MetaV) : Prop where
  len : -9223372036854775808 ≤ x.length ∧ x.length ≤ 9223372036854775807
  ch : -9223372036854775808 ≤ x.channels ∧ x.channels ≤ 9223372036854775807
  name : x.name.size ≤ 9223372036854775807
theorem meta_shape {w : World} {cs : List Value} (h : Shape w metaTy cs) : ∃ x : MetaV, cs = x.cells ∧ M64 x := by
  obtain ⟨c1, r1, rfl, ⟨nm, rfl, hnm⟩, c2, r2, rfl, ⟨len, rfl, l1, l2⟩, c3, r3, rfl, ⟨rate, rfl, _, _⟩, c4, r4, rfl, ⟨ch, rfl, q1, q2⟩, c5, r5, rfl, ⟨lp, rfl⟩, c6, r6, rfl, ⟨f, rfl, _, _⟩, c7, r7, rfl, ⟨t, rfl, _, _⟩, c8, r8, rfl, ⟨s, rfl, _, _⟩, c9, r9, rfl, ⟨fi, rfl, _, _⟩, rfl⟩ := h
  exact ⟨⟨nm, len, rate, ch, lp, f, t, s, fi⟩, rfl, ⟨⟨l1, l2⟩, ⟨q1, q2⟩, hnm⟩⟩
theorem metas_of {w : World} : ∀ (css : List (List Value)), (∀ cs ∈ css, Shape w metaTy cs) → ∃ L : List MetaV, L.length = css.length ∧ css.flatten = metaCells L ∧ ∀ x ∈ L, M64 x
  | [], _ => ⟨[], rfl, rfl, nofun⟩
  | cs :: r, h => by
    obtain ⟨x, rfl, h1⟩ := meta_shape (h cs (by simp))
    obtain ⟨L, h2, h3, h4⟩ := metas_of r (fun c hc => h c (by simp [hc]))
    refine ⟨x :: L, by simp [h2], by rw [List.flatten_cons, h3]; rfl, fun q hq => ?_⟩
    rcases List.mem_cons.1 hq with rfl | hq
    · exact h1
    · exact h4 q hq
/-- a directory that came in -/
theorem metas_arg {w : World} {v : Value} (h : Arg w (.slice 9 metaTy) v) :
    ∃ (D : List MetaV) (A : Option Addr) (cap : Nat), v = .slice A D.length cap ∧ D.length ≤ cap ∧ cap ≤ 9223372036854775807 ∧ (A = none → cap = 0) ∧ Row w w.heap.size A (metaCells D) ∧ ∀ x ∈ D, M64 x := by
  obtain ⟨a, len, cap, hv, h1, h2, h3, h4⟩ := h
  obtain ⟨css, hl, _, hs, hrow⟩ := rows_of_shape h4
  obtain ⟨D, q1, q2, q3⟩ := metas_of css hs
  injection hv with hv
  subst hv
  rw [q2] at hrow
  exact ⟨D, a, cap, by rw [q1, hl], by omega, h2, fun ha => (h3 ha).2, hrow, q3⟩
end Go.Proofs.YtgcfkblmnpnogaaGreatDoor
