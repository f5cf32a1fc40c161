/- QuotaA, QuotaB. Conditions: as each theorem states. -/
import Derived.Test.YtbgkoopfdfnmcaaQc41

namespace Go.Proofs.Ytbgkoopfdfnmcaa
open Go.RowKit

def goodB (room : Int) (ss : List SampV) (size : Int) : Bool := decide (0 < imageZ size ss) && decide (imageZ size ss ≤ room)
/-- the greatest frame of the first so many whose image has room -/
def bestTo (room : Int) (ss : List SampV) : Nat → Int
  | 0 => 0
  | m + 1 => if goodB room ss (24 + (m : Int)) = true then 24 + (m : Int) else bestTo room ss m
theorem imageZ_bd (size : Int) (ss : List SampV) (hl : ss.length ≤ 19) : 0 ≤ imageZ size ss ∧ imageZ size ss ≤ 1000000000 := by
  unfold imageZ
  split
  · omega
  · rename_i h
    have h3 : checkAllZ ss = 0 := by
      rcases Int.lt_trichotomy (checkAllZ ss) 0 with h2 | h2 | h2
      · exact absurd (Or.inr (Or.inr (by omega))) h
      · exact h2
      · exact absurd (Or.inr (Or.inr (by omega))) h
    have hb := imgTo_bd size (16 + ss.length * 64 + 4) (by omega) (by omega) (by omega) (sortS ss) (fun s hs => check_all h3 s ((sortS_perm ss).subset hs))
    rw [(sortS_perm ss).length_eq] at hb
    unfold upZ
    omega

end Go.Proofs.Ytbgkoopfdfnmcaa

namespace Go.Proofs.Ytbgkoopfdfnmcaa
open Go.RowKit

abbrev sampTy : Ty := .pair (.str) 1 (.pair (.int .i64) 1 (.pair (.bool) 1 (.pair (.int .i64) 1 (.pair (.int .i64) 1 (.pair (.slice 1 (.slice 1 (.int .i64))) 1 (.unit))))))
def NameFits (p : HSamp × SampV) : Prop := p.2.name.size ≤ 9223372036854775807
theorem samp_shape {w : World} {cs : List Value} (h : Shape w sampTy cs) : ∃ p : HSamp × SampV, cs = p.1.cells ∧ p.1.fits w w.heap.size p.2 ∧ NameFits p := by
  obtain ⟨c1, r1, rfl, ⟨nm, rfl, hnm⟩, c2, r2, rfl, ⟨rate, rfl, _, _⟩, c3, r3, rfl, ⟨lp, rfl⟩, c4, r4, rfl, ⟨f, rfl, _, _⟩, c5, r5, rfl, ⟨t, rfl, _, _⟩, c6, r6, rfl, hd, rfl⟩ := h
  obtain ⟨a, cap, vs, rows, rfl, h1, h2, h3, h4, _⟩ := mat_of_shape hd
  exact ⟨(⟨nm, rate, lp, f, t, a, rows.length, cap⟩, ⟨nm, rate, lp, f, t, rows⟩), rfl, ⟨⟨rfl, rfl, rfl, rfl, rfl, rfl⟩, h1, h2, vs, h3, h4⟩, hnm⟩
theorem samps_of {w : World} : ∀ (css : List (List Value)), (∀ cs ∈ css, Shape w sampTy cs) → ∃ L : List (HSamp × SampV), css = L.map (fun p => p.1.cells) ∧ (∀ p ∈ L, p.1.fits w w.heap.size p.2) ∧ ∀ p ∈ L, NameFits p
  | [], _ => ⟨[], rfl, nofun, nofun⟩
  | cs :: r, h => by
    obtain ⟨p, rfl, h1, h2⟩ := samp_shape (h cs (by simp))
    obtain ⟨L, rfl, h3, h4⟩ := samps_of r (fun c hc => h c (by simp [hc]))
    refine ⟨p :: L, rfl, fun q hq => ?_, fun q hq => ?_⟩
    · rcases List.mem_cons.1 hq with rfl | hq
      · exact h1
      · exact h3 q hq
    · rcases List.mem_cons.1 hq with rfl | hq
      · exact h2
      · exact h4 q hq
/-- a slice of samples that came in -/
theorem samps_arg {w : World} {v : Value} (h : Arg w (.slice 6 sampTy) v) :
    ∃ (L : List (HSamp × SampV)) (A : Option Addr) (cap : Nat), v = .slice A L.length cap ∧ L.length ≤ cap ∧ cap ≤ 9223372036854775807 ∧ (A = none → cap = 0) ∧ SampsAt w w.heap.size A L ∧ ∀ p ∈ L, NameFits p := by
  obtain ⟨a, len, cap, hv, h1, h2, h3, h4⟩ := h
  obtain ⟨css, hl, _, hs, hrow⟩ := rows_of_shape h4
  obtain ⟨L, rfl, hf, hn⟩ := samps_of css hs
  rw [List.length_map] at hl
  injection hv with hv
  subst hv hl
  exact ⟨L, a, cap, rfl, h1, h2, fun ha => (h3 ha).2, ⟨hrow, hf⟩, hn⟩

/-! One sample of one channel. -/
def oneH (nm : ByteArray) (g : Nat) : HSamp := ⟨nm, 1, false, 0, 0, some ⟨g, 0, none⟩, 1, 1⟩
def oneS (nm : ByteArray) (xs : List Int) : SampV := ⟨nm, 1, false, 0, 0, [xs]⟩
theorem one_at (w : World) (nm : ByteArray) (xs : List Int) (n : Nat) (hn : xs.length = n) (h63 : n ≤ 9223372036854775807) (t1 t2 t3 : TypeId) :
    SampsAt (((w.alloc (.cells (xs.map (Value.int .i64)).toArray t1)).alloc (.cells #[.slice (some ⟨w.heap.size, 0, none⟩) n n] t2)).alloc (.cells (oneH nm (w.heap.size + 1)).cells.toArray t3)) (w.heap.size + 3) (some ⟨w.heap.size + 2, 0, none⟩) [(oneH nm (w.heap.size + 1), oneS nm xs)] := by
  have h1 := Row.new w t1 (xs.map (Value.int .i64))
  have h2 := Row.new (w.alloc (.cells (xs.map (Value.int .i64)).toArray t1)) t2 [.slice (some ⟨w.heap.size, 0, none⟩) n n]
  have h3 := Row.new ((w.alloc (.cells (xs.map (Value.int .i64)).toArray t1)).alloc (.cells #[.slice (some ⟨w.heap.size, 0, none⟩) n n] t2)) t3 (oneH nm (w.heap.size + 1)).cells
  simp only [World.size_alloc] at h2 h3
  refine ⟨by simpa [headCells] using h3, fun p hp => ?_⟩
  rw [List.mem_singleton] at hp
  subst hp
  have hb2 : Below (w.heap.size + 1) (w.alloc (.cells (xs.map (Value.int .i64)).toArray t1)) (((w.alloc (.cells (xs.map (Value.int .i64)).toArray t1)).alloc (.cells #[.slice (some ⟨w.heap.size, 0, none⟩) n n] t2)).alloc (.cells (oneH nm (w.heap.size + 1)).cells.toArray t3)) :=
    ((Below.refl _ _).alloc (by simp) _).alloc (by simp) _
  have hb3 : Below (w.heap.size + 2) ((w.alloc (.cells (xs.map (Value.int .i64)).toArray t1)).alloc (.cells #[.slice (some ⟨w.heap.size, 0, none⟩) n n] t2)) (((w.alloc (.cells (xs.map (Value.int .i64)).toArray t1)).alloc (.cells #[.slice (some ⟨w.heap.size, 0, none⟩) n n] t2)).alloc (.cells (oneH nm (w.heap.size + 1)).cells.toArray t3)) :=
    (Below.refl _ _).alloc (by simp) _
  refine ⟨⟨rfl, rfl, rfl, rfl, rfl, rfl⟩, Nat.le_refl _, by show (1 : Nat) ≤ _; omega, [.slice (some ⟨w.heap.size, 0, none⟩) n n], (h2.below hb3).more (by omega), rfl, fun i v ys hv hy => ?_⟩
  cases i with
  | zero =>
    simp [oneS] at hv hy
    subst hv hy
    exact ⟨_, n, by rw [hn], by omega, h63, (h1.below hb2).more (by omega)⟩
  | succ i => simp at hv
theorem one_check (nm : ByteArray) (xs : List Int) (h : (oneS nm xs).check = 0) : checkAllZ [oneS nm xs] = 0 := by
  unfold checkAllZ firstBad firstBad dupZ adjTo
  simp [h]
theorem one_sort (s : SampV) : sortS [s] = [s] := List.perm_singleton.1 (sortS_perm [s])
theorem one_image : imageZ 24 [oneS ⟨#[97]⟩ [5]] = 128 := by
  unfold imageZ
  rw [one_check _ _ (by decide +kernel), one_sort]
  decide +kernel

set_option maxRecDepth 100000 in
set_option maxHeartbeats 2000000 in
theorem awake43_any (w : World) : Calls Try.prog 25 #[] w fun e w' => e = .returned (.bool true) ∧ Below w.heap.size w w' := by
  have HI := Lib.hid (Image_any 24 [(oneH ⟨#[97]⟩ (w.heap.size + 1), oneS ⟨#[97]⟩ [5])] (some ⟨w.heap.size + 2, 0, none⟩) 1 _ (by simp) nofun ((one_at w ⟨#[97]⟩ [5] 1 rfl (by omega) 3 79 51).more (by simp)))
  rw [show [(oneH ⟨#[97]⟩ (w.heap.size + 1), oneS ⟨#[97]⟩ [5])].map (·.2) = [oneS ⟨#[97]⟩ [5]] from rfl, one_image] at HI
  go_enter Try.func25, Try.ntmps25
  go_wp2_with fail
  refine HI.out.mono ?_
  rintro e w1 ⟨rfl, hb1⟩
  go_wp2_with fail
  go_ret
  exact ⟨rfl, (((bnew w _).alloc (by simp) _).alloc (by simp; omega) _).trans (hb1.mono (by simp; omega))⟩

end Go.Proofs.Ytbgkoopfdfnmcaa
