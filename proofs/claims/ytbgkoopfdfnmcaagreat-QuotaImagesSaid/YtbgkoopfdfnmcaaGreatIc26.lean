/- FitK, FitL, FitM, FitR. Conditions: as each theorem states. -/
import Derived.Deep.DeepFit
import Derived.Test.YtbgkoopfdfnmcaaGreatIc25
import Derived.Test.YtbgkoopfdfnmcaaGreatIc24

namespace Go.Proofs.YtbgkoopfdfnmcaaGreat
open Go.RowKit

theorem set_same {α : Type} {l : List α} {i : Nat} {x : α} (h : l[i]? = some x) : l.set i x = l := by
  apply List.ext_getElem?
  intro j
  rw [List.getElem?_set]
  by_cases hj : i = j
  · subst hj
    rw [if_pos rfl, if_pos (List.getElem?_eq_some_iff.1 h).1, h]
  · rw [if_neg hj]
end Go.Proofs.YtbgkoopfdfnmcaaGreat

namespace Go.Proofs.YtbgkoopfdfnmcaaGreat
open Go.RowKit

end Go.Proofs.YtbgkoopfdfnmcaaGreat

namespace Go.Proofs.YtbgkoopfdfnmcaaGreat
open Go.RowKit

theorem low23 {b : List Int} (hb : b.length = 16) (h : b.all slimI = true) : Low23 b := by
  intro k hk
  obtain ⟨x, hx⟩ := list_get (k := k) hb hk
  have h1 := List.all_eq_true.1 h x (List.mem_of_getElem? hx)
  unfold slimI at h1
  have h2 := widthZ_bd (k := 23) (of_decide_eq_true h1)
  rw [bgt_get hx]
  unfold absZ at h2
  repeat' split at h2
  all_goals omega
theorem zero4_gain : zero4.length = 4 ∧ ∀ i, i < 4 → 0 ≤ bgt zero4 i ∧ bgt zero4 i ≤ 3 := ⟨rfl, fun i hi => by
  match i, hi with
  | 0, _ | 1, _ | 2, _ | 3, _ => simp [bgt, zero4]⟩
theorem exact_right {b : List Int} (hb : b.length = 16) (h : b.all slimI = true) : RightF (exactZ b) :=
  told_right zero4_gain (by simp) (fun t ht => by simp at ht) List.Pairwise.nil ScB.zero (low23 hb h)
theorem exact_zero : exactZ zero16 = zeroFr := by
  unfold exactZ toldZ
  rw [show outT zero16 [] = zero16 from rfl, exact_steps rfl]
  rfl
theorem Low23.bd {b : List Int} (h : Low23 b) : BdB 2147483648 b := fun k hk => by have := h k hk; omega
/-- the example's spectrum -/
def exB : List Int := [1000, -3, 0, 0, 0, 0, 0, 0, 0, 0, 0, 0, 0, 0, 0, 0]
theorem exB_slim : exB.all slimI = true := by decide +kernel
theorem exB_big : BigB exB := near_big (by decide +kernel)
theorem zero16_big : BigB zero16 := near_big (by decide +kernel)
theorem exB_fit : fitErr exB zero4 55 = 0 := by decide +kernel
theorem exB_fitF : fitF exB zero4 55 = exactZ exB := by unfold fitF; rw [exB_fit, if_pos rfl, if_pos (by decide)]

end Go.Proofs.YtbgkoopfdfnmcaaGreat

namespace Go.Proofs.YtbgkoopfdfnmcaaGreat
open Go.RowKit

theorem gain_of {g : List Int} (hg : g.length = 4) (h : gainOk g = true) : g.length = 4 ∧ ∀ i, i < 4 → 0 ≤ bgt g i ∧ bgt g i ≤ 3 := ⟨hg, fun i hi => by
  obtain ⟨x, hx⟩ := list_get (k := i) hg hi
  have := List.all_eq_true.1 h x (List.mem_of_getElem? hx)
  unfold inB at this
  rw [bgt_get hx]
  simpa using this⟩
theorem low_tones {b : List Int} (hb : b.length = 16) (hl : Low23 b) (tones : Bool) : (tonesFor b tones).length ≤ 2 ∧ (∀ t ∈ tonesFor b tones, 0 ≤ t.idx ∧ t.idx < 16 ∧ -8388608 ≤ t.val ∧ t.val < 8388608) ∧ ((tonesFor b tones).Pairwise fun x y => x.idx < y.idx) ∧ Low23 (outT b (tonesFor b tones)) := by
  have hbig : BigB b := fun k x hx => by
    have hk : k < 16 := by have := (List.getElem?_eq_some_iff.1 hx).1; omega
    have := hl k hk
    rw [bgt_get hx] at this
    omega
  cases tones
  · exact ⟨by simp [tonesFor], fun t ht => by simp [tonesFor] at ht, by simp [tonesFor], by simpa [tonesFor, outT] using hl⟩
  · simp only [tonesFor, if_true]
    refine ⟨findT_len2 hb hbig, fun t ht => ?_, findT_inc b, fun i hi => ?_⟩
    · rw [find_idxs] at ht
      obtain ⟨k, hk, rfl⟩ := List.mem_map.1 ht
      have h16 := idxs_lt b k hk
      have := hl k h16
      unfold toneAt
      simp only
      omega
    · rw [find_idxs, outT_get b i _ b hb (idxs_nodup b) (idxs_lt b)]
      have := hl i hi
      split <;> omega
theorem search_right {b g : List Int} {room : Int} {tones : Bool} (hb : b.length = 16) (hs : b.all slimI = true) (hg : g.length = 4) (hgo : gainOk g = true) : RightF (searchZ b g room tones).1 := by
  obtain ⟨s, n, h, hsc, _⟩ := search_ends b g room tones
  obtain ⟨h1, h2, h3, h4⟩ := low_tones hb (low23 hb hs) tones
  rw [h]
  exact told_right (gain_of hg hgo) h1 h2 h3 hsc h4
theorem search_room {b g : List Int} {room : Int} {tones : Bool} (hb : b.length = 16) (hs : b.all slimI = true) (hr : 192 ≤ room) : bitsZ (searchZ b g room tones).1 ≤ room := by
  obtain ⟨s, n, h, hsc, he⟩ := search_ends b g room tones
  obtain ⟨h1, _, _, h4⟩ := low_tones hb (low23 hb hs) tones
  rw [h]
  rcases he with he | he
  · exact he
  · have := told_room h1 hsc h4 he
    show bitsZ (toldZ b g s (tonesFor b tones)) ≤ room
    omega
theorem fit_right {b g : List Int} {size : Int} (hb : b.length = 16) (hg : g.length = 4) (he : fitErr b g size = 0) : RightF (fitF b g size) ∧ bitsZ (fitF b g size) ≤ 8 * size ∧ 24 ≤ size ∧ size ≤ 96 := by
  have he2 := he
  unfold fitErr at he
  split at he
  · cases he
  · split at he
    · rename_i h1 h2
      rw [Bool.and_eq_true] at h2
      unfold fitF
      rw [he2, if_pos rfl]
      split
      · have hR := exact_right hb h2.1
        refine ⟨hR, ?_, by omega, by omega⟩
        have hw := fun i hi => hR.width i hi
        have w0 := hw 0 (by omega)
        have w1 := hw 1 (by omega)
        have w2 := hw 2 (by omega)
        have w3 := hw 3 (by omega)
        have ht : (exactZ b).tones.length = 0 := rfl
        unfold bitsZ
        omega
      · exact ⟨search_right hb h2.1 hg h2.2, search_room hb h2.1 (by omega), by omega, by omega⟩
    · cases he

end Go.Proofs.YtbgkoopfdfnmcaaGreat
