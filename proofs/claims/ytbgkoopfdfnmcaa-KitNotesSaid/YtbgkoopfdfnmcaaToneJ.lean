/- The law ToneGone; conditions: as each theorem states. -/
import Derived.Test.YtbgkoopfdfnmcaaToneI
import Derived.Deep.WholeRow
namespace Go.Proofs.Ytbgkoopfdfnmcaa
open Go.RowKit

theorem bgt_set (b : List Int) (k i : Nat) (v : Int) (hk : k < b.length) : bgt (b.set k v) i = if k = i then v else bgt b i := by
  unfold bgt
  rw [List.getD_eq_getElem?_getD, List.getD_eq_getElem?_getD, List.getElem?_set]
  split
  · rename_i h; subst h; simp
  · rfl
theorem outT_get (b' : List Int) (i : Nat) : ∀ (ks : List Nat) (b : List Int), b.length = 16 → ks.Nodup → (∀ k ∈ ks, k < 16) → bgt (outT b (ks.map (toneAt b'))) i = if i ∈ ks then bgt b i - bgt b' i else bgt b i
  | [], b, _, _, _ => by simp [outT]
  | k :: r, b, hb, hn, hk => by
    rw [List.nodup_cons] at hn
    have hk16 := hk k (by simp)
    have e : outT b ((k :: r).map (toneAt b')) = outT (b.set k (bgt b k - bgt b' k)) (r.map (toneAt b')) := by
      unfold outT
      rw [List.map_cons, List.foldl_cons]
      congr 1
      unfold outStep toneAt
      simp only
      rw [if_pos (by omega), Int.toNat_natCast]
    rw [e, outT_get b' i r _ (by simp [hb]) hn.2 (fun x hx => hk x (by simp [hx])), bgt_set _ _ _ _ (by omega)]
    by_cases h : k = i
    · subst h
      simp [hn.1]
    · have : i ≠ k := fun e => h e.symm
      simp [h, this]
def idxs (b : List Int) : List Nat := (List.range 16).filter (pickT b)
theorem find_idxs (b : List Int) : findT b = (idxs b).map (toneAt b) := rfl
theorem idxs_nodup (b : List Int) : (idxs b).Nodup := List.nodup_range.filter _
theorem idxs_lt (b : List Int) : ∀ k ∈ idxs b, k < 16 := fun _ hk => List.mem_range.1 (List.mem_filter.1 hk).1
theorem find_big {b : List Int} (hr : BigB b) (hb : b.length = 16) : ∀ t ∈ findT b, t.big := by
  intro t ht
  rw [find_idxs] at ht
  obtain ⟨k, hk, rfl⟩ := List.mem_map.1 ht
  have h16 := idxs_lt b k hk
  obtain ⟨x, hx⟩ := list_get hb h16
  have := hr k x hx
  unfold ToneV.big toneAt
  simp only
  rw [bgt_get hx]
  omega
theorem out_big {b : List Int} (hr : BigB b) (hb : b.length = 16) (m : Nat) : BigB (outT b ((findT b).take m)) := by
  intro i x hx
  have hi : i < 16 := by
    have h1 := (List.getElem?_eq_some_iff.1 hx).1
    rw [outT_len, hb] at h1
    exact h1
  have h1 := bgt_get hx
  rw [find_idxs, ← List.map_take, outT_get b i _ b hb ((idxs_nodup b).sublist (List.take_sublist _ _)) (fun _ hk => idxs_lt b _ (List.mem_of_mem_take hk))] at h1
  obtain ⟨y, hy⟩ := list_get hb hi
  have h2 := hr i y hy
  rw [bgt_get hy] at h1
  split at h1 <;> omega
/-- is a place one of the first tones found? -/
def foundTo (b : List Int) (i m : Nat) : Bool := ((findT b).take m).any fun t => decide (t.idx = (i : Int))
theorem foundTo_succ (b : List Int) (i : Nat) {m : Nat} {t : ToneV} (h : (findT b)[m]? = some t) : foundTo b i (m + 1) = (foundTo b i m || decide (t.idx = (i : Int))) := by
  obtain ⟨hm, rfl⟩ := List.getElem?_eq_some_iff.1 h
  unfold foundTo
  rw [List.take_succ_eq_append_getElem hm, List.any_append]
  simp
theorem found_out (b : List Int) (hb : b.length = 16) (i m : Nat) (hm : (findT b).length ≤ m) : bgt (outT b (findT b)) i = if foundTo b i m = true then 0 else bgt b i := by
  have h1 : foundTo b i m = decide (i ∈ idxs b) := by
    unfold foundTo
    rw [List.take_of_length_le hm, find_idxs, List.any_map, Bool.eq_iff_iff, List.any_eq_true, decide_eq_true_eq]
    constructor
    · rintro ⟨a, h, h2⟩
      have h3 : ((a : Int)) = (i : Int) := of_decide_eq_true h2
      have : a = i := by omega
      subst this; exact h
    · intro h
      exact ⟨i, h, by simp [Function.comp, toneAt]⟩
  rw [h1, find_idxs, outT_get b i _ b hb (idxs_nodup b) (idxs_lt b)]
  by_cases h : i ∈ idxs b <;> simp [h]

end Go.Proofs.Ytbgkoopfdfnmcaa
