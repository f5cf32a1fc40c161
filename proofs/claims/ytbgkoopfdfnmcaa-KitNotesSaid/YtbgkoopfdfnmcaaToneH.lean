/- The law ToneFinds; conditions: as each theorem states. -/
import Derived.Test.YtbgkoopfdfnmcaaToneG
namespace Go.Proofs.Ytbgkoopfdfnmcaa
open Go.RowKit

def pickT (b : List Int) (k : Nat) : Bool := isTone b (k : Int) && decide (aheadZ b k ≤ 1)
def preT (b : List Int) (m : Nat) : List ToneV := ((List.range m).filter (pickT b)).map (toneAt b)
theorem preT_all (b : List Int) : preT b 16 = findT b := rfl
theorem preT_succ (b : List Int) (m : Nat) : preT b (m + 1) = preT b m ++ if pickT b m = true then [toneAt b m] else [] := by
  unfold preT
  rw [List.range_succ, List.filter_append, List.map_append]
  congr 1
  cases h : pickT b m <;> simp [h]
theorem preT_len (b : List Int) (m : Nat) : (preT b m).length ≤ m := by
  unfold preT
  have := List.length_filter_le (pickT b) (List.range m)
  simpa using this
theorem preT_prefix (b : List Int) (k : Nat) : ∀ (m : Nat), ∃ r, preT b (k + m) = preT b k ++ r
  | 0 => ⟨[], by simp⟩
  | m + 1 => by
    obtain ⟨r, hr⟩ := preT_prefix b k m
    exact ⟨r ++ _, by rw [← Nat.add_assoc, preT_succ, hr, List.append_assoc]⟩
theorem preT_at (b : List Int) (k : Nat) (hk : k < 16) (hp : pickT b k = true) : (findT b)[(preT b k).length]? = some (toneAt b k) := by
  obtain ⟨r, hr⟩ := preT_prefix b (k + 1) (15 - k)
  rw [← preT_all, show 16 = k + 1 + (15 - k) by omega, hr, preT_succ, hp]
  simp
theorem tone_row {w : World} {B : Nat} {A : Option Addr} {ts : List ToneV} (hr : Row w B A (toneCells ts)) {k : Nat} {t : ToneV} (h : ts[k]? = some t) :
    ∃ b off, A = some ⟨b, off, none⟩ ∧ b < B ∧ w.cell? ⟨b, off + k * 2, none⟩ = some (.int .i64 t.idx) ∧ w.cell? ⟨b, off + k * 2 + 1, none⟩ = some (.int .i64 t.val) := by
  have h0 : (toneCells ts)[k * 2 + 0]? = some (.int .i64 t.idx) := by
    unfold toneCells
    rw [flat_get 2 (ts.map ToneV.cells) (fun cs hcs => by obtain ⟨z, _, rfl⟩ := List.mem_map.1 hcs; rfl) k 0 (by omega)]
    simp [h, ToneV.cells]
  have h1 : (toneCells ts)[k * 2 + 1]? = some (.int .i64 t.val) := by
    unfold toneCells
    rw [flat_get 2 (ts.map ToneV.cells) (fun cs hcs => by obtain ⟨z, _, rfl⟩ := List.mem_map.1 hcs; rfl) k 1 (by omega)]
    simp [h, ToneV.cells]
  obtain ⟨b, off, hA, hb, hc⟩ := hr _ _ h0
  obtain ⟨b', off', hA', _, hc'⟩ := hr _ _ h1
  rw [hA] at hA'
  injection hA' with hA'
  injection hA' with e1 e2
  subst e1 e2
  exact ⟨b, off, hA, hb, by simpa using hc, by rw [Nat.add_assoc]; exact hc'⟩

end Go.Proofs.Ytbgkoopfdfnmcaa
