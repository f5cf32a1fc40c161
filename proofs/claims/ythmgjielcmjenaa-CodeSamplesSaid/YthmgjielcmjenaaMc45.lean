/- WrA. Conditions: as each theorem states. -/
import Derived.Laws.OwnMore
import Derived.Lib.Zigzag
import Derived.Laws.BitsAllLaws
import Derived.Test.YthmgjielcmjenaaMc01
import Derived.Test.YthmgjielcmjenaaMc04
import Derived.Test.YthmgjielcmjenaaMc07

namespace Go.Proofs.Ythmgjielcmjenaa
open Go.RowKit

def u8s (l : List Nat) : List Value := l.map fun (x : Nat) => Value.int .u8 (x : Int)
theorem inf_u8 : (Try.prog.info? 5).map (fun i => (i.zero, i.size, i.bytes)) = some (some (.int .u8 0), 1, 1) := by kernel_rfl

theorem u8s_get {l : List Nat} {i x : Nat} (h : l[i]? = some x) : (u8s l)[i]? = some (.int .u8 (x : Int)) := by unfold u8s; rw [List.getElem?_map, h]; rfl
theorem u8s_len (l : List Nat) : (u8s l).length = l.length := by simp [u8s]
theorem u8s_one (l : List Nat) : ∀ u ∈ u8s l, u.oneCell' = true := by
  intro u hu
  unfold u8s at hu
  obtain ⟨x, _, rfl⟩ := List.mem_map.1 hu
  rfl
/-- a bit of a number, as it is taken out -/
theorem bit_shr (v i : Nat) : (v : Int) / 2 ^ i % 2 = (bitK v i : Int) := by
  unfold bitK
  rw [show (2 : Int) ^ i = ((2 ^ i : Nat) : Int) by rw [Int.natCast_pow]; rfl]
  omega
theorem put_byte {M : List Nat} (hM : Bin M) {b : Nat} (hb : b ≤ 1) : bits .or .u8 (byteAt M (M.length / 8) : Int) ((b * 2 ^ (7 - M.length % 8) : Nat) : Int) = ((byteAt M (M.length / 8) + b * 2 ^ (7 - M.length % 8) : Nat) : Int) := by
  have h1 := byteAt_lt hM (M.length / 8)
  have h2 : 2 ^ (7 - M.length % 8) ≤ 2 ^ 7 := Nat.pow_le_pow_right (by decide) (by omega)
  have h3 : b * 2 ^ (7 - M.length % 8) < 256 := by
    rcases Nat.lt_or_ge b 1 with h | h
    · have : b = 0 := by omega
      subst this; omega
    · have : b = 1 := by omega
      subst this; omega
  rw [u8_or_nat _ _ h1 h3]
  have h4 := byteAt_low M
  rw [show 8 - M.length % 8 = (7 - M.length % 8) + 1 by omega] at h4
  rw [or_add h4 hb]

theorem own_later {w w' : World} {base : Nat} {e : TypeId} {size n : Nat} {v : Value} {xs : List Value} (h : w.ownsRow base e size v n xs) (hb : Below w.heap.size w w') : w'.ownsRow base e size v n xs := by
  obtain ⟨h1, h2⟩ := h
  refine ⟨h1, ?_⟩
  rcases h2 with h2 | ⟨g, cap, cur, hv, hg, hh, r⟩
  · exact .inl h2
  · exact .inr ⟨g, cap, cur, hv, hg, hkeep hh hb, r⟩
/-- whatever is no bytes, and not the writer, stays -/
def Keeps (g : Nat) (w w' : World) : Prop := ∀ j cs T fr, w.heap[j]? = some (.cells cs T fr) → T ≠ 5 → j ≠ g → w'.heap[j]? = some (.cells cs T fr)
theorem Keeps.refl (g : Nat) (w : World) : Keeps g w w := fun _ _ _ _ h _ _ => h
theorem Keeps.trans {g : Nat} {a b c : World} (h : Keeps g a b) (k : Keeps g b c) : Keeps g a c := fun j cs T fr h1 h2 h3 => k j cs T fr (h j cs T fr h1 h2 h3) h2 h3
theorem Keeps.below {g : Nat} {a b : World} (h : Below a.heap.size a b) : Keeps g a b := fun _ _ _ _ h1 _ _ => hkeep h1 h
theorem own_ne {w : World} {base : Nat} {e : TypeId} {size n : Nat} {v : Value} {xs : List Value} (h : w.ownsRow base e size v n xs) {j : Nat} {cs : Array Value} {T : TypeId} {fr : Nat × Nat} (hj : w.heap[j]? = some (.cells cs T fr)) (hT : T ≠ e) : some j ≠ v.ownBlock := by
  intro hk
  rcases h.2 with ⟨rfl, _⟩ | ⟨g, cap, cur, rfl, _, hg, _⟩
  · simp [Value.ownBlock] at hk
  · have : j = g := by simpa [Value.ownBlock] using hk
    subst this
    rw [hj] at hg
    injection hg with hg
    injection hg with _ hg _
    exact hT hg
theorem Keeps.grown {g : Nat} {a b : World} {base size n : Nat} {v : Value} {xs : List Value} (h : a.grownBy b v.ownBlock) (ho : a.ownsRow base 5 size v n xs) : Keeps g a b := fun j _ _ _ h1 h2 _ => (h.block j (hlt h1) (own_ne ho h1 h2)).trans h1
theorem Keeps.set_g {g o : Nat} {a : World} {u : Value} : Keeps g a (a.setCell ⟨g, o, none⟩ u) := fun j _ _ _ h1 _ h3 => (Below.heap_setCell _ _ _ _ (by simpa using h3)).trans h1
theorem Keeps.set_own {g gg o cc : Nat} {a : World} {u : Value} {base size n m : Nat} {xs : List Value} (ho : a.ownsRow base 5 size (.slice (some ⟨gg, 0, none⟩) m cc) n xs) : Keeps g a (a.setCell ⟨gg, o, none⟩ u) := fun j cs T fr h1 h2 _ => (Below.heap_setCell _ _ _ _ (by
  have := own_ne ho h1 h2
  intro h
  exact this (by simp [Value.ownBlock, h]))).trans h1
end Go.Proofs.Ythmgjielcmjenaa
