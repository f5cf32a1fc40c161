/- ParE, ParD. Conditions: as each theorem states. -/
import Derived.Laws.StructEq
import Derived.Test.YtgcfkblmnpnogaaGreatDoorPh35
import Derived.Test.YtgcfkblmnpnogaaGreatDoorPh36
import Derived.Test.YtgcfkblmnpnogaaGreatDoorPh38
import Derived.Test.YtgcfkblmnpnogaaGreatDoorPh37

namespace Go.Proofs.YtgcfkblmnpnogaaGreatDoor
open Go.RowKit Go.Lib Go.Shelf

theorem metaNeq : NeqAt Tryz.prog 27 (fun x => .agg (MetaV.cells x).toArray) MetaV.same := by
  refine ⟨fun x y w => ?_, GuardAt.agg _ (by kernel_rfl)⟩
  have u3 := Tryz.underlying3
  have a3 := Tryz.isAgg3
  have z3 := Tryz.sizeOf3
  have u4 := Tryz.underlying9
  have a4 := Tryz.isAgg9
  have z4 := Tryz.sizeOf9
  have u5 := Tryz.underlying4
  have a5 := Tryz.isAgg4
  have z5 := Tryz.sizeOf4
  have hS : Tryz.prog.underlying 27 = some (.struct (Tryz.prog.fieldsOf 27)) := by kernel_rfl
  have hp : Tryz.prog.stoodInHeld 27 = false := by kernel_rfl
  simp only [MetaV.cells]
  rw [run_neq_struct, show (10000 : Nat) = 9999 + 1 from rfl, run_equalIn_agg w 9999 _ _ _ hS hp]
  simp only [Program.fieldsOf, Tryz.underlying27]
  go_simp
  unfold MetaV.same
  rcases Classical.em (x.name.toList = y.name.toList) with h1 | h1
  rotate_left
  · rw [if_neg h1]
    simp [h1]
  rw [if_pos h1]
  rcases Classical.em (x.length = y.length) with h2 | h2
  rotate_left
  · rw [if_neg h2]
    simp [h1, h2]
  rw [if_pos h2]
  rcases Classical.em (x.rate = y.rate) with h3 | h3
  rotate_left
  · rw [if_neg h3]
    simp [h1, h2, h3]
  rw [if_pos h3]
  rcases Classical.em (x.channels = y.channels) with h4 | h4
  rotate_left
  · rw [if_neg h4]
    simp [h1, h2, h3, h4]
  rw [if_pos h4]
  rcases Classical.em (x.loop = y.loop) with h5 | h5
  rotate_left
  · rw [if_neg h5]
    simp [h1, h2, h3, h4, h5]
  rw [if_pos h5]
  rcases Classical.em (x.from_ = y.from_) with h6 | h6
  rotate_left
  · rw [if_neg h6]
    simp [h1, h2, h3, h4, h5, h6]
  rw [if_pos h6]
  rcases Classical.em (x.to_ = y.to_) with h7 | h7
  rotate_left
  · rw [if_neg h7]
    simp [h1, h2, h3, h4, h5, h6, h7]
  rw [if_pos h7]
  rcases Classical.em (x.sums = y.sums) with h8 | h8
  rotate_left
  · rw [if_neg h8]
    simp [h1, h2, h3, h4, h5, h6, h7, h8]
  rw [if_pos h8]
  rcases Classical.em (x.first = y.first) with h9 | h9
  rotate_left
  · rw [if_neg h9]
    simp [h1, h2, h3, h4, h5, h6, h7, h8, h9]
  rw [if_pos h9]
  simp [h1, h2, h3, h4, h5, h6, h7, h8, h9]
instance : Inhabited MetaV := ⟨⟨ByteArray.empty, 0, 0, 0, false, 0, 0, 0, 0⟩⟩
theorem meta_cells_at {w : World} {B b off : Nat} {L : List MetaV} (hr : Row w B (some ⟨b, off, none⟩) (metaCells L)) : ∀ j, j < L.length → ∀ i v, (MetaV.cells L[j]!)[i]? = some v → w.cell? ⟨b, off + j * 9 + i, none⟩ = some v := fun j hj i v hv => by
  have h : L[j]? = some L[j]! := by rw [getElem!_pos L j hj, List.getElem?_eq_getElem hj]
  obtain ⟨b', off', hA, _, hc⟩ := meta_at hr h
  injection hA with hA
  injection hA with e1 e2
  subst e1 e2
  exact hc i v hv
theorem metaEqual_any (L M : List MetaV) (A B : Option Addr) (n c d : Nat) (w : World) (hL : L.length = n) (hM : M.length = n) (hn : n ≤ 1000000) (hr1 : Row w w.heap.size A (metaCells L)) (hr2 : Row w w.heap.size B (metaCells M)) :
    Calls Tryz.prog 78 #[.slice A n c, .slice B n d] w fun e w' => e = .returned (.bool (allEq MetaV.same L M)) ∧ Below w.heap.size w w' := by
  rcases Nat.eq_zero_or_pos n with h0 | h0
  · subst h0
    obtain rfl := List.eq_nil_of_length_eq_zero hL
    obtain rfl := List.eq_nil_of_length_eq_zero hM
    go_enter Tryz.func78, Tryz.ntmps78
    go_wp2
    refine wp_loop_rounds 1 ?_
    rw [rounds_succ]
    go_wp2
    go_ret
    exact ⟨rfl, Below.refl _ _⟩
  · obtain ⟨x, hx⟩ := list_get (k := 0) hL h0
    obtain ⟨y, hy⟩ := list_get (k := 0) hM h0
    obtain ⟨b1, o1, rfl, _, _⟩ := meta_at hr1 hx
    obtain ⟨b2, o2, rfl, _, _⟩ := meta_at hr2 hy
    have hcon := AnyQ.slices_Equal metaEq 9 Tryz.isAgg27 Tryz.sizeOf27 MetaV.cells (fun _ => rfl) MetaV.same metaNeq b1 o1 n c b2 o2 n d L M w (by omega) (by omega) (by omega) (by omega) (meta_cells_at hr1) (meta_cells_at hr2)
    rw [List.take_of_length_le (by omega), List.take_of_length_le (by omega)] at hcon
    refine hcon.mono ?_
    rintro e w' ⟨he, q, rfl⟩
    exact ⟨he, below_drewN (Below.refl _ _) _⟩
end Go.Proofs.YtgcfkblmnpnogaaGreatDoor

namespace Go.Proofs.YtgcfkblmnpnogaaGreatDoor
open Go.RowKit Go.Lib

theorem step_app {P : Program} {ops : Array Oper} {o : Oper} {a : Act} {w : World} {K : Act → World → Prop} {Q : Exit → Act → World → Prop} {E : Prop}
    (hg : o.guard = none) (s x : Operand) (t : TypeId) (hop : o.op = Op.call { callee := Callee.builtin Builtin.append, args := #[s, x], argTypes := #[t, t] })
    (base : Nat) (e : TypeId) (i : TypeInfo) (z : Value) (size bytes : Nat) (ht : P.underlying t = some (.slice e)) (hi : P.info? e = some i) (hz : i.zero = some z)
    (hsize : i.size = size) (hby : i.bytes = bytes) (hzs : z.cells.size = size) (hsz : 0 < size)
    (v : Value) (n : Nat) (xs : List Value) (hs : a.eval s = v) (hown : w.ownsRow base e size v n xs)
    (B : Nat) (A : Option Addr) (m c : Nat) (news : List Value) (hx : a.eval x = .slice A m c) (hl : news.length = m * size) (hr : Row w B A news) (h1 : ∀ u ∈ news, u.oneCell' = true)
    (h63 : n + m ≤ 9223372036854775807) (hbytes : (n + m) * bytes ≤ 140737488355328) (hbase : base ≤ w.heap.size)
    (hK : ∀ A' c' w', w'.ownsRow base e size (.slice A' (n + m) c') (n + m) (xs ++ news) → w.grownBy w' v.ownBlock →
      ((Value.slice A' (n + m) c').ownBlock = v.ownBlock ∨ (Value.slice A' (n + m) c').ownBlock = some w.heap.size) → n + m ≤ c' → K (a.put o.dst (.slice A' (n + m) c')) w') :
    if Region.wanted o (yielded ops a.tmps) = true then Oper.wp P o a w K Q else E := by
  have hw : Region.wanted o (yielded ops a.tmps) = true := by simp [Region.wanted, hg]
  rw [if_pos hw]
  obtain ⟨A', c', w', hrun, h2, h3, h4, h5⟩ := run_app (P := P) w base t o.type e i z size bytes ht hi hz hsize hby hzs hsz v n xs hown B A m c news hl hr h1 h63 hbytes hbase
  unfold Oper.wp
  simp [execOp, hop, resolve, invoke, builtin, hs, hx, hrun, Result.andThen]
  exact hK _ _ _ h2 h3 h4 h5
/-- a parsed image -/
structure BankAt (w : World) (g : Nat) (bs : List Nat) (size : Nat) (D : List MetaV) : Prop where
  at_ : ∃ Ai ci Ad cd, w.heap[g]? = some (.cells #[.slice Ai bs.length ci, .int .i64 size, .slice Ad D.length cd] 130 (0, 0)) ∧ Row w w.heap.size Ai (u8s bs) ∧ Row w w.heap.size Ad (metaCells D) ∧ bs.length ≤ ci ∧ ci ≤ 9223372036854775807 ∧ D.length ≤ cd ∧ cd ≤ 9223372036854775807 ∧ (Ai = none → ci = 0) ∧ (Ad = none → cd = 0)
theorem BankAt.later {w w' : World} {g : Nat} {bs : List Nat} {size : Nat} {D : List MetaV} (h : BankAt w g bs size D) (hb : Below w.heap.size w w') : BankAt w' g bs size D := by
  obtain ⟨Ai, ci, Ad, cd, h1, h2, h3, h4, h5, h6, h7, h8, h9⟩ := h.at_
  exact ⟨Ai, ci, Ad, cd, hkeep h1 hb, h2.later hb, h3.later hb, h4, h5, h6, h7, h8, h9⟩
theorem BankAt.lt {w : World} {g : Nat} {bs : List Nat} {size : Nat} {D : List MetaV} (h : BankAt w g bs size D) : g < w.heap.size := by
  obtain ⟨Ai, ci, Ad, cd, h1, _⟩ := h.at_
  exact hlt h1
/-- what Parse leaves -/
def ParsePost (w : World) (bs : List Nat) (e : Ending) (w' : World) : Prop :=
  (parseZ bs ≠ 0 ∧ e = .returned (.tuple #[.pointer none, .int .i64 (parseZ bs)]) ∧ Below w.heap.size w w') ∨
  (parseZ bs = 0 ∧ ∃ g, e = .returned (.tuple #[.pointer (some ⟨g, 0, none⟩), .int .i64 0]) ∧ w.heap.size ≤ g ∧ BankAt w' g bs (sizeZ bs) (dirZ bs (cntZ bs)) ∧ Below w.heap.size w w')
end Go.Proofs.YtgcfkblmnpnogaaGreatDoor
