/- The sorts of tones: the closures of layer 11's Find, slices.SortStableFunc and slices.SortFunc at short lists of tones; conditions: as each theorem states. -/
import Derived.Test.YtbgkoopfdfnmcaaToneA
import Derived.Test.YtbgkoopfdfnmcaaSortP
import Derived.Ground.SlsfProg
import Derived.Test.YtbgkoopfdfnmcaaLibBits
import Derived.IntWalk
import Derived.Deep.RegionWith
namespace Go.Proofs.Ytbgkoopfdfnmcaa
open Go.RowKit Go.Shelf

/-- a value of a spectrum that stands alone -/
structure ToneV where
  idx : Int
  val : Int
deriving DecidableEq
def ToneV.cells (t : ToneV) : List Value := [.int .i64 t.idx, .int .i64 t.val]
def ToneV.big (t : ToneV) : Prop := (-2305843009213693952 ≤ t.idx ∧ t.idx ≤ 2305843009213693952) ∧ -4611686018427387904 ≤ t.val ∧ t.val ≤ 4611686018427387904
/-- .. far from the ends of 64 bits -/
structure BTone where
  t : ToneV
  h : t.big
instance : Inhabited BTone := ⟨⟨⟨0, 0⟩, by simp [ToneV.big]⟩⟩
def BTone.cells (t : BTone) : List Value := t.t.cells
theorem bt_len : ∀ x : BTone, x.cells.length = 2 := fun _ => rfl
theorem bt_one : ∀ x : BTone, ∀ v ∈ x.cells, v.oneCell' = true := by
  intro x v hv
  simp only [BTone.cells, ToneV.cells, List.mem_cons, List.not_mem_nil, or_false] at hv
  rcases hv with rfl | rfl <;> rfl
def cmpLoud (x y : BTone) : Int := clampZ (absZ y.t.val - absZ x.t.val) (-1) 1
def cmpIdx (x y : BTone) : Int := x.t.idx - y.t.idx

theorem drewN_grow (W : World) (o1 o2 : Obj) (n : Nat) : ((W.alloc o1).alloc o2).drewN n = Sort.grow (W.drewN n) #[o1, o2] := by
  rw [Sort.alloc_eq_grow, Sort.alloc_eq_grow, Sort.grow_grow]
  rfl

/-! slices.insertionSortCmpFunc at this program. -/
theorem sortL_len {α : Type} [Inhabited α] (lt : α → α → Bool) (hS : Sort.SWO lt) (l : List α) : (sortL lt l).length = l.length := (sortL_perm lt hS l).length_eq

def SortPost (B : Nat) (W : World) (A : Option Addr) (l : List BTone) (e : Ending) (w' : World) : Prop := e = .returned (.tuple #[]) ∧ HoldsT BTone.cells 2 B w' A l ∧ Below B W w'

end Go.Proofs.Ytbgkoopfdfnmcaa
