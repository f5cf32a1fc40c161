/- ParE. Conditions: as each theorem states. -/
import Derived.Laws.StructEq
import Derived.Test.YtnbbfblaipjcmaaGreatDoorPv42
import Derived.Test.YtnbbfblaipjcmaaGreatDoorPv41
import Derived.Test.YtnbbfblaipjcmaaGreatDoorPv43
namespace Go.Proofs.YtnbbfblaipjcmaaGreatDoor
open Go.RowKit Go.Lib Go.Shelf
theorem aC7:NeqAt Tryz.prog 37 (fun x=>.agg (MetaV.cells x).toArray) MetaV.same:=by
 refine ⟨fun x y w=>?_,GuardAt.agg _ (by kernel_rfl)⟩
 have u3:=Tryz.underlying3
 have a3:=Tryz.isAgg3
 have z3:=Tryz.sizeOf3
 have u4:=Tryz.underlying9
 have a4:=Tryz.isAgg9
 have z4:=Tryz.sizeOf9
 have u5:=Tryz.underlying4
 have a5:=Tryz.isAgg4
 have z5:=Tryz.sizeOf4
 have hS:Tryz.prog.underlying 37=some (.struct (Tryz.prog.fieldsOf 37)):=by kernel_rfl
 have hp:Tryz.prog.stoodInHeld 37=false:=by kernel_rfl
 simp only [MetaV.cells]
 rw [run_neq_struct,show (10000:Nat)=9999+1 from rfl,run_equalIn_agg w 9999 _ _ _ hS hp]
 simp only [Program.fieldsOf,Tryz.underlying37]
 go_simp
 unfold MetaV.same
 rcases Classical.em (x.name.toList=y.name.toList) with h1 | h1
 rotate_left
 ·rw [if_neg h1]
  simp [h1]
 rw [if_pos h1]
 rcases Classical.em (x.length=y.length) with h2 | h2
 rotate_left
 ·rw [if_neg h2]
  simp [h1,h2]
 rw [if_pos h2]
 rcases Classical.em (x.rate=y.rate) with h3 | h3
 rotate_left
 ·rw [if_neg h3]
  simp [h1,h2,h3]
 rw [if_pos h3]
 rcases Classical.em (x.channels=y.channels) with h4 | h4
 rotate_left
 ·rw [if_neg h4]
  simp [h1,h2,h3,h4]
 rw [if_pos h4]
 rcases Classical.em (x.loop=y.loop) with h5 | h5
 rotate_left
 ·rw [if_neg h5]
  simp [h1,h2,h3,h4,h5]
 rw [if_pos h5]
 rcases Classical.em (x.from_=y.from_) with h6 | h6
 rotate_left
 ·rw [if_neg h6]
  simp [h1,h2,h3,h4,h5,h6]
 rw [if_pos h6]
 rcases Classical.em (x.to_=y.to_) with h7 | h7
 rotate_left
 ·rw [if_neg h7]
  simp [h1,h2,h3,h4,h5,h6,h7]
 rw [if_pos h7]
 rcases Classical.em (x.sums=y.sums) with h8 | h8
 rotate_left
 ·rw [if_neg h8]
  simp [h1,h2,h3,h4,h5,h6,h7,h8]
 rw [if_pos h8]
 rcases Classical.em (x.first=y.first) with h9 | h9
 rotate_left
 ·rw [if_neg h9]
  simp [h1,h2,h3,h4,h5,h6,h7,h8,h9]
 rw [if_pos h9]
 simp [h1,h2,h3,h4,h5,h6,h7,h8,h9]
instance:Inhabited MetaV:=⟨⟨ByteArray.empty,0,0,0,false,0,0,0,0⟩⟩
theorem tS {w:World} {B b off:Nat} {L:List MetaV} (hr:Row w B (some ⟨b,off,none⟩) (aZ L)):∀ j,j < L.length->∀ i v,(MetaV.cells L[j]!)[i]? = some v->w.cell? ⟨b,off+j*9+i,none⟩=some v:=fun j hj i v hv=>by
 have h:L[j]? = some L[j]!:=by rw [getElem!_pos L j hj,List.getElem?_eq_getElem hj]
 obtain ⟨b',off',hA,_,hc⟩:=gI hr h
 injection hA with hA
 injection hA with e1 e2
 subst e1 e2
 exact hc i v hv
theorem GZ (L M:List MetaV) (A B:Option Addr) (n c d:Nat) (w:World) (hL:L.length=n) (hM:M.length=n) (hn:n<=1000000) (hr1:Row w w.heap.size A (aZ L)) (hr2:Row w w.heap.size B (aZ M)) :
  Calls Tryz.prog 133 #[.slice A n c,.slice B n d] w fun e w'=>e=.returned (.bool (allEq MetaV.same L M))/\Below w.heap.size w w':=by
 rcases Nat.eq_zero_or_pos n with h0 | h0
 ·subst h0
  obtain rfl:=List.eq_nil_of_length_eq_zero hL
  obtain rfl:=List.eq_nil_of_length_eq_zero hM
  go_enter Tryz.func133,Tryz.ntmps133
  go_wp2
  refine wp_loop_rounds 1 ?_
  rw [rounds_succ]
  go_wp2
  go_ret
  exact ⟨rfl,Below.refl _ _⟩
 ·obtain ⟨x,hx⟩:=aE (k:=0) hL h0
  obtain ⟨y,hy⟩:=aE (k:=0) hM h0
  obtain ⟨b1,o1,rfl,_,_⟩:=gI hr1 hx
  obtain ⟨b2,o2,rfl,_,_⟩:=gI hr2 hy
  have hcon:=AnyQ.slices_Equal aDB 9 Tryz.isAgg37 Tryz.sizeOf37 MetaV.cells (fun _=>rfl) MetaV.same aC7 b1 o1 n c b2 o2 n d L M w (by omega) (by omega) (by omega) (by omega) (tS hr1) (tS hr2)
  rw [List.take_of_length_le (by omega),List.take_of_length_le (by omega)] at hcon
  refine hcon.mono ?_
  rintro e w' ⟨he,q,rfl⟩
  exact ⟨he,below_drewN (Below.refl _ _) _⟩
end Go.Proofs.YtnbbfblaipjcmaaGreatDoor
