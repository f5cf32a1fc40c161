/- ParE. Conditions: as each theorem states. -/
import Derived.Laws.StructEq
import Derived.Test.YtbpgfkjhclpbdaaGreatDoorPw33
import Derived.Test.YtbpgfkjhclpbdaaGreatDoorPw43
namespace Go.Proofs.YtbpgfkjhclpbdaaGreatDoor
open Tryz
open Go.RowKit Go.Lib Go.Shelf
theorem aEP:NeqAt prog 101 (fun x=>.agg (aFK.cells x).toArray) aFK.same:=by
 refine⟨fun x y w=>?_,GuardAt.agg _ (by kernel_rfl)⟩;have u3:=underlying3;have U:=isAgg3;have Z:=sizeOf3;have u4:=underlying9;have V:=isAgg9;have z4:=sizeOf9;have u5:=underlying4;have W:=isAgg4;have z5:=sizeOf4;have J:prog.underlying 101=some (.struct (prog.fieldsOf 101)):=by kernel_rfl
 have O:prog.stoodInHeld 101=false:=by kernel_rfl
 simp only[aFK.cells];rw[run_neq_struct,show (10000:Nat)=9999+1 from rfl,run_equalIn_agg w 9999 _ _ _ J O];simp only[Program.fieldsOf,underlying101];go_simp;unfold aFK.same;rcases aH3 (x.name.toList=y.name.toList) with h1|h1
 rotate_left
 ·rw[sL h1];simp[h1]
 rw[FN h1];rcases aH3 (x.length=y.length) with h2|h2
 rotate_left
 ·rw[sL h2];simp[h1,h2]
 rw[FN h2];rcases aH3 (x.rate=y.rate) with d|d
 rotate_left
 ·rw[sL d];simp[h1,h2,d]
 rw[FN d];rcases aH3 (x.channels=y.channels) with h|h
 rotate_left
 ·rw[sL h];simp[h1,h2,d,h]
 rw[FN h];rcases aH3 (x.loop=y.loop) with t|t
 rotate_left
 ·rw[sL t];simp[h1,h2,d,h,t]
 rw[FN t];rcases aH3 (x.from_=y.from_) with z|z
 rotate_left
 ·rw[sL z];simp[h1,h2,d,h,t,z]
 rw[FN z];rcases aH3 (x.to_=y.to_) with F|F
 rotate_left
 ·rw[sL F];simp[h1,h2,d,h,t,z,F]
 rw[FN F];rcases aH3 (x.sums=y.sums) with G|G
 rotate_left
 ·rw[sL G];simp[h1,h2,d,h,t,z,F,G]
 rw[FN G];rcases aH3 (x.first=y.first) with I|I
 rotate_left
 ·rw[sL I];simp[h1,h2,d,h,t,z,F,G,I]
 rw[FN I];simp[h1,h2,d,h,t,z,F,G,I]
instance:Inhabited aFK:=⟨⟨ByteArray.empty,0,0,0,false,0,0,0,0⟩⟩
theorem vH{w:World}{B b off:Nat}{L:List aFK}(G:Row w B (some ⟨b,off,none⟩) (bB L)):∀ j,j<L.length->∀ i v,(aFK.cells L[j]!)[i]? = some v->w.cell? ⟨b,off+j*9+i,none⟩=some v:=fun j d i v I=>by
 have h:L[j]? = some L[j]!:=by rw[aH2 L j d,TT d]
 obtain⟨J,O,hA,_,F⟩:=iD G h;injection hA with hA
 injection hA with t z
 subst t z;exact F i v I
theorem JY(L M:List aFK)(A B:Option Addr)(n c d:Nat)(w:World)(hL:L.length=n)(t:M.length=n)(Z:n<=1000000)(F:Row w w.heap.size A (bB L))(G:Row w w.heap.size B (bB M)):
  Calls prog 102 #[.slice A n c,.slice B n d] w fun e w'=>e=.returned (.bool (allEq aFK.same L M))/\Below w.heap.size w w':=by
 rcases aHB n with h|h
 ·subst h;obtain rfl:=aIi hL;obtain rfl:=aIi t;go_enter func102,ntmps102;go_wp2;refine aHD 1 ?_;rw[rounds_succ];go_wp2
  go_ret
  exact⟨rfl,aGj _ _⟩
 ·obtain⟨x,O⟩:=aE (k:=0) hL h;obtain⟨y,U⟩:=aE (k:=0) t h;obtain⟨I,V,rfl,_,_⟩:=iD F O;obtain⟨J,W,rfl,_,_⟩:=iD G U;have z:=AnyQ.slices_Equal aFj 9 isAgg101 sizeOf101 aFK.cells (fun _=>rfl) aFK.same aEP I V n c J W n d L M w (by omega) (by omega) (by omega) (by omega) (vH F) (vH G);rw[aGW (by omega),aGW (by omega)]at z;refine z.mono ?_;rintro e w' ⟨he,q,rfl⟩;exact⟨he,aHY (aGj _ _) _⟩
end Go.Proofs.YtbpgfkjhclpbdaaGreatDoor
