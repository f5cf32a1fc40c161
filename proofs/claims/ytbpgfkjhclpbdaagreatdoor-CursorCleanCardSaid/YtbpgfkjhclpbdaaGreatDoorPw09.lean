/- KitA, KitB, KitC, KitD, KitE, WaveE, WaveF. Conditions: as each theorem states. -/
import Derived.Handy
import Derived.Test.YtbpgfkjhclpbdaaGreatDoorPw04
import Derived.Test.YtbpgfkjhclpbdaaGreatDoorPw08
namespace Go.Proofs.YtbpgfkjhclpbdaaGreatDoor
open Tryz
open Go.RowKit
def Z6(W:World)(xs:List Int)(e:Ending)(w':World):Prop:=∃ A c,e=.returned (.slice A xs.length c)/\xs.length<=c/\c<=9223372036854775807/\Row w' w'.heap.size A (xs.map (.int .i64))/\Below W.heap.size W w'
theorem aAn:(prog.info? 3).map (fun i=>(i.zero,i.size,i.bytes))=some (some (.int .i64 0),1,8):=by kernel_rfl
theorem cU{w w':World}{base:Nat}{e:TypeId}{size n:Nat}{v:Value}{xs:List Value}(h:w.ownsRow base e size v n xs)(hb:Below w.heap.size w w'):w'.ownsRow base e size v n xs:=by
 obtain⟨h1,h2⟩:=h;refine⟨h1,?_⟩;rcases h2 with h2|⟨g,cap,d,z,t,hh,r⟩
 ·exact .inl h2
 ·have hlt:g<w.heap.size:=by
   rcases aGt g w.heap.size with h|h
   ·exact h
   ·rw[aHl h]at hh;cases hh
  exact .inr ⟨g,cap,d,z,t,(hb.block g hlt).trans hh,r⟩
theorem oZ{w:World}{base:Nat}{e:TypeId}{size n c:Nat}{A:Option Addr}{xs:List Value}(h:w.ownsRow base e size (.slice A n c) n xs):n<=c:=by
 obtain⟨d,t,h1,h2,_⟩:=jK h;injection h1 with _ _ z
 omega
set_option maxRecDepth 100000 in
set_option maxHeartbeats 2000000 in
theorem aCA(nm:ByteArray)(rate:Int)(lp:Bool)(f t:Int)(a:Option Addr)(cap:Nat)(vs:List Value)(rows:List (List Int))(w:World)(R:Nat)(hR:rows.length=R)(F:Row w w.heap.size a vs)(hm:RowsAt w w.heap.size vs rows):
  Calls prog 47 #[.agg #[.string nm,.int .i64 rate,.bool lp,.int .i64 f,.int .i64 t,.slice a R cap]] w
   fun e w'=>e=.returned (.agg #[.string nm,.int .i64 (dD rows),.int .i64 rate,.int .i64 R,.bool lp,.int .i64 f,.int .i64 t,.int .i64 0,.int .i64 0])/\Below w.heap.size w w':=by
 have I:=aGC hR;have O:=aGC F;have J:=aGC hm;clear hR F hm;go_enter func47,ntmps47;go_wp2;have z:=(Blk.new w 119 [.string nm,.int .i64 rate,.bool lp,.int .i64 f,.int .i64 t,.slice a R cap]).alloc (.cells #[.string ⟨#[]⟩,.int .i64 0,.int .i64 0,.int .i64 0,.bool false,.int .i64 0,.int .i64 0,.int .i64 0,.int .i64 0] 101);have h:=Blk.new2 w (.cells #[.string nm,.int .i64 rate,.bool lp,.int .i64 f,.int .i64 t,.slice a R cap] 119) 101 [.string ⟨#[]⟩,.int .i64 0,.int .i64 0,.int .i64 0,.bool false,.int .i64 0,.int .i64 0,.int .i64 0,.int .i64 0];have hW:Below w.heap.size w ((w.alloc (.cells #[.string nm,.int .i64 rate,.bool lp,.int .i64 f,.int .i64 t,.slice a R cap] 119)).alloc (.cells #[.string ⟨#[]⟩,.int .i64 0,.int .i64 0,.int .i64 0,.bool false,.int .i64 0,.int .i64 0,.int .i64 0,.int .i64 0] 101)):=(aP _ _).alloc (by simp) _;have W:=iX z;refine aJ 16 (by kernel_rfl) (by kernel_rfl) ?_;simp only[List.take_succ_cons,List.take_zero,aGO,aGR]
 repeat (go_big_quiet_step (first|(go_at_call 88;rename_i x;exact bY (vU _ _ _ _ _ _ _ vs rows _ R I.out (O.out.later (aC hW x.2)) (J.out.later (aC hW x.2))))))
 refine aGv ?_;intro Z G;have d:=aQ G;clear G;have V:=aGC (aC hW d);have hz:w.heap.size+1<Z.heap.size:=by have:=d.size;simp at this;omega
 have U:=aH (h.below d (by simp));have fz:=mP (h.below d (by simp));clear W z h hW d;go_wp2;refine aGk (v:=.agg #[.string nm,.int .i64 (dD rows),.int .i64 rate,.int .i64 R,.bool lp,.int .i64 f,.int .i64 t,.int .i64 0,.int .i64 0]) (by simp[results,results47,go_sem,U]) rfl ?_;refine⟨rfl,?_⟩
 repeat (refine aIS ?_ (by simp) _)
 exact V.out
theorem tQ{nm:ByteArray}{rate:Int}{lp:Bool}{f t:Int}{rows:List (List Int)}(h:j2 nm rate lp f t rows=0):
  aFK.right ⟨nm,dD rows,rate,rows.length,lp,f,t,0,0⟩=true:=by
 unfold j2 at h;cases h1:dY nm
 ·simp[h1]at h
 ·by_cases h2:rate<1\/192000<rate
  ·simp[h1,h2]at h
  ·by_cases d:rows.length<1\/2<rows.length\/dD rows<1\/1048576<dD rows
   ·rw[sL (by simp[h1]),sL h2,FN d]at h;omega
   ·cases z:lK lp f t (dD rows)
    ·rw[sL (by simp[h1]),sL h2,sL d,FN z]at h;omega
    ·unfold aFK.right;simp only[h1,z,Bool.true_and,Bool.and_true,aGu,aHw,aGy];omega
end Go.Proofs.YtbpgfkjhclpbdaaGreatDoor
