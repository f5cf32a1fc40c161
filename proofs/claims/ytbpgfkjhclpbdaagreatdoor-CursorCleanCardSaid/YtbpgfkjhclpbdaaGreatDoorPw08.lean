/- WaveD. Conditions: as each theorem states. -/
import Derived.Handy
import Derived.Test.YtbpgfkjhclpbdaaGreatDoorPw07
namespace Go.Proofs.YtbpgfkjhclpbdaaGreatDoor
open Tryz
open Go.Lib (hid)
open Go.RowKit
def tB(nm:ByteArray):ByteArray:=if 100<nm.size then nm.extract 0 100 else nm
def yC(rows:List (List Int)):List (List Int):=(rows.take 4).map (List.take 150)
theorem WV(nm:ByteArray):(tB nm).size<=100:=by
 unfold tB;split
 ·rw[ByteArray.size_extract];omega
 ·omega
theorem aC1(rows:List (List Int)):(yC rows).length<=4:=by unfold yC;simp;omega
theorem aC2(rows:List (List Int)):∀ r∈yC rows,r.length<=150:=by
 intro r d;unfold yC at d;obtain⟨x,_,rfl⟩:=aGq.1 d;rw[aGB];omega
def PZ(W:World)(B:Nat)(nm:ByteArray)(rate:Int)(lp:Bool)(f t:Int)(rows:List (List Int))(e:Ending)(w':World):Prop :=
 ∃ (a:Option Addr) (cap:Nat) (vs:List Value),e=.returned (.agg #[.string nm,.int .i64 rate,.bool lp,.int .i64 f,.int .i64 t,.slice a rows.length cap]) /\
  rows.length<=cap/\cap<=9223372036854775807/\Row w' w'.heap.size a vs/\(∀ ad,a=some ad->W.heap.size<=ad.block)/\RowsAt w' B vs rows/\Below W.heap.size W w'
theorem aDl:(prog.info? 63).map (fun i=>(i.zero,i.size,i.bytes))=some (some (.slice none 0 0),1,24):=by kernel_rfl
set_option maxRecDepth 100000 in
set_option maxHeartbeats 2000000 in
theorem aFa(nm:ByteArray)(rate:Int)(lp:Bool)(f t:Int)(a:Option Addr)(cap:Nat)(vs:List Value)(rows:List (List Int))(w:World)(hs:nm.size<=9223372036854775807)(B:Nat)(hB:B<=w.heap.size)(hr:Row w B a vs)(hm:RowsAt w B vs rows):
  Calls prog 97 #[.agg #[.string nm,.int .i64 rate,.bool lp,.int .i64 f,.int .i64 t,.slice a rows.length cap]] w (PZ w B (tB nm) rate lp f t (yC rows)):=by
 obtain⟨i0,hi,a1,a2,a3⟩:=aHx aDl;obtain⟨R,hR⟩:∃ R,rows.length=R:=⟨_,rfl⟩;have a8:=hid (fun (k:Nat) xs (h:rows[k]? = some xs)=>(show (rows.take (k+1)).map (List.take 150)=(rows.take k).map (List.take 150)++[xs.take 150] from by rw[aJp,h];simp));have a9:=hid (fun k (hk:k<=4/\k<=R/\¬ (k<R/\k<4))=>(show (rows.take k).map (List.take 150)=yC rows/\(yC rows).length=k from by
  have h1:(rows.take k).map (List.take 150)=yC rows:=by
   unfold yC
   congr 1
   rcases aGt k 4 with h|h
   ·rw[aGW (by omega),aGW (by omega)]
   ·rw[show k=4 by omega]
  exact⟨h1,by rw[<-h1];simp;omega⟩))
 rw[hR];have HR:=hid hR;have Hr:=hid hr;have Hm:=hid hm;clear hR hr hm;have bL:(100<nm.size/\decide ((100:Int)<(nm.size:Int))=true)\/(¬ 100<nm.size/\decide ((100:Int)<(nm.size:Int))=false):=by
  by_cases h:100<nm.size
  ·exact .inl ⟨h,aGs (by omega)⟩
  ·exact .inr ⟨h,aGm (by omega)⟩
 rcases bL with ⟨aN,hd⟩|⟨aN,hd⟩
 all_goals
  go_enter func97,ntmps97;go_wp2;have aU:=hid aN;clear aN;go_loopw [3,4] (fun d i wr=>∃ (k:Nat) (I:List Value) (A:Option Addr) (c:Nat),k<=4/\k<=R/\i=.int .i64 k/\d=.slice A k c/\k<=c/\c<=9223372036854775807/\wr.ownsRow (w.heap.size+2) 63 1 (.slice A k c) k I /\
    RowsAt w B I ((rows.take k).map (List.take 150)) /\
    Blk wr w.heap.size 119 [.string (tB nm),.int .i64 rate,.bool lp,.int .i64 f,.int .i64 t,.slice a R cap] /\
    Blk wr (w.heap.size+1) 119 [.string ⟨#[]⟩,.int .i64 0,.bool false,.int .i64 0,.int .i64 0,.slice none 0 0]/\Below w.heap.size w wr/\w.heap.size+2<=wr.heap.size)
   (fun _ i _=>4-(intOf i).toNat)
  case atStart =>
   refine⟨0,[],none,0,by omega,aG3 _,rfl,rfl,LE _,by omega,aHc _ _ _ _,⟨rfl,fun i v xs h=>by simp at h⟩,?_,Blk.new2 w _ _ _,(aP _ _).alloc (by simp) _,by simp⟩;unfold tB
   first|rw[FN aU.out]|rw[sL aU.out]
   exact (Blk.new w _ _).alloc _
  case round =>
   obtain⟨k,I,A,c,bN,bP,rfl,rfl,bQ,bJ,Z,aB,F,z,V,b4⟩:=hrel;generalize tB nm=bT at *
   have c0:=F.cell 0;have c1:=F.cell 1;have c2:=F.cell 2;have c3:=F.cell 3;have c4:=F.cell 4;have c5:=F.cell 5;have f5:=F.frozen 5;have aM:=bO Z
   by_cases hlt:k<R/\k<4
   ·obtain⟨hlt,b2⟩:=hlt;obtain⟨xs,aQ⟩:∃ xs,rows[k]? = some xs:=⟨_,TT (by rw[HR.out];exact hlt)⟩;obtain⟨b,off,a',c',rfl,hb,hc,bR,bS,a0⟩:=pT Hr.out Hm.out aQ;have b0:=(V.cell (p:=⟨b,off+k,none⟩) (aGM hb hB)).trans hc;have aW:=hid (show IntsAt w B (.slice a' xs.length c') xs from ⟨a',c',rfl,bR,bS,a0⟩);have O:=hid Z;have aE:=hid aM;have HT:=hid (a8.out k xs aQ);have aF:=hid aB;have aT:=hid F;have aV:=hid z;have J:=hid V;clear Z aM aB F z V aQ hc a0
    by_cases hl:150<xs.length
    ·go_wp2_with (at_builtin;refine cF _ rfl (.tmp 35) (.tmp 37) 117 rfl (w.heap.size+2) 63 i0 (.slice none 0 0) 1 24 underlying117 hi a1 a2 a3 rfl (by omega) _ k I rfl (O.out.alloc _) (wr.heap.size+1) (some ⟨wr.heap.size,0,none⟩) 1 1 [.slice a' 150 c'] rfl rfl (Row.new wr _ _) (fun u hu=>by simp at hu;subst hu;rfl) (by omega) (by omega) (by simp;omega) ?_;intro A' U w1 aA G bI aK)
     go_roundw
     case rel =>
      have W:∀ g,g<w.heap.size+2->some g≠(Value.slice A k c).ownBlock:=fun g hg h=>by have:=aE.out g h.symm;omega
      have aJ:Below w.heap.size w w1:=(J.out.alloc (by omega) _).grown G (by simp;omega) (fun g h=>by have:=aE.out g h;omega);have aO:w.heap.size+2<=w1.heap.size:=by have:=G.size;simp at this;omega
      have aL:U<=9223372036854775807:=gK aA;exact⟨k+1,_,A',U,by omega,by omega,by go_num,rfl,aK,aL,aA,by rw[HT.out];exact RowsAt.snoc aF.out (aW.out.take 150 (by omega)),(aT.out.alloc _).grown G (W _ (by omega)),(aV.out.alloc _).grown G (W _ (by omega)),aJ,aO⟩
     case measure=>simp[intOf];omega
    ·go_wp2_with (at_builtin;refine cF _ rfl (.tmp 35) (.tmp 37) 117 rfl (w.heap.size+2) 63 i0 (.slice none 0 0) 1 24 underlying117 hi a1 a2 a3 rfl (by omega) _ k I rfl (O.out.alloc _) (wr.heap.size+1) (some ⟨wr.heap.size,0,none⟩) 1 1 [.slice a' xs.length c'] rfl rfl (Row.new wr _ _) (fun u hu=>by simp at hu;subst hu;rfl) (by omega) (by omega) (by simp;omega) ?_;intro A' U w1 aA G bI aK)
     go_roundw
     case rel =>
      have W:∀ g,g<w.heap.size+2->some g≠(Value.slice A k c).ownBlock:=fun g hg h=>by have:=aE.out g h.symm;omega
      have aJ:Below w.heap.size w w1:=(J.out.alloc (by omega) _).grown G (by simp;omega) (fun g h=>by have:=aE.out g h;omega);have aO:w.heap.size+2<=w1.heap.size:=by have:=G.size;simp at this;omega
      have aL:U<=9223372036854775807:=gK aA;exact⟨k+1,_,A',U,by omega,by omega,by go_num,rfl,aK,aL,aA,by rw[HT.out];exact RowsAt.snoc aF.out (by rw[aGW (by omega)];exact aW.out),(aT.out.alloc _).grown G (W _ (by omega)),(aV.out.alloc _).grown G (W _ (by omega)),aJ,aO⟩
     case measure=>simp[intOf];omega
   ·obtain⟨q1,q2⟩:=a9.out k ⟨bN,bP,hlt⟩;rw[q1]at aB;have O:=hid Z;have aF:=hid aB;have HL:=hid q2;have J:=hid V;have r0:=z.frozen 0;have r1:=z.frozen 1;have r2:=z.frozen 2;have r3:=z.frozen 3;have r4:=z.frozen 4;have r5:=z.frozen 5;have e0:=z.cell 0;have e1:=z.cell 1;have e2:=z.cell 2;have e3:=z.cell 3;have e4:=z.cell 4;have e5:=z.cell 5;clear Z aB V aM F z q1 q2;go_wp2
    all_goals
     refine aGk (v:=.agg #[.string bT,.int .i64 rate,.bool lp,.int .i64 f,.int .i64 t,.slice A k c]) (by simp[results,results97,go_sem,e0,e1,e2,e3,e4,e5]) rfl ?_;refine⟨A,c,I,by rw[HL.out],by rw[HL.out];exact bQ,bJ,Row.of_own (base:=w.heap.size+2) (e:=63) (size:=1) (n:=k) (c:=c) ?_,fun ad had=>?_,aF.out.below (Below.mono ?_ hB),?_⟩
     ·repeat (refine aIT ?_ (by simp) _)
      exact O.out
     ·have:=bO O.out ad.block (by rw[had];rfl);omega
     ·repeat (refine aIS ?_ (by simp) _)
      exact J.out
     ·repeat (refine aIS ?_ (by simp) _)
      exact J.out
end Go.Proofs.YtbpgfkjhclpbdaaGreatDoor
