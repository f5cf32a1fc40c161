/- ParB. Conditions: as each theorem states. -/
import Derived.Laws.BytesArg
import Derived.Test.YtbpgfkjhclpbdaaGreatDoorPw33
import Derived.Test.YtbpgfkjhclpbdaaGreatDoorPw43
namespace Go.Proofs.YtbpgfkjhclpbdaaGreatDoor
open Tryz
open Go.RowKit Go.Lib
theorem aAz(xs:List Nat)(o k:Nat):strOfNums ((cC xs o k).map fun (x:Nat)=>(x:Int))=⟨(pD (cC xs o k)).toArray⟩:=by
 unfold strOfNums pD;rw[aHj]
 rfl
theorem fW(w:World):Below w.heap.size w w.drew:=(aGj _ _).drew
theorem aA8(X:World):X.drew.heap=X.heap:=rfl
theorem tL(x:aFK):x.cells.toArray.all (·.oneCell')=true:=by
 rw[aGY];intro v d;exact tM x v (by simpa using d)
def IR(xs:List Nat)(m:Nat):List Value:=(List.range 6).map fun j=>if j<m then Value.int .i64 (bU xs (32+4*j) 4:Nat) else .int .i64 0
theorem aB1(xs:List Nat){m:Nat}(h:m<6):(IR xs m).set m (.int .i64 (bU xs (32+4*m) 4:Nat))=IR xs (m+1):=by
 refine aGL fun j=>?_
 unfold IR;rw[aHu,aF7,List.length_range,aF5,aF5]
 by_cases t:j<6
 ·rw[aHa t]
  by_cases d:m=j
  ·subst d;rw[FN rfl,FN h];simp
  ·rw[sL d];simp only[Option.map_some]
   by_cases h2:j<m
   ·rw[FN h2,FN (by omega)]
   ·rw[sL h2,sL (by omega)]
 ·rw[aGr (by simp;omega),sL (by omega)]
  rfl
theorem MN(xs:List Nat){m j:Nat}(h:j<6):(IR xs m)[j]? = some (if j<m then Value.int .i64 (bU xs (32+4*j) 4:Nat) else .int .i64 0):=by
 unfold IR;rw[aF5,aHa h]
 rfl
set_option maxRecDepth 100000 in
set_option maxHeartbeats 16000000 in
theorem aDK(xs:List Nat)(g off n cap:Nat)(w:World)(hn:xs.length=n)(dR:64<=n)(dS:n<=cap)(hl:n<=1000000000)(hr:Row w w.heap.size (some ⟨g,off,none⟩) (u8s xs))(hb:∀ x∈xs,x<256):
  Calls prog 100 #[.slice (some ⟨g,off,none⟩) n cap] w fun e w'=>e=.returned (.tuple #[.agg (fU xs 0).cells.toArray,.bool (sE xs 0)])/\Below w.heap.size w w':=by
 have bR:=hid (fun W (a:Nat) (hW:Below w.heap.size w W) (ha:a+4<=n)=>(show Calls prog 62 #[.slice (some ⟨g,off,none⟩) n cap,.int .i64 a,.int .i64 4] W (fun e w'=>e=.returned (.int .i64 (bU xs a 4:Nat))/\W=w') from IM xs _ n cap a 4 W hn (hr.later hW) hb ha hl (by omega)));obtain⟨V,aN⟩:∃ V,w.alloc (.cells #[.string ⟨#[]⟩,.int .i64 0,.int .i64 0,.int .i64 0,.bool false,.int .i64 0,.int .i64 0,.int .i64 0,.int .i64 0] 101)=V:=⟨_,rfl⟩;have cT:=hid (show V.heap.size=w.heap.size+1 by rw[<-aN];simp);have bP:=hid (show Blk V w.heap.size 101 [.string ⟨#[]⟩,.int .i64 0,.int .i64 0,.int .i64 0,.bool false,.int .i64 0,.int .i64 0,.int .i64 0,.int .i64 0] by rw[<-aN];exact Blk.new w _ [.string ⟨#[]⟩,.int .i64 0,.int .i64 0,.int .i64 0,.bool false,.int .i64 0,.int .i64 0,.int .i64 0,.int .i64 0]);have cI:=hid (show Below w.heap.size w V by rw[<-aN];exact aP w _);have a0:=hid (fun W (hW:Below w.heap.size w W)=>run_convert_bytes_arg (P:=prog) W 32 5 underlying32 underlying5 g off 32 cap ((cC xs 0 32).map fun (x:Nat)=>(x:Int)) (by rw[aF7,eM]) (fun i hi=>by
  have h1:(u8s xs)[i]? = some (.int .u8 (xs.getD i 0:Nat)):=by
   rw[eL (show xs[i]? = some (xs.getD i 0) by rw[aGz,TT (by omega)];rfl)]
  obtain⟨b',o',ha,_,hc⟩:=(hr.later hW) i _ h1;injection ha with ha
  injection ha with e1 e2
  subst e1 e2;have e:((cC xs 0 32).map fun (x:Nat)=>(x:Int)).getD i 0=((xs.getD i 0:Nat):Int):=by
   rw[aGz,aF5,gR hi,aGn]
   rfl
  rw[hc,e]))
 rw[aAz]at a0;have bS:=hid (fun W=>sS ⟨(pD (cC xs 0 32)).toArray⟩ 0 (by decide) W (by show (pD (cC xs 0 32)).toArray.size<=_;unfold pD;rw[aGH,aF7,eM];decide));have c5:=a0.out V (by rw[<-aN];exact aP w _);go_enter func100,ntmps100;go_wp2_with (go_at_call 150;fail)
 refine (bS.out _).mono ?_;rintro e w' ⟨rfl,cD⟩;rw[cD];clear cD w';have aT:=hid (fun W (j:Nat) (hW:Below w.heap.size w W) (Z:j<n)=>(show W.cell? ⟨g,off+j,none⟩=some (.int .u8 (xs.getD j 0:Nat)) from by
  have h1:(u8s xs)[j]? = some (.int .u8 (xs.getD j 0:Nat)):=by
   rw[eL (show xs[j]? = some (xs.getD j 0) by rw[aGz,TT (by omega)];rfl)]
  obtain⟨b',o',ha,_,hc⟩:=(hr.later hW) j _ h1;injection ha with ha
  injection ha with e1 e2
  subst e1 e2;exact hc))
 have bV:=hid (fun (j:Nat) (Z:j<n)=>(show xs.getD j 0<256 from by
  rw[aGz,TT (by omega)];exact hb _ (aIj _)))
 obtain⟨nm,a7⟩:∃ nm:ByteArray,(⟨(trimRightB (pD (cC xs 0 32)) 0).toArray⟩:ByteArray)=nm:=⟨_,rfl⟩;have cR:=hid (show wQ xs 0=nm from a7);rw[a7];clear a7 c5 a0 bS hr hb hn aN;go_wp2_with fail
 go_loopw [14] (fun i wr=>∃ m:Nat,m<=6/\i=.int .i64 m/\Blk wr (V.heap.size) 255 (IR xs m)/\Below V.heap.size V wr) (fun i _=>6-(intOf i).toNat)
 case atStart =>
  refine⟨0,by omega,rfl,?_,aP V _⟩;exact Blk.new V 255 (IR xs 0)
 case round =>
  obtain⟨m,hm,rfl,b9,a5⟩:=hrel;have aI:=hid b9;have bW:=hid a5;have aS:=hid (aC cI.out a5);clear b9 a5
  by_cases hlt:m<6
  ·have t1:(m:Int)<6:=by omega
   have t2:(0:Int)<=(m:Int):=by omega
   have a8:=bR.out wr (32+4*m) aS.out (by omega);rw[show ((32+4*m:Nat):Int)=32+4*(m:Int) by push_cast;rfl]at a8;have cK:=hid a8;have cL:=hid (aI.out.set_ m (.int .i64 (bU xs (32+4*m) 4:Nat)));have cM:=hid (aB1 xs hlt);have c1:wr.cell? ⟨V.heap.size,m,none⟩=some (.int .i64 0):=by
    rw[aH aI.out,MN xs hlt,sL (by omega)]
   have y1:=mP aI.out;clear a8;go_wp2_with (go_at_call 62;refine cK.out.mono ?_;rintro e w5 ⟨rfl,rfl⟩)
   go_roundw
   case rel =>
    refine⟨m+1,by omega,by go_num,?_,?_⟩
    ·rw[<-cM.out];exact cL.out
    ·exact bW.out.setCell (LE _) _
   case measure=>simp[intOf];omega
  ·have dA:m=6:=by omega
   subst dA;have t1:¬ (((6:Nat):Int)<6):=by omega
   have HX:=hid (fun (W:World) (hW:Below wr.heap.size wr W) (j:Nat) (Z:j<6)=>(show W.cell? ⟨V.heap.size,j,none⟩=some (.int .i64 (bU xs (32+4*j) 4:Nat)) from by
    rw[aH (aI.out.below hW aI.out.lt),MN xs Z,FN Z]))
   obtain⟨v0,a9⟩:∃ v,bU xs 32 4=v:=⟨_,rfl⟩;obtain⟨v1,bB⟩:∃ v,bU xs 36 4=v:=⟨_,rfl⟩;obtain⟨t,bC⟩:∃ v,bU xs 40 4=v:=⟨_,rfl⟩;obtain⟨F,bD⟩:∃ v,bU xs 44 4=v:=⟨_,rfl⟩;obtain⟨G,bE⟩:∃ v,bU xs 48 4=v:=⟨_,rfl⟩;obtain⟨I,bF⟩:∃ v,bU xs 52 4=v:=⟨_,rfl⟩;obtain⟨d,aW⟩:∃ v,xs.getD 56 0=v:=⟨_,rfl⟩;obtain⟨y7,aL⟩:∃ v,xs.getD 57 0=v:=⟨_,rfl⟩;obtain⟨lp,c9⟩:∃ b,((y7:Int) == 1)=b:=⟨_,rfl⟩;have cQ:=hid (show decide (y7=1)=lp by rw[<-c9,aH9];simp;omega);have c0:=bV.out 56 (by omega);have c2:=bV.out 57 (by omega);rw[aW]at c0;rw[aL]at c2;have dT:IntKind.i64.wrap (d:Int)=(d:Int):=aGl _ (by omega);have HM:=hid (show fU xs 0=⟨nm,v0,v1,d,lp,t,F,G,I⟩ by
    unfold fU;rw[cR.out];simp only[aGn,a9,bB,bC,bD,bE,bF,aW,aL,cQ.out])
   have HE:=hid (show sE xs 0=(rW xs 0&&(decide (y7<=1)&&aFK.right ⟨nm,v0,v1,d,lp,t,F,G,I⟩)) by
    unfold sE;rw[HM.out];simp only[aGn,aL])
   have X0:=hid (fun (W:World) hW=>(show W.cell? ⟨V.heap.size,0,none⟩=some (.int .i64 v0) from by rw[HX.out W hW 0 (by omega)];exact aGp (fun (q:Nat)=>some (Value.int .i64 (q:Int))) a9));have X1:=hid (fun (W:World) hW=>(show W.cell? ⟨V.heap.size,1,none⟩=some (.int .i64 v1) from by rw[HX.out W hW 1 (by omega)];exact aGp (fun (q:Nat)=>some (Value.int .i64 (q:Int))) bB));have X2:=hid (fun (W:World) hW=>(show W.cell? ⟨V.heap.size,2,none⟩=some (.int .i64 t) from by rw[HX.out W hW 2 (by omega)];exact aGp (fun (q:Nat)=>some (Value.int .i64 (q:Int))) bC));have X3:=hid (fun (W:World) hW=>(show W.cell? ⟨V.heap.size,3,none⟩=some (.int .i64 F) from by rw[HX.out W hW 3 (by omega)];exact aGp (fun (q:Nat)=>some (Value.int .i64 (q:Int))) bD));have X4:=hid (fun (W:World) hW=>(show W.cell? ⟨V.heap.size,4,none⟩=some (.int .i64 G) from by rw[HX.out W hW 4 (by omega)];exact aGp (fun (q:Nat)=>some (Value.int .i64 (q:Int))) bE));have X5:=hid (fun (W:World) hW=>(show W.cell? ⟨V.heap.size,5,none⟩=some (.int .i64 I) from by rw[HX.out W hW 5 (by omega)];exact aGp (fun (q:Nat)=>some (Value.int .i64 (q:Int))) bF));have X6:=hid (fun (W:World) (hW:Below wr.heap.size wr W)=>(show W.cell? ⟨g,off+56,none⟩=some (.int .u8 d) from by rw[aT.out W 56 (aC aS.out hW) (by omega),aW]));have X7:=hid (fun (W:World) (hW:Below wr.heap.size wr W)=>(show W.cell? ⟨g,off+57,none⟩=some (.int .u8 y7) from by rw[aT.out W 57 (aC aS.out hW) (by omega),aL]));have a1:=hid (show w.heap.size+2<=wr.heap.size from by have:=aI.out.lt;have:=cT.out;omega);have bQ:=hid (fun (W:World) (hW:Below wr.heap.size wr W)=>(show Blk W w.heap.size 101 [.string ⟨#[]⟩,.int .i64 0,.int .i64 0,.int .i64 0,.bool false,.int .i64 0,.int .i64 0,.int .i64 0,.int .i64 0] from
    (bP.out.below bW.out bP.out.lt).below hW (by have:=a1.out;omega)))
   have cS:=hid aL;clear a9 bB bC bD bE bF aW aL HX bR;go_wp2_with fail
   refine qU 23 (AM (w.heap.size+2) 22 #[.string ⟨#[]⟩,.int .i64 0,.int .i64 0,.int .i64 0,.bool false,.int .i64 0,.int .i64 0,.int .i64 0,.int .i64 0] 101) (by kernel_rfl) (by kernel_rfl) (vI _ _ _ _) ?_;refine BN 0 22 1 (by decide) (by intro j Z;unfold AM;rw[sL (by omega)]) (fun W hW=>?_);simp only[List.take_succ_cons,List.take_zero,aGO,aGR];have x0:=fun (z:GW W)=>X0.out z.1 (aC hW z.2)
   have x1:=fun (z:GW W)=>X1.out z.1 (aC hW z.2)
   have x2:=fun (z:GW W)=>X2.out z.1 (aC hW z.2)
   have x3:=fun (z:GW W)=>X3.out z.1 (aC hW z.2)
   have x4:=fun (z:GW W)=>X4.out z.1 (aC hW z.2)
   have x5:=fun (z:GW W)=>X5.out z.1 (aC hW z.2)
   have x6:=fun (z:GW W)=>X6.out z.1 (aC hW z.2)
   have x7:=fun (z:GW W)=>X7.out z.1 (aC hW z.2)
   repeat (go_big_quiet_step (fail))
   refine aGv ?_;clear x0 x1 x2 x3 x4 x5 x6 x7 hW;refine BM 22 0 _ (w.heap.size+2) _ 101 rfl rfl a1.out rfl (fun W=>rfl) (fun v=>?_);refine FI (fun W5 a4 hG=>?_);obtain⟨_,U,hv,cA,bG⟩:=hG;subst hv;have cJ:=hid (aC aS.out a4);have R5:=hid (bQ.out W5 a4);obtain⟨J,aO⟩:∃ J,W5.setRow U #[.string nm,.int .i64 v0,.int .i64 v1,.int .i64 d,.bool lp,.int .i64 t,.int .i64 F,.int .i64 G,.int .i64 I]=J:=⟨_,rfl⟩;have dP:=hid cA;have L5:=hid bG;have B8:=hid (show Below w.heap.size w J by rw[<-aO];exact aIU cJ.out (by omega) _);have L8:=hid (show J.heap[U]? = some (.cells #[.string nm,.int .i64 v0,.int .i64 v1,.int .i64 d,.bool lp,.int .i64 t,.int .i64 F,.int .i64 G,.int .i64 I] 101 (0,0)) by rw[<-aO];exact bA W5 U _ _ _ bG);have O:=hid (show Blk J w.heap.size 101 [.string ⟨#[]⟩,.int .i64 0,.int .i64 0,.int .i64 0,.bool false,.int .i64 0,.int .i64 0,.int .i64 0,.int .i64 0] by rw[<-aO];exact (aHy W5 U _ _ (by omega)).trans R5.out);have aJ:=hid (show (prog.info? 101).map (·.size)=some 9 by kernel_rfl);have bO:=hid (tL ⟨nm,v0,v1,d,lp,t,F,G,I⟩);have cO:=hid (fun (j:Nat) (Z:j<6) (h:xs.getD (58+j) 0≠0)=>(show rW xs 0=false from by
    unfold rW;rw[aJJ];exact⟨xs.getD (58+j) 0,aGq.2 ⟨j,aGA.2 Z,by rw[aGn]⟩,by simpa using h⟩))
   have cN:=hid (fun (h:∀ j,j<6->xs.getD (58+j) 0=0)=>(show rW xs 0=true from by
    unfold rW;rw[aGD];intro y hy;unfold cC at hy;obtain⟨j,Z,rfl⟩:=aGq.1 hy;rw[aGn,h j (aGA.1 Z)]
    rfl))
   clear bG cA a4 X0 X1 X2 X3 X4 X5 X6 bQ aI a1;simp only[Act.put,aGK,List.set_cons_zero,List.set_cons_succ];go_wp2_with (refine aA rfl 101 (.tmp 7) (.tmp 46) rfl U rfl _ _ #[.string nm,.int .i64 v0,.int .i64 v1,.int .i64 d,.bool lp,.int .i64 t,.int .i64 F,.int .i64 G,.int .i64 I] rfl L5.out aJ.out rfl bO.out ?_;rw[aO])
   clear aO;go_loopw [50] (fun v wx=>∃ k:Nat,k<=6/\v=.int .i64 k/\J=wx/\∀ j,j<k->xs.getD (58+j) 0=0) (fun v _=>6-(intOf v).toNat)
   case atStart=>exact⟨0,by omega,rfl,rfl,fun j Z=>by omega⟩
   case round =>
    obtain⟨k,hk,rfl,rfl,hz⟩:=hrel;have Hz:=hid hz;clear hz
    by_cases hlt:k<6
    ·have t3:(k:Int)<6:=by omega
     have t4:(0:Int)<=(k:Int):=by omega
     have c3:=aT.out J (58+k) B8.out (by omega);rw[<-Nat.add_assoc]at c3;obtain⟨y,hy⟩:∃ y,xs.getD (58+k) 0=y:=⟨_,rfl⟩;rw[hy]at c3;have Hy:=hid hy;clear hy
     by_cases h0:y=0
     ·subst h0;have t5:((((0:Nat):Int)) != 0)=false:=by decide
      go_wp2;go_roundw
      case rel =>
       refine⟨k+1,by omega,by go_num,trivial,fun j Z=>?_⟩
       by_cases c6:j=k
       ·subst c6;exact Hy.out
       ·exact Hz.out j (by omega)
      case measure=>simp[intOf];omega
     ·have t5:((y:Int) != 0)=true:=by rw[aHk];omega
      have cP:=hid (cO.out k hlt (by rw[Hy.out];exact h0));have r8:=O.out;go_wp2_with (first|(refine aB rfl 101 (.tmp 7) rfl U rfl _ #[.string nm,.int .i64 v0,.int .i64 v1,.int .i64 d,.bool lp,.int .i64 t,.int .i64 F,.int .i64 G,.int .i64 I] _ _ L8.out underlying101 rfl aJ.out ?_)|(refine aA rfl 101 (.tmp 2) (.tmp 56) rfl w.heap.size rfl _ _ #[.string nm,.int .i64 v0,.int .i64 v1,.int .i64 d,.bool lp,.int .i64 t,.int .i64 F,.int .i64 G,.int .i64 I] rfl O.out aJ.out rfl bO.out ?_))
      refine aGk (v:=.tuple #[.agg #[.string nm,.int .i64 v0,.int .i64 v1,.int .i64 d,.bool lp,.int .i64 t,.int .i64 F,.int .i64 G,.int .i64 I],.bool false]) (aX results100 _ _ w.heap.size 101 _ (0,0) _ _ rfl rfl (bA J _ _ _ _ O.out) underlying101 rfl aJ.out) rfl ?_;exact⟨by rw[HM.out,HE.out,cP.out];rfl,aIU B8.out (LE _) _⟩
    ·have c7:k=6:=by omega
     subst c7;have t3:¬ (((6:Nat):Int)<6):=by omega
     have bT:=hid (cN.out Hz.out);have cX:=hid (fun (z:GW J)=>(show z.1.cell? ⟨g,off+57,none⟩=some (.int .u8 y7) from by rw[aT.out z.1 57 (aC B8.out z.2) (by omega)];exact aGp (fun (q:Nat)=>some (Value.int .u8 (q:Int))) cS.out));clear t1 t3;have CM:=hid (fun (W:World) (hW:Below J.heap.size J W)=>(show W.cell? ⟨U,0,none⟩=some (.string nm)/\W.cell? ⟨U,1,none⟩=some (.int .i64 v0)/\W.cell? ⟨U,2,none⟩=some (.int .i64 v1)/\W.cell? ⟨U,3,none⟩=some (.int .i64 d)/\W.cell? ⟨U,4,none⟩=some (.bool lp)/\W.cell? ⟨U,5,none⟩=some (.int .i64 t)/\W.cell? ⟨U,6,none⟩=some (.int .i64 F)/\W.cell? ⟨U,7,none⟩=some (.int .i64 G)/\W.cell? ⟨U,8,none⟩=some (.int .i64 I) from ⟨aH (show Blk W U 101 [.string nm,.int .i64 v0,.int .i64 v1,.int .i64 d,.bool lp,.int .i64 t,.int .i64 F,.int .i64 G,.int .i64 I] from aF L8.out hW) 0,aH (show Blk W U 101 [.string nm,.int .i64 v0,.int .i64 v1,.int .i64 d,.bool lp,.int .i64 t,.int .i64 F,.int .i64 G,.int .i64 I] from aF L8.out hW) 1,aH (show Blk W U 101 [.string nm,.int .i64 v0,.int .i64 v1,.int .i64 d,.bool lp,.int .i64 t,.int .i64 F,.int .i64 G,.int .i64 I] from aF L8.out hW) 2,aH (show Blk W U 101 [.string nm,.int .i64 v0,.int .i64 v1,.int .i64 d,.bool lp,.int .i64 t,.int .i64 F,.int .i64 G,.int .i64 I] from aF L8.out hW) 3,aH (show Blk W U 101 [.string nm,.int .i64 v0,.int .i64 v1,.int .i64 d,.bool lp,.int .i64 t,.int .i64 F,.int .i64 G,.int .i64 I] from aF L8.out hW) 4,aH (show Blk W U 101 [.string nm,.int .i64 v0,.int .i64 v1,.int .i64 d,.bool lp,.int .i64 t,.int .i64 F,.int .i64 G,.int .i64 I] from aF L8.out hW) 5,aH (show Blk W U 101 [.string nm,.int .i64 v0,.int .i64 v1,.int .i64 d,.bool lp,.int .i64 t,.int .i64 F,.int .i64 G,.int .i64 I] from aF L8.out hW) 6,aH (show Blk W U 101 [.string nm,.int .i64 v0,.int .i64 v1,.int .i64 d,.bool lp,.int .i64 t,.int .i64 F,.int .i64 G,.int .i64 I] from aF L8.out hW) 7,aH (show Blk W U 101 [.string nm,.int .i64 v0,.int .i64 v1,.int .i64 d,.bool lp,.int .i64 t,.int .i64 F,.int .i64 G,.int .i64 I] from aF L8.out hW) 8⟩));have CR:=hid (fun (W:World) (hW:Below J.heap.size J W)=>(show W.cell? ⟨w.heap.size,0,none⟩=some (.string ⟨#[]⟩)/\W.cell? ⟨w.heap.size,1,none⟩=some (.int .i64 0)/\W.cell? ⟨w.heap.size,2,none⟩=some (.int .i64 0)/\W.cell? ⟨w.heap.size,3,none⟩=some (.int .i64 0)/\W.cell? ⟨w.heap.size,4,none⟩=some (.bool false)/\W.cell? ⟨w.heap.size,5,none⟩=some (.int .i64 0)/\W.cell? ⟨w.heap.size,6,none⟩=some (.int .i64 0)/\W.cell? ⟨w.heap.size,7,none⟩=some (.int .i64 0)/\W.cell? ⟨w.heap.size,8,none⟩=some (.int .i64 0) from ⟨aH (O.out.below hW O.out.lt) 0,aH (O.out.below hW O.out.lt) 1,aH (O.out.below hW O.out.lt) 2,aH (O.out.below hW O.out.lt) 3,aH (O.out.below hW O.out.lt) 4,aH (O.out.below hW O.out.lt) 5,aH (O.out.below hW O.out.lt) 6,aH (O.out.below hW O.out.lt) 7,aH (O.out.below hW O.out.lt) 8⟩));have CF:=hid (fun (W:World) (hW:Below J.heap.size J W)=>mP (O.out.below hW O.out.lt));have CE:=hid (fun (W:World) (hW:Below J.heap.size J W)=>(show (((((((((W.setCell ⟨w.heap.size,0,none⟩ (.string nm)).setCell ⟨w.heap.size,1,none⟩ (.int .i64 v0)).setCell ⟨w.heap.size,2,none⟩ (.int .i64 v1)).setCell ⟨w.heap.size,3,none⟩ (.int .i64 d)).setCell ⟨w.heap.size,4,none⟩ (.bool lp)).setCell ⟨w.heap.size,5,none⟩ (.int .i64 t)).setCell ⟨w.heap.size,6,none⟩ (.int .i64 F)).setCell ⟨w.heap.size,7,none⟩ (.int .i64 G)).setCell ⟨w.heap.size,8,none⟩ (.int .i64 I)).heap[w.heap.size]? = some (.cells #[.string nm,.int .i64 v0,.int .i64 v1,.int .i64 d,.bool lp,.int .i64 t,.int .i64 F,.int .i64 G,.int .i64 I] 101 (0,0)) from ((((((((((O.out.below hW O.out.lt).set_ 0 (.string nm)).set_ 1 (.int .i64 v0)).set_ 2 (.int .i64 v1)).set_ 3 (.int .i64 d)).set_ 4 (.bool lp)).set_ 5 (.int .i64 t)).set_ 6 (.int .i64 F)).set_ 7 (.int .i64 G)).set_ 8 (.int .i64 I))));have CB:=hid (fun (W:World) (hW:Below J.heap.size J W)=>(show Below w.heap.size w (((((((((W.setCell ⟨w.heap.size,0,none⟩ (.string nm)).setCell ⟨w.heap.size,1,none⟩ (.int .i64 v0)).setCell ⟨w.heap.size,2,none⟩ (.int .i64 v1)).setCell ⟨w.heap.size,3,none⟩ (.int .i64 d)).setCell ⟨w.heap.size,4,none⟩ (.bool lp)).setCell ⟨w.heap.size,5,none⟩ (.int .i64 t)).setCell ⟨w.heap.size,6,none⟩ (.int .i64 F)).setCell ⟨w.heap.size,7,none⟩ (.int .i64 G)).setCell ⟨w.heap.size,8,none⟩ (.int .i64 I)) from ((((((((((aC B8.out hW).setCell (LE _) (.string nm)).setCell (LE _) (.int .i64 v0)).setCell (LE _) (.int .i64 v1)).setCell (LE _) (.int .i64 d)).setCell (LE _) (.bool lp)).setCell (LE _) (.int .i64 t)).setCell (LE _) (.int .i64 F)).setCell (LE _) (.int .i64 G)).setCell (LE _) (.int .i64 I))));have x7:=cX.out ⟨J,aGj _ _⟩;obtain⟨m0,m1,m2,m3,m4,m5,m6,m7,m8⟩:=CM.out J (aGj _ _)
     by_cases b8:y7<=1
     ·have t5:(y7:Int)<=1:=by omega
      have HD:=hid (show decide (y7<=1)=true from aGs b8);go_wp2_with fail
      go_region_with ((go_at_call 151;refine (JG nm v0 v1 d lp t F G I _).mono ?_;rintro e w9 ⟨rfl,c4⟩;have E9:=hid (aC (fW J) c4);have CN:=CM.out w9 E9.out;have CS:=CR.out w9 E9.out;have CG:=CF.out w9 E9.out))
      all_goals
       go_wp2;refine aGk (v:=.tuple #[.agg #[.string nm,.int .i64 v0,.int .i64 v1,.int .i64 d,.bool lp,.int .i64 t,.int .i64 F,.int .i64 G,.int .i64 I],.bool (aFK.right ⟨nm,v0,v1,d,lp,t,F,G,I⟩)]) (aX results100 _ _ w.heap.size 101 _ (0,0) _ _ rfl rfl (CE.out _ E9.out) underlying101 rfl aJ.out) rfl ?_;exact⟨by rw[HM.out,HE.out,bT.out,HD.out];rfl,CB.out _ E9.out⟩
     ·have t5:decide ((y7:Int)<=1)=false:=aGm (by omega);have eE:(57:Int)<(n:Int):=by omega
      have HD:=hid (show decide (y7<=1)=false from aGm b8);obtain⟨r0,r1,r2,r3,r4,r5,r6,r7,r8⟩:=CR.out J (aGj _ _);have rf:=CF.out J (aGj _ _);go_wp2_with fail
      go_region_with ((fail))
      all_goals
       go_wp2;refine aGk (v:=.tuple #[.agg #[.string nm,.int .i64 v0,.int .i64 v1,.int .i64 d,.bool lp,.int .i64 t,.int .i64 F,.int .i64 G,.int .i64 I],.bool false]) (aX results100 _ _ w.heap.size 101 _ (0,0) _ _ rfl rfl (by rw[aA8];exact CE.out J (aGj _ _)) underlying101 rfl aJ.out) rfl ?_;exact⟨by rw[HM.out,HE.out,bT.out,HD.out];rfl,(CB.out J (aGj _ _)).drew⟩
end Go.Proofs.YtbpgfkjhclpbdaaGreatDoor
