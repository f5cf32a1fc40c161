/- CodeX, CodeY. Conditions: as each theorem states. -/
import Derived.Test.YtbpgfkjhclpbdaaGreatDoorPw27
import Derived.Test.YtbpgfkjhclpbdaaGreatDoorPw29
namespace Go.Proofs.YtbpgfkjhclpbdaaGreatDoor
open Tryz
open Go.RowKit
section
open Go.Lib (hid)
open Go.RowKit
def gJ(fs:List aFJ)(i:Nat):aFJ:=fs.getD i fD
theorem IB{fs:List aFJ}{i:Nat}{f:aFJ}(h:fs[i]? = some f):gJ fs i=f:=by unfold gJ;rw[aGz,h];rfl
theorem TZ{fs:List aFJ}{i:Nat}(h:i<fs.length):gJ fs i∈fs:=by rw[IB (TT h)];exact aIj _
theorem YN{fs:List aFJ}(hR:∀ f∈fs,aFQ f)(i:Nat):(gJ fs i).gains.length=4:=by
 rcases aGt i fs.length with h|h
 ·exact (hR _ (TZ h)).gains.1
 ·unfold gJ;rw[aGz,aGr h];rfl
theorem IP{sz:Nat}(fs:List aFJ)(g:aFJ->List Int):bI sz fs.length (fun i=>g (gJ fs i)) fs.length=(fs.map g).flatten:=by
 unfold bI
 congr 1
 apply aGL;intro i;rcases aGt i fs.length with h|h
 ·rw[aI _ h,FN h,aF5,TT h];show some (g (gJ fs i))=_;rw[IB (TT h)];rfl
 ·rw[aGr (by simpa using h),aGr (by simpa using h)]
theorem ZA{sz c:Nat}{f:Nat->List Int}(hf:∀ i,(f i).length=sz){i:Nat}(hi:i<c):eJ sz (bI sz c f c) i=f i:=by
 have:=tR (sz:=sz) (c:=c) (R:=fun i=>if i<c then f i else List.replicate sz 0) (fun j d=>by
  show (if j<c then f j else List.replicate sz 0).length=sz;rw[FN d,hf]) hi
 exact this.trans (FN hi)
theorem aDW{c:Nat}(fs:List aFJ):BdL 2147483648 (bI 16 c (fun i=>bV (gJ fs i)) c):=by
 have h:∀ i,i<c->(if i<c then bV (gJ fs i) else List.replicate 16 (0:Int)).length=16:=fun i hi=>by rw[FN hi,fO]
 exact RZ (c:=c) (R:=fun i=>if i<c then bV (gJ fs i) else List.replicate 16 0) h (fun i hi j d=>by
  simp only[FN hi]at d ⊢;rw[fO]at d;have:=IU (gJ fs i) d;omega)
theorem BB{P:Program}{ops:Array Oper}{o:Oper}{a:Act}{C:World->Prop}(t:Region.wanted o (yielded ops a.tmps)=true)(ty:TypeId)(x:Operand)(F:o.op=.load ty x)
 (g off:Nat)(I:a.eval x=.pointer (some ⟨g,off,none⟩))(xs:List Value)(d:TypeDesc)(h:∀ w,C w->∀ j v,xs[j]? = some v->w.cell? ⟨g,off+j,none⟩=some v)
 (G:P.underlying ty=some d)(z:(match d with | .struct _ | .array _ _=>true|_=>false)=true)(hi:(P.info? ty).map (·.size)=some xs.length):YieldsIn P ops C o (.agg xs.toArray) a:=by
 refine .inl ⟨t,fun w t=>?_⟩;unfold Oper.quietAt execOp;simp only[F,I,Instr.loadAt,Instr.sureAddr,aHS,Sem.run_pure,Result.andThen_ok,mI w g off ty xs d (h w t) G z hi];exact⟨rfl,rfl⟩
def Z8(W:World)(xs:List Int)(e:Ending)(w':World):Prop:=∃ A c,e=.returned (.slice A xs.length c)/\xs.length<=c/\c<=9223372036854775807/\w'.ownsRow W.heap.size 3 1 (.slice A xs.length c) xs.length (xs.map (.int .i64))/\Below W.heap.size W w'
theorem IF{w:World}{base base' size n:Nat}{e:TypeId}{v:Value}{xs:List Value}(h:w.ownsRow base e size v n xs)(hb:base'<=base):w.ownsRow base' e size v n xs:=by
 refine⟨h.1,?_⟩;rcases h.2 with h1|⟨g,cap,d,h1,h2,t⟩
 ·exact .inl h1
 ·exact .inr ⟨g,cap,d,h1,aGE hb h2,t⟩
set_option maxRecDepth 100000 in
set_option maxHeartbeats 8000000 in
theorem QF(gc:Nat)(size:Int)(L:List (FrH × aFJ))(A:Option Addr)(cap:Nat)(k:Int)(w:World)(hg:CoderAt w gc size)(hc:L.length<=100000)(hA:aF0 w A L)(hR:∀ p∈L,aFQ p.2):
  Calls prog 83 #[.pointer (some ⟨gc,0,none⟩),.slice A L.length cap,.int .i64 k] w (Z8 w (lO (L.map Prod.snd) k)):=by
 have aY:∀ f∈L.map Prod.snd,aFQ f:=fun f hf=>by
  obtain⟨p,O,rfl⟩:=aGq.1 hf;exact hR p O
 obtain⟨fs,a1⟩:∃ fs,L.map Prod.snd=fs:=⟨_,rfl⟩;have aH:fs.length=L.length:=by rw[<-a1,aF7]
 rw[a1]at aY ⊢;obtain⟨c,bH⟩:∃ c,L.length=c:=⟨_,rfl⟩;rw[bH]at hc aH ⊢;have aT:=hid (fun i=>fO (gJ fs i));have aM:=hid (fun i=>YN aY i);have cA:=hid (fun m (hm:m<c)=>o7 (sz:=16) aT.out (by decide) hm);have b5:=hid (fun m (hm:m<c)=>o7 (sz:=4) aM.out (by decide) hm);have cB:=hid (fun m=>eP (sz:=16) (c:=c) aT.out m);have b6:=hid (fun m=>eP (sz:=4) (c:=c) aM.out m);have cQ:tY (bI 4 c (fun i=>(gJ fs i).gains) c) c:=⟨eP aM.out _,fun i hi=>by
  rw[ZA aM.out hi];have hm:=aY _ (TZ (by rw[aH];exact hi));exact⟨hm.gains.1,OB hm.gains⟩⟩
 have HW:=hid (fun B Bg kb kg W (r:Row W W.heap.size B ((bI 16 c (fun i=>bV (gJ fs i)) c).map (.int .i64))) (rg:Row W W.heap.size Bg ((bI 4 c (fun i=>(gJ fs i).gains) c).map (.int .i64))) =>
  aAR (bI 16 c (fun i=>bV (gJ fs i)) c) (bI 4 c (fun i=>(gJ fs i).gains) c) B Bg kb kg c k W (eP aT.out _) hc r cQ rg (aDW fs))
 have dC:lO fs k=(l7 (oN (bI 16 c (fun i=>bV (gJ fs i)) c) (bI 4 c (fun i=>(gJ fs i).gains) c) c) k).map sR:=by
  unfold lO;have e1:=IP (sz:=16) fs bV;have e2:=IP (sz:=4) fs (·.gains);rw[aH]at e1 e2;rw[<-e1,<-e2,aH]
 rw[dC];have dE:(l7 (oN (bI 16 c (fun i=>bV (gJ fs i)) c) (bI 4 c (fun i=>(gJ fs i).gains) c) c) k).length<=c*16:=by
  unfold l7;rw[aGB,xI (eP aT.out _)];omega
 have dZ:=hid (fun m p (h:L[m]? = some p)=>(show gJ fs m=p.2 from IB (by rw[<-a1,aF5,h];rfl)));obtain⟨X,hX⟩:∃ X,l7 (oN (bI 16 c (fun i=>bV (gJ fs i)) c) (bI 4 c (fun i=>(gJ fs i).gains) c) c) k=X:=⟨_,rfl⟩;rw[hX]at HW dE ⊢;have HA:=hid hA;have HR:=hid hR;have d6:=hid bH;have d2:=hid (fun (p:FrH × aFJ) W (h:aFQ p.2) (r:Row W W.heap.size p.1.a (aV p.2.tones))=>(show Calls prog 130 #[.agg (frC p).toArray] W fun e w'=>e=.returned (aR (bV p.2))/\Below W.heap.size W w' from xO p.2 p.1.a p.1.c W h r));obtain⟨i0,hi,eS,eT,eU⟩:=xW;obtain⟨i4,eL,eV,dF,eX⟩:∃ i,prog.info? 40=some i/\i.zero=some (.agg (List.replicate 4 (Value.int .i64 0)).toArray)/\i.size=4/\i.bytes=32:=by
  have:=aE9;cases h:prog.info? 40 with
  | none=>rw[h]at this;cases this
  | some i =>
   rw[h]at this;simp only[Option.map_some,aIN,aI7]at this;exact⟨i,rfl,this.1,this.2.1,this.2.2⟩
 obtain⟨iI,eM,eY,eZ,e0⟩:=aHx aAn;have bB:=hid (show (madeCells (Value.agg (List.replicate 16 (Value.int .i64 0)).toArray).cells (c*16)).toList=List.replicate (c*16) (.int .i64 0) from fV _ _ (by decide) (fun j hj=>by
  have fH:j<16:=hj;have hk:j=0\/j=1\/j=2\/j=3\/j=4\/j=5\/j=6\/j=7\/j=8\/j=9\/j=10\/j=11\/j=12\/j=13\/j=14\/j=15:=by omega
  rcases hk with rfl|rfl|rfl|rfl|rfl|rfl|rfl|rfl|rfl|rfl|rfl|rfl|rfl|rfl|rfl|rfl <;> rfl) _)
 have a9:=hid (show (madeCells (Value.agg (List.replicate 4 (Value.int .i64 0)).toArray).cells (c*4)).toList=List.replicate (c*4) (.int .i64 0) from fV _ _ (by decide) (fun j hj=>by
  have fI:j<4:=hj;have hk:j=0\/j=1\/j=2\/j=3:=by omega
  rcases hk with rfl|rfl|rfl|rfl <;> rfl) _)
 obtain⟨F,a3⟩:∃ F,madeCells (Value.agg (List.replicate 16 (Value.int .i64 0)).toArray).cells (c*16)=F:=⟨_,rfl⟩;obtain⟨md,c4⟩:∃ md,madeCells (Value.agg (List.replicate 4 (Value.int .i64 0)).toArray).cells (c*4)=md:=⟨_,rfl⟩;rw[a3]at bB;rw[c4]at a9;have c1:F=((bI 16 c (fun i=>bV (gJ fs i)) 0).map (Value.int .i64)).toArray:=by
  apply aHX.1;rw[bB.out,o8]
 have c5:md=((bI 4 c (fun i=>(gJ fs i).gains) 0).map (Value.int .i64)).toArray:=by
  apply aHX.1;rw[a9.out,o8]
 have b7:=hid (show Blk ((w.alloc (.cells F 43)).alloc (.cells md 40)) w.heap.size 43 ((bI 16 c (fun i=>bV (gJ fs i)) 0).map (.int .i64)) by
  rw[c1];exact (Blk.new w 43 ((bI 16 c (fun i=>bV (gJ fs i)) 0).map (.int .i64))).alloc _)
 have b4:=hid (show Blk ((w.alloc (.cells F 43)).alloc (.cells md 40)) (w.heap.size+1) 40 ((bI 4 c (fun i=>(gJ fs i).gains) 0).map (.int .i64)) by
  rw[c5];have:=Blk.new (w.alloc (.cells F 43)) 40 ((bI 4 c (fun i=>(gJ fs i).gains) 0).map (.int .i64));simpa using this)
 have b2:=hid ((aP w (.cells F 43)).alloc (by simp) (.cells md 40));have Hg:=hid hg;obtain⟨tv,eQ,bD⟩:∃ tv:List Value,tv.length=32/\dS=tv.toArray:=⟨dS.toList,by rw[Array.length_toList,fL],by simp⟩;have dU:=hid (fun j v (t:tv[j]? = some v)=>(show (jG size)[0+j]? = some v by
  unfold jG;have hj:j<32:=by have:=(aGi.1 t).1;omega
  rw[aGn,aJx,sL (by rw[fL];omega),bD,aHL];exact t))
 rw[bD]at HW;unfold CoderAt at Hg;have dT:=hid (show (prog.info? 91).map (·.size)=some tv.length by rw[eQ];exact rK);clear hg hA hR dC cQ bD c1 c5 bB a9 bH a1 aY aH hX;generalize jG size=cv at *
 go_enter func83,ntmps83;go_wp2_with (first|(refine dX w rfl (.tmp 17) (.tmp 17) 232 rfl 43 i0 (.agg (List.replicate 16 (Value.int .i64 0)).toArray) 16 underlying232 hi eS eT .i64 .i64 c rfl rfl (by rw[eU];omega) (by omega) ?_;rw[a3])|(refine dX (w.alloc (.cells F 43)) rfl (.tmp 20) (.tmp 20) 233 rfl 40 i4 (.agg (List.replicate 4 (Value.int .i64 0)).toArray) 4 underlying233 eL eV dF .i64 .i64 c rfl rfl (by rw[eX];omega) (by omega) ?_;rw[c4]))
 go_loopw [24] (fun i wr=>∃ m:Nat,m<=c/\i=.int .i64 m/\Blk wr w.heap.size 43 ((bI 16 c (fun i=>bV (gJ fs i)) m).map (.int .i64))/\Blk wr (w.heap.size+1) 40 ((bI 4 c (fun i=>(gJ fs i).gains) m).map (.int .i64))/\Below w.heap.size w wr) (fun i _=>c-(intOf i).toNat)
 case atStart=>exact⟨0,by omega,rfl,b7.out,b4.out,b2.out⟩
 case round =>
  obtain⟨m,hm,rfl,hB,hG,aG⟩:=hrel;have V:=hid hB;have I:=hid hG;have aB:=hid aG;clear b7 b4 b2 hB hG aG
  by_cases aI:m<c
  ·have t1:(m:Int)<(c:Int):=by omega
   have t2:(0:Int)<=(m:Int):=by omega
   obtain⟨p,O⟩:=aE (k:=m) d6.out aI;have bK:=aGh O;have aJ:=HR.out p bK;have c7:=(HA.out.tones p bK).later aB.out;have c8:=dZ.out m p O;obtain⟨b,off,rfl,hb,cY⟩:=FY HA.out O;have FX:=hid (fun j v (t:(frC p)[j]? = some v)=>(show wr.cell? ⟨b,off+m*29+j,none⟩=some v from (aB.out.cell (p:=⟨b,off+m*29+j,none⟩) hb).trans (cY j v t)));have a0:(frC p).length=29:=jT aJ.len;have d7:=hid (show (frC p).toArray.all (·.oneCell')=true by
    rw[aGY];intro v t;exact lH p v (by simpa using t))
   have a8:=cA.out m aI;have a7:=b5.out m aI;have cS:=cB.out m;have cR:=b6.out m;simp only[c8]at a8 a7;have c0:p.2.gains.length=4:=aJ.gains.1;have HQ:=hid (fun (x:GW (wr.alloc (.cells (frC p).toArray 45)))=>d2.out p x.1 aJ ((c7.later (aP wr _)).later x.2).2.2);have dR:=hid (fun j v (t:(p.2.gains.map (Value.int .i64))[j]? = some v)=>(show (frC p).toArray[0+j]? = some v from tD aJ.len _ t));unfold aR at HQ;have eC:=hid (gO (bV p.2));have eD:=hid (gO p.2.gains);have bM:((bV p.2).map (Value.int .i64)).length=16:=by rw[aF7,fO]
   have bP:(p.2.gains.map (Value.int .i64)).length=4:=by rw[aF7,c0]
   have aS:(aW (bI 16 c (fun i=>bV (gJ fs i)) m) (m*16) (bV p.2)).map (Value.int .i64)=(bI 16 c (fun i=>bV (gJ fs i)) (m+1)).map (Value.int .i64):=by rw[a8]
   have aN:(aW (bI 4 c (fun i=>(gJ fs i).gains) m) (m*4) p.2.gains).map (Value.int .i64)=(bI 4 c (fun i=>(gJ fs i).gains) (m+1)).map (Value.int .i64):=by rw[a7]
   rw[kU]at aS aN;have c9:=mK (sz:=16) aI;have dA:=mK (sz:=4) aI;obtain⟨U1,bF⟩:∃ U1,(bI 16 c (fun i=>bV (gJ fs i)) (m+1)).map (Value.int .i64)=U1:=⟨_,rfl⟩;obtain⟨V1,bG⟩:∃ V1,(bI 4 c (fun i=>(gJ fs i).gains) (m+1)).map (Value.int .i64)=V1:=⟨_,rfl⟩;rw[bF]at aS;rw[bG]at aN;have d3:=hid bF;have d4:=hid bG;have cE:=hid (show ((bI 16 c (fun i=>bV (gJ fs i)) m).map (Value.int .i64)).length=c*16 by rw[aF7,cS]);have cG:=hid (show ((bI 4 c (fun i=>(gJ fs i).gains) m).map (Value.int .i64)).length=c*4 by rw[aF7,cR]);generalize (bI 16 c (fun i=>bV (gJ fs i)) m).map (Value.int .i64)=U0 at *
   generalize (bI 4 c (fun i=>(gJ fs i).gains) m).map (Value.int .i64)=V0 at *
   generalize (bV p.2).map (Value.int .i64)=zs at *
   generalize p.2.gains.map (Value.int .i64)=G at *
   generalize frC p=z at *
   have dY:=hid aS;have dW:=hid aN;have dP:=hid (show (prog.info? 45).map (·.size)=some z.length by rw[a0];exact bZ);have b3:=hid (show (prog.info? 45).map (·.size)=some z.toArray.size by rw[aGH,a0];exact bZ);have eA:=hid (show z.toArray.size=29 by rw[aGH,a0]);have dQ:=hid (show (prog.info? 43).map (·.size)=some zs.length by rw[bM];exact bJ);have a6:=hid (show (prog.info? 40).map (·.size)=some G.length by rw[bP];exact b9);have d8:=hid (show m*16+zs.length<=U0.length by rw[bM,cE.out];exact c9);have d9:=hid (show m*4+G.length<=V0.length by rw[bP,cG.out];exact dA);have HN:=hid (LT wr (.cells z.toArray 45));clear O bK aJ c7 c8 cY a0 cS cR c0 bM bP a8 a7 aS aN bF bG c9 dA cE cG;go_wp2_with (first|(refine aL rfl 45 (.tmp 27) rfl b (off+m*29) rfl z _ FX.out underlying45 rfl dP.out ?_)|(refine aA rfl 45 (.tmp 10) (.tmp 28) rfl wr.heap.size rfl _ _ z.toArray rfl (LT wr _) b3.out (by rw[eA.out];rfl) d7.out ?_;rw[aGT]))
   have x5:=eW HN.out;have y5:=fun W hW j v t=>(show World.cell? W ⟨wr.heap.size,0+j,none⟩=some v from (aGo _ _ _ _ _ _ (x5 W hW)).trans (dR.out j v t))
   refine A9 [0,1,2,3,6] [4,5,8] 7 9 [10,11] (v:=.agg G.toArray) (by kernel_rfl) (by kernel_rfl) rfl (fun c a' w' d v h=>by cases d <;> exact h) ?_;simp only[j6,List.filterMap_cons,List.filterMap_nil,aHL,List.getElem?_cons_succ,List.getElem?_cons_zero];refine⟨.slice (some ⟨w.heap.size,0,none⟩) c c,.inl ⟨by rfl,fun W=>by go_simp⟩,?_⟩;refine⟨.int .i64 m,.inl ⟨by rfl,fun W=>by go_simp⟩,?_⟩;refine⟨.slice (some ⟨w.heap.size+1,0,none⟩) c c,.inl ⟨by rfl,fun W=>by go_simp⟩,?_⟩;refine⟨.int .i64 m,.inl ⟨by rfl,fun W=>by go_simp⟩,?_⟩;refine⟨.pointer (some ⟨wr.heap.size,0,none⟩),.inl ⟨by rfl,fun W=>by go_simp⟩,?_⟩;refine⟨BB (by rfl) 40 (.tmp 35) rfl wr.heap.size 0 rfl G _ y5 underlying40 rfl a6.out,?_⟩;simp only[Act.put,aGK,List.set_cons_succ,List.set_cons_zero];change wpQuiet _ (List.toArray _) _ _ (_::_::_::[]) { tmps:=List.toArray _,defers:=[] }
   repeat (first|(go_big_quiet_want;refine bT 45 (.tmp 10) rfl wr.heap.size rfl _ z.toArray _ _ x5 underlying45 rfl b3.out ?_;go_simp;go_big_quiet_on)|go_big_quiet_step ((go_at_call 130;exact bY (HQ.out _))))
   refine aGv ?_;intro w5 a4;have y6:=y5 w5 a4;have aZ:=aC (aP wr (.cells z.toArray 45)) (aQ a4);have dF:=(aQ a4).size;have B5:=hid (V.out.below aZ V.out.lt);have G5:=hid (I.out.below aZ I.out.lt);have E5:=hid (aC aB.out aZ);have fJ:=I.out.lt;have G6:=hid (show (w5.setRow w.heap.size U1.toArray).heap[w.heap.size+1]? = some (.cells V0.toArray 40 (0,0)) from (aHy _ _ _ _ (by omega)).trans G5.out);have Y6:=hid (fun j v (t:G[j]? = some v)=>(show (w5.setRow w.heap.size U1.toArray).cell? ⟨wr.heap.size,0+j,none⟩=some v from (aH5 (aHy _ _ _ _ (by show wr.heap.size≠w.heap.size;omega))).trans (y6 j v t)));clear a4 aZ x5 y5 y6;refine⟨?A,?B⟩
   case' A =>
    simp only[aGK];change wpList _ (List.toArray _) _ (_::_::_::[]) { tmps:=List.toArray _,defers:=[] } _
   case' B =>
    change wpList _ (List.toArray _) _ (_::_::_::_::[]) { tmps:=List.toArray _,defers:=[] } _
   all_goals
    go_wp2_with (first|(refine cH rfl 43 (.tmp 37) (.tmp 34) rfl w.heap.size (m*16) rfl _ _ zs rfl B5.out dQ.out d8.out eC.out ?_;rw[dY.out])|(refine aL rfl 40 (.tmp 35) rfl wr.heap.size 0 rfl G _ Y6.out underlying40 rfl a6.out ?_)|(refine cH rfl 40 (.tmp 38) (.tmp 36) rfl (w.heap.size+1) (m*4) rfl _ _ G rfl G6.out a6.out d9.out eD.out ?_;rw[dW.out]))
    go_roundw
    case rel =>
     refine⟨m+1,by omega,by go_num,?_,?_,aO (aO E5.out _ (by omega) _) _ (by omega) _⟩
     ·rw[d3.out];exact (aHy _ _ _ _ (by omega)).trans (bA w5 _ _ _ _ B5.out)
     ·rw[d4.out];exact bA _ _ _ _ _ G6.out
    case measure=>simp[intOf];omega
  ·have a3:m=c:=by omega
   have t1:¬ ((m:Int)<(c:Int)):=by omega
   subst a3;have Lg:=hid (aF Hg.out aB.out);have LX:=hid (fun j v (t:tv[j]? = some v)=>(aGo _ _ _ _ _ _ Lg.out).trans (dU.out j v t));have HX:=hid (HW.out (some ⟨w.heap.size,0,none⟩) (some ⟨w.heap.size+1,0,none⟩) m m wr (fun i v t=>⟨w.heap.size,0,rfl,V.out.lt,by rw[V.out.cell,aGn];exact t⟩) (fun i v t=>⟨w.heap.size+1,0,rfl,I.out.lt,by rw[I.out.cell,aGn];exact t⟩));clear V I HW cA b5 cB b6;go_wp2_with (first|(go_at_call 131;fail)|(refine aL rfl 91 (.tmp 42) rfl gc 0 rfl tv _ LX.out underlying91 rfl dT.out ?_))
   refine HX.out.mono ?_;rintro e U ⟨A3,c3,rfl,cW,eJ,dB,cU⟩;have R3:=hid dB;have E3:=hid (aC aB.out cU);obtain⟨N,hN⟩:∃ N,X.length=N:=⟨_,rfl⟩;rw[hN]at dE cW ⊢;have Z:=hid hN;clear dB cU HX LX Lg cW eJ hN;go_wp2_with fail
   go_loopw [11,49] (fun o i wx=>∃ (q:Nat) (A':Option Addr) (cc:Nat),q<=N/\i=.int .i64 q/\o=.slice A' q cc/\cc<=9223372036854775807/\wx.ownsRow U.heap.size 3 1 (.slice A' q cc) q (((X.map sR).take q).map (.int .i64))/\Below U.heap.size U wx) (fun _ i _=>N-(intOf i).toNat)
   case atStart=>exact⟨0,none,0,by omega,rfl,rfl,by omega,aHc _ _ _ _,aGj _ _⟩
   case round =>
    obtain⟨q,A',cc,hq,rfl,rfl,cX,bL,aG⟩:=hrel;have bC:=hid bL;have J:=hid aG;have eB:=hid (bO bL);have d5:=hid cX;clear bL aG cX
    by_cases eN:q<N
    ·have t3:(q:Int)<(N:Int):=by omega
     obtain⟨x,hx⟩:=aE (k:=q) Z.out eN;obtain⟨b,off,hA,hb,k0⟩:=R3.out q (.int .i64 x) (by rw[aF5,hx];rfl);have k1:=(J.out.cell (p:=⟨b,off+q,none⟩) hb).trans k0;subst hA;have HS:=hid (show ((X.map sR).take (q+1)).map (Value.int .i64)=((X.map sR).take q).map (Value.int .i64)++[.int .i64 (sR x)] by
      have eR:(X.map sR)[q]? = some (sR x):=by rw[aF5,hx];rfl
      obtain⟨hm,he⟩:=aGi.1 eR;rw[aHG hm,aG2,he];rfl)
     have HC:=hid (fun W=>aCW x W);generalize sR x=sx at *
     clear hx k0;go_wp2_with (first|(go_at_call 132;refine (HC.out _).mono ?_;rintro e w8 ⟨rfl,rfl⟩)|(at_builtin;refine cF _ rfl (.tmp 53) (.tmp 56) 63 rfl U.heap.size 3 iI (.int .i64 0) 1 8 underlying63 eM eY eZ e0 rfl (by omega) _ q _ rfl (bC.out.alloc _) (wr.heap.size+1) (some ⟨wr.heap.size,0,none⟩) 1 1 [.int .i64 _] rfl rfl (Row.new wr _ _) (fun u hu=>by simp at hu;subst hu;rfl) (by omega) (by omega) (by have:=J.out.size;simp;omega) ?_;intro A2 c2 w9 c6 eK fF fG))
     go_roundw
     case rel =>
      have eI:Below U.heap.size U w9:=(J.out.alloc J.out.size _).grown eK (by have:=J.out.size;simp;omega) (fun g h=>eB.out g h);exact⟨q+1,A2,c2,by omega,by go_num,rfl,gK c6,by rw[HS.out];exact c6,eI⟩
     case measure=>simp[intOf];omega
    ·have t3:¬ ((q:Int)<(N:Int)):=by omega
     have eO:q=N:=by omega
     have HE:=hid (show ((X.map sR).take q).map (Value.int .i64)=(X.map sR).map (.int .i64) by rw[aGW (by rw[aF7,Z.out];omega)]);subst eO;go_wp2
     go_ret
     exact⟨A',cc,by rw[aF7,Z.out];rfl,by rw[aF7,Z.out];exact oZ bC.out,d5.out,by rw[<-HE.out,aF7,Z.out];exact IF bC.out E3.out.size,aC E3.out J.out⟩
end
end Go.Proofs.YtbpgfkjhclpbdaaGreatDoor
