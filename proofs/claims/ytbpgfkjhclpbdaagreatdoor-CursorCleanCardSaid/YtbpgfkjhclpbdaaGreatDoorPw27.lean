/- CodeW. Conditions: as each theorem states. -/
import Derived.Test.YtbpgfkjhclpbdaaGreatDoorPw21
import Derived.Test.YtbpgfkjhclpbdaaGreatDoorPw22
import Derived.Test.YtbpgfkjhclpbdaaGreatDoorPw26
namespace Go.Proofs.YtbpgfkjhclpbdaaGreatDoor
open Tryz
open Go.Lib (hid)
open Go.RowKit
theorem aDk{l:List Int}(h:nT l):l.all GK=true:=by
 rw[aGD];intro x d;have:=h x d;unfold GK;rw[aGs (show -32768<=x by omega),aGs (show x<32768 by omega)];rfl
theorem N9{l:List Int}{size:Int}{m:Nat}(hm:m<aS l.length):(bK l size).take (m+1)=(bK l size).take m++[frZ l size m]:=by
 have h:(bK l size)[m]? = some (frZ l size m):=by unfold bK;exact aI _ hm
 obtain⟨h1,h2⟩:=aGi.1 h;rw[aHG h1,h2]
set_option maxRecDepth 100000 in
set_option maxHeartbeats 8000000 in
theorem VT(gc:Nat)(size:Int)(l:List Int)(A:Option Addr)(cap:Nat)(w:World)(hg:CoderAt w gc size)(c1:24<=size)(c3:size<=96)(hl:l.length<=1000000)(hr:Row w w.heap.size A (l.map (.int .i64)))(aN:nT l):
  Calls prog 145 #[.pointer (some ⟨gc,0,none⟩),.slice A l.length cap] w (VS w (bK l size)):=by
 have bP:=hid (WU l A cap w (by omega) hr);rw[aDk aN]at bP;have a7:=hid (aA5 l A cap w (by omega) hr);have bL:=hid (fun B k W (hg:CoderAt W gc size) (r:Row W W.heap.size B (l.map (.int .i64)))=>aAK gc size l B k W hg hl r (fun k x hx=>by have:=aN x (aGh hx);omega));have bQ:=hid (fun B k Bg kg W (r:Row W W.heap.size B (l.map (.int .i64))) (rg:Row W W.heap.size Bg ((gN l size).map (.int .i64)))=>(show Calls prog 176 #[.agg dS,.slice B l.length k,.slice Bg (aS l.length) kg] W (Z9 W (aS l.length) (f7 l size)) from
  QI l (gN l size) B Bg k kg (aS l.length) W rfl hl r (kQ l size) rg (fun x hx=>by have:=aN x hx;omega)))
 have dC:=hid (fun i W (hi:i<aS l.length)=>(show Calls prog 177 #[aR (aK (f7 l size) i),aR (eJ 4 (gN l size) i),.int .i64 size] W (j8 W (frZ l size i) 0) from by
  have:=aAJ (aK (f7 l size) i) (eJ 4 (gN l size) i) size W (bM (iF l size) hi) (fun k x hx=>by
   have:=(QQ aN size hi).mem x (aGh hx);omega) ((kQ l size).2 i hi).1
  rw[zY aN c1 c3 hi]at this;exact this))
 have dI:=hid (fun m (hm:m<aS l.length)=>N9 (size:=size) hm);have dE:=hid (fun i (hi:i<aS l.length)=>(BS aN c1 c3 hi).1.len);have dJ:=hid (eU l size);have dH:=hid (iF l size);have eL:=hid (kQ l size).1;have dG:=hid (fun i (hi:i<aS l.length)=>bM (iF l size) hi);have dD:=hid (fun i (hi:i<aS l.length)=>((kQ l size).2 i hi).1);have e0:aS l.length<=1000000:=by unfold aS;omega
 have Hg:=hid hg;have t1:¬ ((1048576:Int)<(l.length:Int)):=by omega
 obtain⟨i0,hi,⟨z0,b2,d5⟩,b0,dW⟩:=tE;have eH:=hid (BJ size);have fK:(jG size).size=33:=Q6 size;obtain⟨tv,e6,cM⟩:∃ tv:List Value,tv.length=32/\dS=tv.toArray:=⟨dS.toList,by rw[Array.length_toList,fL],by simp⟩;have eN:=hid (fun j v (U:tv[j]? = some v)=>(show (jG size)[0+j]? = some v by
  unfold jG;have hj:j<32:=by have:=(aGi.1 U).1;omega
  rw[aGn,aJx,sL (by rw[fL];omega),cM,aHL];exact U))
 rw[cM]at bQ;unfold CoderAt at Hg bL;obtain⟨n,hn⟩:∃ n,l.length=n:=⟨_,rfl⟩;rw[hn]at bP a7 bL bQ dC dI dE dJ dH eL dG dD e0 t1 ⊢;have Hn:=hid hn;clear hg hr aN c1 c3 hl hn cM;generalize bK l size=FZ at *
 generalize frZ l size=fz at *
 generalize f7 l size=S at *
 generalize gN l size=G at *
 generalize jG size=cv at *
 have eM:=hid (show (prog.info? 91).map (·.size)=some tv.length by rw[e6];exact rK);generalize aS n=c at *
 unfold qW at a7;rw[Hn.out]at a7;go_enter func145,ntmps145;go_wp2_with (first|(go_at_call 173;refine bP.out.mono ?_;rintro e w1 ⟨rfl,rfl⟩)|(go_at_call 174;fail))
 refine a7.out.mono ?_;rintro e w1 ⟨gx,rfl,e4,cV,cR⟩;have X1:=hid (show Row w1 w1.heap.size (some ⟨gx,0,none⟩) (l.map (.int .i64)) from fun i v U=>⟨gx,0,rfl,cV.lt,by rw[cV.cell,aGn];exact U⟩);have E1:=hid cR;have C1:=hid (aF Hg.out cR);clear cV cR e4 a7 bP Hg;go_wp2_with (go_at_call 175;fail)
 refine (bL.out _ _ _ C1.out X1.out).mono ?_;rintro e w2 ⟨gg,rfl,e3,cT,bW⟩;have X2:=hid (X1.out.later bW);have G2:=hid (show Row w2 w2.heap.size (some ⟨gg,0,none⟩) (G.map (.int .i64)) from fun i v U=>⟨gg,0,rfl,cT.lt,by rw[cT.cell,aGn];exact U⟩);have E2:=hid (aC E1.out bW);have C2:=hid (aF C1.out bW);have L2:=hid (fun j v (U:tv[j]? = some v)=>(aGo _ _ _ _ _ _ C2.out).trans (eN.out j v U));clear cT bW e3 X1 E1 C1 bL;go_wp2_with (first|(go_at_call 176;fail)|(refine aL rfl 91 (.tmp 31) rfl gc 0 rfl tv _ L2.out underlying91 rfl eM.out ?_))
 refine (bQ.out _ _ _ _ _ X2.out G2.out).mono ?_;rintro e w3 ⟨As,cs,rfl,e2,d0,bX⟩;have S3:=hid d0;have G3:=hid (G2.out.later bX);have E3:=hid (aC E2.out bX);have C3:=hid (aF C2.out bX);clear d0 bX e2 X2 G2 E2 C2 L2 bQ;go_wp2_with fail
 go_loopw [8,37] (fun o i wr=>∃ (m:Nat) (M:List (FrH × aFJ)) (A':Option Addr) (cc:Nat),m<=c/\i=.int .i64 m/\M.length=m/\o=.slice A' m cc/\wr.ownsRow w3.heap.size 45 29 (.slice A' m cc) m (iA M) /\
   (∀ p∈M,p.2.Len)/\(∀ p∈M,FrStands wr (Value.slice A' m cc).ownBlock p)/\M.map Prod.snd=FZ.take m/\Below w3.heap.size w3 wr) (fun _ i _=>c-(intOf i).toNat)
 case atStart=>exact⟨0,[],none,0,by omega,rfl,rfl,rfl,aHc _ _ _ _,nofun,nofun,rfl,aGj _ _⟩
 case round =>
  obtain⟨m,M,A',cc,hm,rfl,hM,rfl,cZ,dX,d1,dY,dT⟩:=hrel;have HM:=hid hM;have aJ:=hid cZ;have dL:=hid dX;have bU:=hid d1;have dM:=hid dY;have aI:=hid dT;have eQ:=hid (bO cZ);clear hM cZ dX d1 dY dT
  by_cases bE:m<c
  ·have t2:(m:Int)<(c:Int):=by omega
   obtain⟨bs,os,rfl,fJ⟩:=OR S3.out dH.out (by omega);have SX:=hid (uO ((S3.out.below aI.out).more aI.out.size) (m*16) 16);have HU:=hid (fun W=>dC.out m W bE);have eP:=hid (dI.out m bE);have cD:=hid (dE.out m bE);have dU:=dG.out m bE;have dV:=dD.out m bE;rw[show ((S.drop (m*16)).take 16)=aK S m from rfl]at SX;unfold aR at HU;have b1:((aK S m).map (Value.int .i64)).length=16:=by rw[aF7,dU]
   have d4:((eJ 4 G m).map (Value.int .i64)).length=4:=by rw[aF7,dV]
   have eS:=hid (fE (aK S m));have C4:=hid (aF C3.out (aC aI.out (aP wr (.cells ((aK S m).map (Value.int .i64)).toArray 43))));have G4:=hid (G3.out.later (aC aI.out (aP wr (.cells ((aK S m).map (Value.int .i64)).toArray 43))));have GY:=hid (fun W (hW:∃ x:GW (wr.alloc (.cells ((aK S m).map (Value.int .i64)).toArray 43)),W=x.1)=>(uO (G4.out.below (aQ hW)) (m*4) 4));rw[show ((G.drop (m*4)).take 4)=eJ 4 G m from rfl]at GY;generalize (aK S m).map (Value.int .i64)=xs at *
   generalize (eJ 4 G m).map (Value.int .i64)=ys at *
   generalize fz m=F at *
   have eI:=hid (show (prog.info? 43).map (·.size)=some xs.length by rw[b1];exact bJ);have dB:=hid (show (prog.info? 43).map (·.size)=some xs.toArray.size by rw[aGH,b1];exact bJ);have eK:=hid (show (prog.info? 40).map (·.size)=some ys.length by rw[d4];exact b9);have eT:=hid b1;have HN:=hid (LT wr (.cells xs.toArray 43));clear b1 d4 dU dV;go_wp2_with (first|(refine aL rfl 43 (.tmp 40) rfl bs (os+m*16) rfl xs _ SX.out underlying43 rfl eI.out ?_)|(refine aA rfl 43 (.tmp 10) (.tmp 41) rfl wr.heap.size rfl _ _ xs.toArray rfl (LT wr _) dB.out (by show (16:Nat)=_;rw[aGH,eT.out]) eS.out ?_;rw[aGT]))
   have x5:=eW HN.out;have z5:=eW C4.out;have u5:=fun (x:GW (wr.alloc (.cells xs.toArray 43)))=>(show x.1.cell? ⟨gc,32,none⟩=some (.int .i64 size) from (aGo _ _ _ _ _ _ (z5 _ ⟨x,rfl⟩)).trans eH.out)
   have y5:=GY.out;refine sQ 9 (o:=.cells bS 45) (by kernel_rfl) rfl (by kernel_rfl) rfl rfl rfl rfl (fun _ _=>rfl) (fun c a' w' d v h=>by cases d <;> exact h) ?_;simp only[List.take_succ_cons,List.take_zero];simp only[Act.put]
   repeat (first|(go_big_quiet_want;refine bT 43 (.tmp 10) rfl wr.heap.size rfl _ xs.toArray _ _ x5 underlying43 rfl dB.out ?_;go_simp;go_big_quiet_on)|(go_big_quiet_want;refine aY 40 (.tmp 46) rfl gg (m*4) rfl ys _ (by intro W hW;have:=y5 W hW;simpa using this) underlying40 rfl eK.out ?_;go_simp;go_big_quiet_on)|go_big_quiet_step (fail))
   refine aGv ?_;intro J d3;have cS:=aC (aP wr (.cells xs.toArray 43)) (aQ d3);have E5:=hid cS;have fN:=cS.size;have fO:=aI.out.size;clear d3 cS x5 z5 u5 y5 GY SX C4 G4 HN;refine⟨?A,?B⟩
   case' A =>
    have EA:=hid (aC E5.out (aP J (.cells bS 45)));go_wp2_with (go_at_call 177;fail)
    refine (HU.out _).mono ?_;rintro e z ⟨Af,cf,rfl,bH,bD,a1,bG,a0⟩;obtain⟨p,O⟩:∃ p:FrH × aFJ,(⟨⟨Af,cf⟩,F⟩:FrH × aFJ)=p:=⟨_,rfl⟩;have aV:p.2=F:=by rw[<-O]
    have bF:aZ F (.slice Af F.tones.length cf)=(frC p).toArray:=by rw[<-O];rfl
    rw[bF];have aX:=wT aJ.out;have aG:(frC p).length=29:=jT (by rw[aV];exact cD.out);have Z:=aC EA.out a0;have HP:=hid (show FrStands z (Value.slice A' m cc).ownBlock p from by
     rw[<-O];exact xF bH bD bG a1 (fun k hk=>aGM (aX k hk) (EA.out).size))
    have cK:=hid aV;have bB:=hid (fun q I=>(bU.out q I).below Z);have a9:=hid (cU aJ.out Z);have E6:=hid (aC aI.out Z);have e7:=Z.size;have aM:=hid (lH p);obtain⟨t,aT⟩:∃ t,frC p=t:=⟨_,rfl⟩;have dK:=hid aT;rw[aT]at aM aG ⊢;have cL:=hid aG;have aU:t.toArray.size=29:=by rw[aGH,aG]
    have a8:=hid aU;have a4:=hid (show (prog.info? 45).map (·.size)=some t.toArray.size by rw[aU];exact bZ);have cI:=hid (show t.toArray.all (·.oneCell')=true by
     rw[aGY];intro v U;exact aM.out v (by simpa using U))
    have cH:=hid (aF (LT J (.cells bS 45)) a0);have e9:J.heap.size<z.heap.size:=hlt cH.out;have d7:(Value.slice A' m cc).ownBlock≠some J.heap.size:=fun he=>by have:=aX _ he;omega
    have d8:∀ g,p.1.a=some ⟨g,0,none⟩->p.2.tones≠[]->g≠J.heap.size:=by
     rw[<-O];intro g h1 h2;rcases a1 with h|⟨g',h3,h4⟩
     ·exact absurd h h2
     ·rw[h3]at h1;injection h1 with h1
      injection h1 with h1
      simp at h4;omega
    clear bH bD a1 bG a0 O aV bF aG Z aT aU aX;have bR:=aBp (w:=z) J.heap.size t.toArray;have a5:=hid (show (z.setRow J.heap.size t.toArray).heap[J.heap.size]? = some (.cells t.toArray 45 (0,0)) from aHK z J.heap.size _ _ _ _ cH.out);have bA:=hid (a9.out.kept bR (.inr d7));have bV:=hid (fun q I=>(bB.out q I).aside (fun g h1 h2=>by have:=(bU.out q I).block g h1 h2;omega) bR);have bN:=hid (HP.out.aside d8 bR);have EV:=hid (show Below w3.heap.size w3 (z.setRow J.heap.size t.toArray) from aO E6.out _ (by omega) _);obtain⟨V,hV⟩:∃ V,z.setRow J.heap.size t.toArray=V:=⟨_,rfl⟩;clear bR a9 bB HP E6 e9 d7 d8;rw[hV]at a5 bA bV bN EV;have e8:=EV.out.size;go_wp2_with (first|(refine aA rfl 45 (.tmp 11) (.tmp 53) rfl J.heap.size rfl _ _ t.toArray rfl cH.out a4.out (by rw[a8.out];rfl) cI.out ?_;rw[hV])|(refine aB rfl 45 (.tmp 11) rfl J.heap.size rfl _ t.toArray _ _ a5.out underlying45 rfl a4.out ?_)|(refine gT rfl 175 45 (.tmp 59) rfl i0 z0 29 underlying175 hi b2 b0 (by omega) (by omega) t.toArray rfl a8.out ?_)|(at_builtin;refine cF _ rfl (.tmp 58) (.tmp 60) 175 rfl w3.heap.size 45 i0 z0 29 248 underlying175 hi b2 b0 dW d5 (by omega) _ m (iA M) rfl (bA.out.alloc _) (V.heap.size+1) (some ⟨V.heap.size,0,none⟩) 1 1 t rfl (by rw[cL.out]) (Row.new V _ t) aM.out (by omega) (by omega) (by simp;omega) ?_;intro A2 c2 w7 dZ cW dR e1))
   case' B =>
    go_wp2_with (go_at_call 177;fail)
    refine (HU.out _).mono ?_;rintro e z ⟨Af,cf,rfl,bH,bD,a1,bG,a0⟩;obtain⟨p,O⟩:∃ p:FrH × aFJ,(⟨⟨Af,cf⟩,F⟩:FrH × aFJ)=p:=⟨_,rfl⟩;have aV:p.2=F:=by rw[<-O]
    have bF:aZ F (.slice Af F.tones.length cf)=(frC p).toArray:=by rw[<-O];rfl
    rw[bF];have aX:=wT aJ.out;have aG:(frC p).length=29:=jT (by rw[aV];exact cD.out);have Z:=aC E5.out a0;have HP:=hid (show FrStands z (Value.slice A' m cc).ownBlock p from by
     rw[<-O];exact xF bH bD bG a1 (fun k hk=>aGM (aX k hk) (E5.out).size))
    have cK:=hid aV;have bB:=hid (fun q I=>(bU.out q I).below Z);have a9:=hid (cU aJ.out Z);have E6:=hid (aC aI.out Z);have e7:=Z.size;have aM:=hid (lH p);obtain⟨t,aT⟩:∃ t,frC p=t:=⟨_,rfl⟩;have dK:=hid aT;rw[aT]at aM aG ⊢;have cL:=hid aG;have aU:t.toArray.size=29:=by rw[aGH,aG]
    have a8:=hid aU;have a4:=hid (show (prog.info? 45).map (·.size)=some t.toArray.size by rw[aU];exact bZ);have cI:=hid (show t.toArray.all (·.oneCell')=true by
     rw[aGY];intro v U;exact aM.out v (by simpa using U))
    have eO:=hid (LT z (.cells t.toArray 45));clear bH bD a1 bG a0 O aV bF aG Z aT aU aX;have a5:=hid (LT z (.cells t.toArray 45));have bA:=hid (a9.out.alloc (.cells t.toArray 45));have bV:=hid (fun q I=>(bB.out q I).below (aP z (.cells t.toArray 45)));have bN:=hid (HP.out.below (aP z (.cells t.toArray 45)));have EV:=hid (aC E6.out (aP z (.cells t.toArray 45)));obtain⟨V,hV⟩:∃ V,z.alloc (.cells t.toArray 45)=V:=⟨_,rfl⟩;clear a9 bB HP E6 eO;rw[hV]at a5 bA bV bN EV;have e8:=EV.out.size;go_wp2_with (first|(refine aA rfl 45 (.tmp 11) (.tmp 53) rfl z.heap.size rfl _ _ t.toArray rfl (LT z _) a4.out (by rw[a8.out];rfl) cI.out ?_;rw[aGT];rw[hV])|(refine aB rfl 45 (.tmp 11) rfl z.heap.size rfl _ t.toArray _ _ a5.out underlying45 rfl a4.out ?_)|(refine gT rfl 175 45 (.tmp 59) rfl i0 z0 29 underlying175 hi b2 b0 (by omega) (by omega) t.toArray rfl a8.out ?_)|(at_builtin;refine cF _ rfl (.tmp 58) (.tmp 60) 175 rfl w3.heap.size 45 i0 z0 29 248 underlying175 hi b2 b0 dW d5 (by omega) _ m (iA M) rfl (bA.out.alloc _) (V.heap.size+1) (some ⟨V.heap.size,0,none⟩) 1 1 t rfl (by rw[cL.out]) (Row.new V _ t) aM.out (by omega) (by omega) (by simp;omega) ?_;intro A2 c2 w7 dZ cW dR e1))
   all_goals
    go_roundw
    case rel =>
     have eZ:Below w3.heap.size w3 w7:=(EV.out.alloc (by omega) _).grown cW (by simp;omega) (fun g h=>eQ.out g h);have d2:∀ q,FrStands V (Value.slice A' m cc).ownBlock q->FrStands w7 (Value.slice A2 (m+1) c2).ownBlock q:=fun q I=>(I.below (aP V _)).grown cW dR
     refine⟨m+1,M++[p],A2,c2,by omega,by go_num,by simp[HM.out],rfl,?_,?_,?_,?_,eZ⟩
     ·rw[yH,dK.out];exact dZ
     ·intro q I;rcases aGJ.1 I with h|h
      ·exact dL.out q h
      ·rw[aGx]at h;rw[h,cK.out];exact cD.out
     ·intro q I;rcases aGJ.1 I with h|h
      ·exact d2 q (bV.out q h)
      ·rw[aGx]at h;rw[h];exact d2 p bN.out
     ·rw[aG2,dM.out,eP.out,<-cK.out];rfl
    case measure=>simp[intOf];omega
  ·have e5:m=c:=by omega
   subst e5;have t2:¬ ((m:Int)<(m:Int)):=by omega
   go_wp2;refine aGk (aGN results145 _ _ _) rfl ?_;refine⟨A',cc,M,by rw[HM.out];rfl,?_,by rw[HM.out];exact oZ aJ.out,gK aJ.out,⟨Row.of_own aJ.out,dL.out,fun p O=>(bU.out p O).1⟩,aC E3.out aI.out⟩;rw[dM.out,aGW (by rw[dJ.out];exact LE _)]
end Go.Proofs.YtbpgfkjhclpbdaaGreatDoor
