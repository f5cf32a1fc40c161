/- CodeU, CodeV. Conditions: as each theorem states. -/
import Derived.Test.YtbpgfkjhclpbdaaGreatDoorPw23
import Derived.Test.YtbpgfkjhclpbdaaGreatDoorPw25
set_option maxRecDepth 100000
set_option maxHeartbeats 8000000
namespace Go.Proofs.YtbpgfkjhclpbdaaGreatDoor
open Tryz
open Go.Lib (hid)
section
open Go.RowKit
theorem I2:EO bH:=by
 intro q d
 match q,d with
 | 0,_|1,_|2,_|3,_|4,_|5,_|6,_|7,_=>exact⟨rfl,rfl⟩
def Z9(W:World)(c:Nat)(xs:List Int)(e:Ending)(w':World):Prop :=
 ∃ A cap,e=.returned (.slice A c cap)/\c<=cap/\Row w' w'.heap.size A (xs.map (.int .i64))/\Below W.heap.size W w'
theorem uO{W:World}{B:Nat}{b off:Nat}{l:List Int}(h:Row W B (some ⟨b,off,none⟩) (l.map (.int .i64)))(o n:Nat):∀ j v,(((l.drop o).take n).map (Value.int .i64))[j]? = some v->W.cell? ⟨b,off+o+j,none⟩=some v:=by
 intro j v d;rw[aF5,aHe]at d;split at d
 ·rw[aHp]at d;obtain⟨G,I,hA,_,F⟩:=h (o+j) v (by rw[aF5];exact d);injection hA with hA
  injection hA with t z
  subst t z;rw[aG4];exact F
 ·cases d
theorem NH{W:World}{g:Nat}{t:TypeId}{l:List Int}(h:Blk W g t (l.map (.int .i64)))(o n:Nat):∀ j v,(((l.drop o).take n).map (Value.int .i64))[j]? = some v->W.cell? ⟨g,o+j,none⟩=some v:=by
 intro j v d;rw[h.cell,aF5];rw[aF5,aHe]at d;split at d
 ·rw[aHp]at d;exact d
 ·cases d
theorem OR{W:World}{B n:Nat}{A:Option Addr}{l:List Int}(h:Row W B A (l.map (.int .i64)))(d:l.length=n)(t:0<n):∃ b off,A=some ⟨b,off,none⟩/\b<B:=by
 obtain⟨x,z⟩:=aE (k:=0) d t;obtain⟨b,off,hA,hb,_⟩:=h 0 (.int .i64 x) (by rw[aF5,z];rfl);exact⟨b,off,hA,hb⟩
theorem gO(l:List Int):∀ u∈l.map (Value.int .i64),u.oneCell'=true:=fun u d=>by
 obtain⟨y,_,rfl⟩:=aGq.1 d
 rfl
theorem vY{f:Nat->List Int->List Int}{p:List Int}{c:Nat}(hf:∀ i b,i<c->b.length=16->(f i b).length=16)(d:p.length=c*16){m:Nat}(hm:m<c)(pad:List Int):
  (aW (dE f p c m++pad) (m*16) (f m (aK p m))).map (Value.int .i64)=(dE f p c (m+1)++pad).map (.int .i64):=by
 have h:=mK (sz:=16) hm;rw[aBR (by rw[hf m _ hm (bM d hm),kO hf d];exact h),WL hf d hm]
theorem EY{q pad:List Int}{c i:Nat}(d:q.length=c*16)(hi:i<c):(((q++pad).drop (i*16)).take 16)=aK q i:=by
 have h:=mK (sz:=16) hi;unfold aK;rw[aJM (by omega),aJX (by rw[aHV];omega)]
theorem QI(l gs:List Int)(A Ag:Option Addr)(cap dM c:Nat)(w:World)(hc:aS l.length=c)(hl:l.length<=1000000)(hr:Row w w.heap.size A (l.map (.int .i64)))(hg:tY gs c)(cR:Row w w.heap.size Ag (gs.map (.int .i64)))
 (cN:∀ x∈l,-100000000<=x/\x<=100000000):
  Calls prog 176 #[.agg dS,.slice A l.length cap,.slice Ag c dM] w (Z9 w c (xE (fQ l) gs c)):=by
 have dP:c<=1000000:=by rw[<-hc];unfold aS;omega
 have h:(fQ l).length=c*16:=by rw[lN,hc]
 have bB:BdL 100000000 (fQ l):=aAv cN (by omega);have bL:=hid (fun W (hW:Below w.heap.size w W)=>(show Calls prog 203 #[.slice A l.length cap] W (zN W c (fQ l)) from hc▸EI l A cap W (by omega) (hr.later hW)));have dH:=hid (fun m W (hm:m<c)=>aFc (aK (fQ l) m) (eJ 4 gs m) W (bM h hm) ((kI h hm bB).turnB (by omega)) (hg.2 m hm));have dG:=hid (fun m (hm:m<c)=>vY (f:=upF gs) uS h hm []);have dC:=hid (fun m (hm:m<c)=>(s8 (f:=upF gs) uS h m hm).trans (sL (aJ0 _)));have cA:=hid (vZ (f:=upF gs) h);have dF:=hid (fun m=>kO (f:=upF gs) uS h m);have t:(e9 (AY (fQ l) gs c) c).length=c*16:=yP (nB h);have cL:BdL 1200000004 (e9 (AY (fQ l) gs c) c):=AF (M:=800000000) (nB h) (LE c) (PL (m:=c) h hg bB (by omega)) (by omega) (by omega);have HJ:=hid (fun B W (r:Row W W.heap.size B ((AY (fQ l) gs c).map (.int .i64))) k=>aCy (AY (fQ l) gs c) c B k W (nB h) dP r ((PL (m:=c) h hg bB (by omega)).mono (by omega)));have b5:=hid (fun m W (hm:m<c)=>(show Calls prog 207 #[.agg bH,aR (aK (e9 (AY (fQ l) gs c) c) m)] W fun e w'=>e=.returned (aR (oO (aK (e9 (AY (fQ l) gs c) c) m)))/\Below W.heap.size W w' from by
  have:=P8 bH (aK (e9 (AY (fQ l) gs c) c) m) 1200000004 W b7 I2 (bM t hm) (by omega) ((kI t hm cL).within (bM t hm));rw[aFq (bM t hm)]at this;exact this))
 have c5:=hid (fun m (hm:m<c) pad=>vY (f:=fun _=>oO) pZ t hm pad);have c4:=hid (fun m (hm:m<c)=>(s8 (f:=fun _=>oO) pZ t m hm).trans (sL (aJ0 _)));have b3:=hid (vZ (f:=fun _=>oO) t);have b4:=hid (fun m=>kO (f:=fun _=>oO) pZ t m);have c2:=hid (fun m (hm:m<c)=>bM h hm);have dA:=hid (fun m (hm:m<c)=>bM t hm);have c7:=hid (fun m (hm:m<c)=>(hg.2 m hm).1);have dJ:=hid hg.1;have bT:=hid cR;have b8:=hid (show xE (fQ l) gs c=dE (fun _=>oO) (e9 (AY (fQ l) gs c) c) c c from rfl);have cB:=hid (show AY (fQ l) gs c=dE (upF gs) (fQ l) c c from rfl);have dD:=hid (fun m=>(show upF gs m (aK (fQ l) m)=bN (aK (fQ l) m) (eJ 4 gs m) 16 from rfl));have cS:=fL;obtain⟨tv,dU,bV⟩:∃ tv:List Value,tv.length=16/\bH=tv.toArray:=⟨bH.toList,by rw[Array.length_toList,b7],by simp⟩;have dB:=hid (fun j v (G:tv[j]? = some v)=>(show dS[16+j]? = some v by
  unfold dS;rw[aJ4 (by rw[b7];omega),b7,aJr,bV,aHL];exact G))
 rw[bV]at b5;rw[b8.out];obtain⟨n,hn⟩:∃ n,l.length=n:=⟨_,rfl⟩;rw[hn]at bL ⊢;clear h bB t cL hg hr cR hl cN hc bV hn b8;generalize fQ l=P at *
 generalize e9 (AY P gs c) c=J at *
 rw[cB.out]at HJ;clear cB;generalize dS=lv at *
 have c8:=hid (show (prog.info? 91).map (·.size)=some lv.size by rw[cS];exact rK);have c9:=hid (show (prog.info? 89).map (·.size)=some tv.length by rw[dU];exact DS);have bK:=hid (aP w (.cells lv 91));have b6:=hid (LT w (.cells lv 91));clear cS;go_enter func176,ntmps176;go_wp2_with (go_at_call 203;fail)
 refine (bL.out _ bK.out).mono ?_;rintro e w1 ⟨U,rfl,cP,cM,bZ⟩;have L1:=hid (aF b6.out bZ);have P1:=hid (show Blk w1 U 43 ((dE (upF gs) P c 0).map (.int .i64)) by rw[cA.out];exact cM);have E1:=hid (aC bK.out bZ);have d1:w.heap.size<U:=by simp at cP;omega
 clear bZ cM cP bK b6 cA bL;go_wp2_with fail
 go_loopw [14] (fun i wr=>∃ m:Nat,m<=c/\i=.int .i64 m/\Blk wr U 43 ((dE (upF gs) P c m).map (.int .i64))/\wr.heap[w.heap.size]? = some (.cells lv 91 (0,0))/\Below w.heap.size w wr) (fun i _=>c-(intOf i).toNat)
 case atStart=>exact⟨0,by omega,rfl,P1.out,L1.out,E1.out⟩
 case round =>
  obtain⟨m,hm,rfl,hB,a3,a1⟩:=hrel;have O:=hid hB;have aV:=hid a3;have F:=hid a1;clear P1 L1 E1 hB a3 a1
  by_cases aH:m<c
  ·have t1:(m:Int)<(c:Int):=by omega
   obtain⟨ag,og,rfl,dX⟩:=OR bT.out dJ.out (by omega);have GX:=hid (uO ((bT.out.below F.out).more F.out.size) (m*4) 4);have I:=hid (fun (x:GW wr)=>NH ((O.out.below x.2 O.out.lt)) (m*16) 16);have GY:=hid (fun (x:GW wr)=>(uO (((bT.out.below F.out).more F.out.size).below x.2) (m*4) 4));have HU:=hid (fun W=>dH.out m W aH);have d:=dG.out m aH;have a0:=dC.out m aH;have a2:=c2.out m aH;have cQ:=c7.out m aH;have aL:=dF.out m;have cV:=dD.out m;simp only[aIh]at d;rw[cV]at d;rw[show ((dE (upF gs) P c m).drop (m*16)).take 16=aK P m from a0]at I;rw[show ((gs.drop (m*4)).take 4)=eJ 4 gs m from rfl]at GY;clear a0 cV GX;unfold aR at HU;have bU:=hid (gO (bN (aK P m) (eJ 4 gs m) 16));have Z:((bN (aK P m) (eJ 4 gs m) 16).map (Value.int .i64)).length=16:=by rw[aF7,lT]
   rw[kU]at d;have a6:((aK P m).map (Value.int .i64)).length=16:=by rw[aF7,a2]
   have cW:((eJ 4 gs m).map (Value.int .i64)).length=4:=by rw[aF7,cQ]
   have a4:=mK (sz:=16) aH;obtain⟨U1,V⟩:∃ U1,(dE (upF gs) P c (m+1)).map (Value.int .i64)=U1:=⟨_,rfl⟩;rw[V]at d;have bR:=hid V;have aW:=hid (show ((dE (upF gs) P c m).map (Value.int .i64)).length=c*16 by rw[aF7,aL]);generalize (dE (upF gs) P c m).map (Value.int .i64)=U0 at *
   generalize (bN (aK P m) (eJ 4 gs m) 16).map (Value.int .i64)=zs at *
   generalize (aK P m).map (Value.int .i64)=xs at *
   generalize (eJ 4 gs m).map (Value.int .i64)=ys at *
   have d:=hid d;have bO:=hid (show (prog.info? 43).map (·.size)=some xs.length by rw[a6];exact bJ);have c6:=hid (show (prog.info? 40).map (·.size)=some ys.length by rw[cW];exact b9);have bP:=hid (show (prog.info? 43).map (·.size)=some zs.length by rw[Z];exact bJ);have bS:=hid (show m*16+zs.length<=U0.length by rw[Z,aW.out];exact a4);have x5:=fun (x:GW wr)=>I.out x
   have y5:=fun (x:GW wr)=>GY.out x
   clear aL V a6 cW Z a2 cQ I GY a4 aW;go_wp2_with fail
   refine aJ 12 (by kernel_rfl) (by kernel_rfl) ?_;simp only[List.take_succ_cons,List.take_zero,aGO,aGR]
   repeat (first|(go_big_quiet_want;refine aY 43 (.tmp 25) rfl U (m*16) rfl xs _ (by rintro _ ⟨x,rfl⟩;exact x5 x) underlying43 rfl bO.out ?_;go_simp;go_big_quiet_on)|(go_big_quiet_want;refine aY 40 (.tmp 29) rfl ag (og+m*4) rfl ys _ (by rintro _ ⟨x,rfl⟩;exact y5 x) underlying40 rfl c6.out ?_;go_simp;go_big_quiet_on)|go_big_quiet_step ((go_at_call 205;exact bY (HU.out _))))
   refine aGv ?_;intro w5 a5;have z:=aQ a5;have B5:=hid (O.out.below z O.out.lt);have L5:=hid (aF aV.out z);have E5:=hid (aC F.out z);clear a5 z x5 y5;go_wp2_with (refine cH rfl 43 (.tmp 32) (.tmp 31) rfl U (m*16) rfl _ _ zs rfl B5.out bP.out bS.out bU.out ?_;rw[d.out])
   go_roundw
   case rel=>exact⟨m+1,by omega,by go_num,by rw[bR.out];exact bA w5 _ _ _ _ B5.out,(aHy _ _ _ _ (by omega)).trans L5.out,aO E5.out _ (by omega) _⟩
   case measure=>simp[intOf];omega
  ·have dT:m=c:=by omega
   subst dT;have t1:¬ ((m:Int)<(m:Int)):=by omega
   have HX:=hid (HJ.out (some ⟨U,0,none⟩) wr (fun i v G=>⟨U,0,rfl,O.out.lt,by rw[O.out.cell,aGn];exact G⟩) m);clear HJ;go_wp2_with (first|(go_at_call 206;fail)|(refine aB rfl 91 (.tmp 3) rfl w.heap.size rfl _ lv _ _ aV.out underlying91 rfl c8.out ?_))
   refine HX.out.mono ?_;rintro e w3 ⟨A3,c3,rfl,bC,cO,dO⟩;have L3:=hid (aF aV.out bC);have E3:=hid (aC F.out bC);have dZ:=F.out.size;clear HX;rcases dO with rfl|⟨g2,k2,rfl,dY,cK⟩
   ·have t1:¬ ((0:Int)<((0:Nat):Int)):=by omega
    have dN:=b4.out 0;have HZ:=hid (aIi (by omega:(dE (fun _=>oO) J 0 0).length=0));clear dN bC;go_wp2_with fail
    go_loopw [39] (fun i wx=>i=.int .i64 0/\wx=w3) (fun _ _=>0)
    case atStart=>exact⟨rfl,rfl⟩
    case round =>
     obtain⟨rfl,rfl⟩:=hrel;go_wp2
     go_ret
     exact⟨A3,c3,rfl,cO,by rw[HZ.out];exact Row.none_ _ _ _,E3.out⟩
   ·have d0:w.heap.size<g2:=by have:=hlt aV.out;omega
    have P3:=hid (show Blk w3 g2 43 ((dE (fun _=>oO) J m 0++List.replicate k2 0).map (.int .i64)) by rw[b3.out];exact cK);clear bC cK b3;go_wp2_with fail
    go_loopw [39] (fun i wx=>∃ k:Nat,k<=m/\i=.int .i64 k/\Blk wx g2 43 ((dE (fun _=>oO) J m k++List.replicate k2 0).map (.int .i64))/\wx.heap[w.heap.size]? = some (.cells lv 91 (0,0))/\Below w.heap.size w wx) (fun i _=>m-(intOf i).toNat)
    case atStart=>exact⟨0,by omega,rfl,P3.out,L3.out,E3.out⟩
    case round =>
     obtain⟨k,hk,rfl,hB,a3,a1⟩:=hrel;have HC:=hid hB;have cE:=hid a3;have cD:=hid a1;clear P3 L3 E3 hB a3 a1 O aV F
     by_cases aI:k<m
     ·have t1:(k:Int)<(m:Int):=by omega
      have I:=hid (fun (x:GW wr)=>NH ((HC.out.below x.2 HC.out.lt)) (k*16) 16);have HU:=hid (fun W=>b5.out k W aI);have d:=c5.out k aI (List.replicate k2 0);have a0:=c4.out k aI;have a2:=dA.out k aI;have aL:=b4.out k;rw[EY (c:=m) aL aI,a0]at I;clear a0;unfold aR at HU;have bU:=hid (gO (oO (aK J k)));have Z:((oO (aK J k)).map (Value.int .i64)).length=16:=by rw[aF7,F8]
      rw[kU]at d;have a6:((aK J k).map (Value.int .i64)).length=16:=by rw[aF7,a2]
      have a4:=mK (sz:=16) aI;obtain⟨U1,V⟩:∃ U1,(dE (fun _=>oO) J m (k+1)++List.replicate k2 0).map (Value.int .i64)=U1:=⟨_,rfl⟩;rw[V]at d;have bR:=hid V;have aW:=hid (show m*16<=((dE (fun _=>oO) J m k++List.replicate k2 0).map (Value.int .i64)).length by rw[aF7,aGG,aL];omega);generalize (dE (fun _=>oO) J m k++List.replicate k2 0).map (Value.int .i64)=U0 at *
      generalize (oO (aK J k)).map (Value.int .i64)=zs at *
      generalize (aK J k).map (Value.int .i64)=xs at *
      have d:=hid d;have bO:=hid (show (prog.info? 43).map (·.size)=some xs.length by rw[a6];exact bJ);have bP:=hid (show (prog.info? 43).map (·.size)=some zs.length by rw[Z];exact bJ);have bS:=hid (show k*16+zs.length<=U0.length by rw[Z];exact aGE a4 aW.out);have x5:=fun (x:GW wr)=>I.out x
      have z5:=eW cE.out;have y5:=fun W hW j v G=>(show World.cell? W ⟨w.heap.size,16+j,none⟩=some v from (aGo _ _ _ _ _ _ (z5 W hW)).trans (dB.out j v G))
      clear aL V a6 Z a2 I a4 aW;go_wp2_with fail
      refine aJ 10 (by kernel_rfl) (by kernel_rfl) ?_;simp only[List.take_succ_cons,List.take_zero,aGO,aGR]
      repeat (first|(go_big_quiet_want;refine aY 43 (.tmp 48) rfl g2 (k*16) rfl xs _ (by rintro _ ⟨x,rfl⟩;exact x5 x) underlying43 rfl bO.out ?_;go_simp;go_big_quiet_on)|(go_big_quiet_want;refine aY 89 (.tmp 44) rfl w.heap.size 16 rfl tv _ y5 underlying89 rfl c9.out ?_;go_simp;go_big_quiet_on)|go_big_quiet_step ((go_at_call 207;exact bY (HU.out _))))
      refine aGv ?_;intro w5 a5;have z:=aQ a5;have B5:=hid (HC.out.below z HC.out.lt);have L5:=hid (aF cE.out z);have E5:=hid (aC cD.out z);clear a5 z x5 y5 z5;go_wp2_with (refine cH rfl 43 (.tmp 51) (.tmp 50) rfl g2 (k*16) rfl _ _ zs rfl B5.out bP.out bS.out bU.out ?_;rw[d.out])
      go_roundw
      case rel=>exact⟨k+1,by omega,by go_num,by rw[bR.out];exact bA w5 _ _ _ _ B5.out,(aHy _ _ _ _ (by omega)).trans L5.out,aO E5.out _ (by omega) _⟩
      case measure=>simp[intOf];omega
     ·have dQ:k=m:=by omega
      subst dQ;have t1:¬ ((k:Int)<(k:Int)):=by omega
      go_wp2
      go_ret
      refine⟨_,_,rfl,cO,fun i v G=>⟨g2,0,rfl,HC.out.lt,?_⟩,cD.out⟩;rw[HC.out.cell,aGn,aG2,aGU (aGi.1 G).1];exact G
end
section
open Go.RowKit
theorem Y8{f:Nat->List Int->List Int}(p:List Int)(c:Nat):bI 16 c (fun i=>f i (aK p i)) c=dE f p c c:=by
 unfold bI dE lF
 congr 1
 apply aGZ;intro i hi;rw[FN (aGA.1 hi),FN (aGA.1 hi)]
theorem aAR(p gs:List Int)(A Ag:Option Addr)(cap dK c:Nat)(n:Int)(w:World)(h:p.length=c*16)(d0:c<=100000)(hr:Row w w.heap.size A (p.map (.int .i64)))(hg:tY gs c)(cU:Row w w.heap.size Ag (gs.map (.int .i64)))
 (b3:BdL 2147483648 p):
  Calls prog 131 #[.agg dS,.slice A c cap,.slice Ag c dK,.int .i64 n] w (Z6 w (l7 (oN p gs c) n)):=by
 have bO:=hid (fun m W (hm:m<c)=>(show Calls prog 129 #[.agg bH,aR (aK p m)] W fun e w'=>e=.returned (aR (gI (aK p m)))/\Below W.heap.size W w' from by
  have:=BD bH (aK p m) 2147483648 W b7 I2 (bM h hm) (by omega) ((kI h hm b3).within (bM h hm));rw[aDX (bM h hm)]at this;exact this))
 have cD:=hid (fun m=>eP (sz:=16) (c:=c) (fun i=>tI (aK p i)) m);have cE:=hid (fun m (hm:m<c)=>o7 (sz:=16) (fun i=>tI (aK p i)) (by decide) hm);have cC:=hid (show bI 16 c (fun i=>gI (aK p i)) c=mW p c from Y8 (f:=fun _=>gI) p c);have b2:BdL 12884901948 (mW p c):=EX GL h b3 (by omega) (fun _ b _ hb hl=>aAo hb hl (by omega) (by omega));have z:(eO (mW p c) c).length=c*16:=IJ (p8 h);have cP:BdL 19327352926 (eO (mW p c) c):=L7 (p8 h) (LE c) b2 (by omega) (by omega);have HJ:=hid (fun B W (r:Row W W.heap.size B ((mW p c).map (.int .i64))) k=>aCE (mW p c) c B k W (p8 h) (by omega) r (b2.mono (by omega)));have c7:=hid (fun m W (hm:m<c)=>(show Calls prog 164 #[aR (aK (eO (mW p c) c) m),aR (eJ 4 gs m)] W fun e w'=>e=.returned (aR (jZ gs m (aK (eO (mW p c) c) m)))/\Below W.heap.size W w' from
  aCs (aK (eO (mW p c) c) m) (eJ 4 gs m) W (bM z hm) ((kI z hm cP).turnB (by omega)) (hg.2 m hm)))
 have dA:=hid (fun m (hm:m<c) pad=>vY (f:=jZ gs) nO z hm pad);have c8:=hid (fun m (hm:m<c)=>(s8 (f:=jZ gs) nO z m hm).trans (sL (aJ0 _)));have cB:=hid (vZ (f:=jZ gs) z);have bK:=hid (fun m=>kO (f:=jZ gs) nO z m);have c5:=hid (fun m b (hm:m<c) hb=>nO (gs:=gs) m b hm hb);have c4:=hid (fun m (hm:m<c)=>bM h hm);have dF:=hid (fun m (hm:m<c)=>bM z hm);have dD:=hid (fun m (hm:m<c)=>(hg.2 m hm).1);have dI:=hid hg.1;have cK:=hid cU;have Hr:=hid hr;have dH:=hid h;have HW:=hid (show oN p gs c=dE (jZ gs) (eO (mW p c) c) c c from rfl);have a5:=hid (fun B k W (r:Row W W.heap.size B ((dE (jZ gs) (eO (mW p c) c) c c).map (.int .i64)))=>M7 (dE (jZ gs) (eO (mW p c) c) c c) c B k n W (bK.out c) (by omega) r);have cW:=fL;obtain⟨tv,dR,bV⟩:∃ tv:List Value,tv.length=16/\bH=tv.toArray:=⟨bH.toList,by rw[Array.length_toList,b7],by simp⟩;have dG:=hid (fun j v (I:tv[j]? = some v)=>(show dS[16+j]? = some v by
  unfold dS;rw[aJ4 (by rw[b7];omega),b7,aJr,bV,aHL];exact I))
 rw[bV]at bO;rw[HW.out];obtain⟨i0,hi,dT,dU,dV⟩:=xW;have bT:=hid (show (madeCells (Value.agg (List.replicate 16 (Value.int .i64 0)).toArray).cells (c*16)).toList=List.replicate (c*16) (.int .i64 0) from fV _ _ (by decide) (fun j hj=>by
  have d2:j<16:=hj;have hk:j=0\/j=1\/j=2\/j=3\/j=4\/j=5\/j=6\/j=7\/j=8\/j=9\/j=10\/j=11\/j=12\/j=13\/j=14\/j=15:=by omega
  rcases hk with rfl|rfl|rfl|rfl|rfl|rfl|rfl|rfl|rfl|rfl|rfl|rfl|rfl|rfl|rfl|rfl <;> rfl) _)
 obtain⟨mc,a9⟩:∃ mc,madeCells (Value.agg (List.replicate 16 (Value.int .i64 0)).toArray).cells (c*16)=mc:=⟨_,rfl⟩;rw[a9]at bT;have cX:mc=((bI 16 c (fun i=>gI (aK p i)) 0).map (Value.int .i64)).toArray:=by
  apply aHX.1;rw[bT.out,o8]
 clear h b3 b2 z cP hg hr cU bV HW bT;generalize eO (mW p c) c=J at *
 rw[<-cC.out]at HJ;clear cC;generalize dS=t at *
 have c9:=hid (show (prog.info? 91).map (·.size)=some t.size by rw[cW];exact rK);have dB:=hid (show (prog.info? 89).map (·.size)=some tv.length by rw[dR];exact DS);have cA:=hid ((aP w (.cells t 91)).alloc (by simp) (.cells mc 43));have cF:=hid (show ((w.alloc (.cells t 91)).alloc (.cells mc 43)).heap[w.heap.size]? = some (.cells t 91 (0,0)) from (aHg _ _ (by simp)).trans (LT w _));have cG:=hid (show Blk ((w.alloc (.cells t 91)).alloc (.cells mc 43)) (w.heap.size+1) 43 ((bI 16 c (fun i=>gI (aK p i)) 0).map (.int .i64)) by
  rw[cX];have:=Blk.new (w.alloc (.cells t 91)) 43 ((bI 16 c (fun i=>gI (aK p i)) 0).map (.int .i64));simpa using this)
 clear cW cX;go_enter func131,ntmps131;go_wp2_with (refine dX (w.alloc (.cells t 91)) rfl (.tmp 13) (.tmp 13) 232 rfl 43 i0 (.agg (List.replicate 16 (Value.int .i64 0)).toArray) 16 underlying232 hi dT dU .i64 .i64 c rfl rfl (by rw[dV];omega) (by omega) ?_;rw[a9])
 go_loopw [17] (fun i wr=>∃ m:Nat,m<=c/\i=.int .i64 m/\Blk wr (w.heap.size+1) 43 ((bI 16 c (fun i=>gI (aK p i)) m).map (.int .i64))/\wr.heap[w.heap.size]? = some (.cells t 91 (0,0))/\Below w.heap.size w wr) (fun i _=>c-(intOf i).toNat)
 case atStart=>exact⟨0,by omega,rfl,cG.out,cF.out,cA.out⟩
 case round =>
  obtain⟨m,hm,rfl,hB,cV,aZ⟩:=hrel;have HB:=hid hB;have aT:=hid cV;have aE:=hid aZ;clear cG cF cA hB cV aZ
  by_cases a8:m<c
  ·have t1:(m:Int)<(c:Int):=by omega
   obtain⟨ag,og,rfl,dM⟩:=OR Hr.out dH.out (by omega);have O:=hid (fun (x:GW wr)=>(uO (((Hr.out.below aE.out).more aE.out.size).below x.2) (m*16) 16));have HU:=hid (fun W=>bO.out m W a8);have d:=cE.out m a8;have aG:=c4.out m a8;have aH:=cD.out m;rw[show ((p.drop (m*16)).take 16)=aK p m from rfl]at O;unfold aR at HU;have bU:=hid (gO (gI (aK p m)));have Z:((gI (aK p m)).map (Value.int .i64)).length=16:=by rw[aF7,tI]
   have d:(aW (bI 16 c (fun i=>gI (aK p i)) m) (m*16) (gI (aK p m))).map (Value.int .i64)=(bI 16 c (fun i=>gI (aK p i)) (m+1)).map (Value.int .i64):=by rw[d]
   rw[kU]at d;have a2:((aK p m).map (Value.int .i64)).length=16:=by rw[aF7,aG]
   have a0:=mK (sz:=16) a8;obtain⟨U1,V⟩:∃ U1,(bI 16 c (fun i=>gI (aK p i)) (m+1)).map (Value.int .i64)=U1:=⟨_,rfl⟩;rw[V]at d;have bR:=hid V;have aU:=hid (show ((bI 16 c (fun i=>gI (aK p i)) m).map (Value.int .i64)).length=c*16 by rw[aF7,aH]);generalize (bI 16 c (fun i=>gI (aK p i)) m).map (Value.int .i64)=U0 at *
   generalize (gI (aK p m)).map (Value.int .i64)=zs at *
   generalize (aK p m).map (Value.int .i64)=xs at *
   have d:=hid d;have bL:=hid (show (prog.info? 43).map (·.size)=some xs.length by rw[a2];exact bJ);have bN:=hid (show (prog.info? 43).map (·.size)=some zs.length by rw[Z];exact bJ);have bS:=hid (show m*16+zs.length<=U0.length by rw[Z,aU.out];exact a0);have x5:=fun (x:GW wr)=>O.out x
   have z5:=eW aT.out;have y5:=fun W hW j v I=>(show World.cell? W ⟨w.heap.size,16+j,none⟩=some v from (aGo _ _ _ _ _ _ (z5 W hW)).trans (dG.out j v I))
   clear aH V a2 Z aG O a0 aU;go_wp2_with fail
   refine aJ 10 (by kernel_rfl) (by kernel_rfl) ?_;simp only[List.take_succ_cons,List.take_zero,aGO,aGR]
   repeat (first|(go_big_quiet_want;refine aY 43 (.tmp 26) rfl ag (og+m*16) rfl xs _ (by rintro _ ⟨x,rfl⟩;exact x5 x) underlying43 rfl bL.out ?_;go_simp;go_big_quiet_on)|(go_big_quiet_want;refine aY 89 (.tmp 22) rfl w.heap.size 16 rfl tv _ y5 underlying89 rfl dB.out ?_;go_simp;go_big_quiet_on)|go_big_quiet_step ((go_at_call 129;exact bY (HU.out _))))
   refine aGv ?_;intro w5 a1;have F:=aQ a1;have B5:=hid (HB.out.below F HB.out.lt);have L5:=hid (aF aT.out F);have E5:=hid (aC aE.out F);clear a1 F x5 y5 z5;go_wp2_with (refine cH rfl 43 (.tmp 29) (.tmp 28) rfl (w.heap.size+1) (m*16) rfl _ _ zs rfl B5.out bN.out bS.out bU.out ?_;rw[d.out])
   go_roundw
   case rel=>exact⟨m+1,by omega,by go_num,by rw[bR.out];exact bA w5 _ _ _ _ B5.out,(aHy _ _ _ _ (by omega)).trans L5.out,aO E5.out _ (by omega) _⟩
   case measure=>simp[intOf];omega
  ·have a9:m=c:=by omega
   subst a9;have t1:¬ ((m:Int)<(m:Int)):=by omega
   have HX:=hid (HJ.out (some ⟨w.heap.size+1,0,none⟩) wr (fun i v I=>⟨w.heap.size+1,0,rfl,HB.out.lt,by rw[HB.out.cell,aGn];exact I⟩) m);clear HJ;go_wp2_with (first|(go_at_call 163;fail)|(refine aB rfl 91 (.tmp 4) rfl w.heap.size rfl _ t _ _ aT.out underlying91 rfl c9.out ?_))
   refine HX.out.mono ?_;rintro e w3 ⟨A3,c3,rfl,cQ,dZ,dN⟩;have E3:=hid (aC aE.out cQ);have d4:=aE.out.size;have d3:=hlt aT.out;clear HX aT HB cQ cE cD bO;rcases dN with rfl|⟨U,k2,rfl,d1,cO⟩
   ·have t1:¬ ((0:Int)<((0:Nat):Int)):=by omega
    have dL:=bK.out 0;have bQ:=hid (a5.out A3 c3 w3 (by rw[aIi (by omega:(dE (jZ gs) J 0 0).length=0)];exact Row.none_ _ _ _));clear dL a5;generalize dE (jZ gs) J 0 0=q at *
    go_wp2_with fail
    go_loopw [36] (fun i wx=>i=.int .i64 0/\wx=w3) (fun _ _=>0)
    case atStart=>exact⟨rfl,rfl⟩
    case round =>
     obtain⟨rfl,rfl⟩:=hrel;go_wp2_with (go_at_call 165;fail)
     refine bQ.out.mono ?_;rintro e w6 ⟨A6,c6,rfl,h1,h2,h3,h4⟩;go_wp2
     go_ret
     exact⟨A6,c6,rfl,h1,h2,h3,aC E3.out h4⟩
   ·have d5:w.heap.size<U:=by omega
    have P3:=hid (show Blk w3 U 43 ((dE (jZ gs) J m 0++List.replicate k2 0).map (.int .i64)) by rw[cB.out];exact cO);clear cO cB;go_wp2_with fail
    go_loopw [36] (fun i wx=>∃ k:Nat,k<=m/\i=.int .i64 k/\Blk wx U 43 ((dE (jZ gs) J m k++List.replicate k2 0).map (.int .i64))/\Below w.heap.size w wx) (fun i _=>m-(intOf i).toNat)
    case atStart=>exact⟨0,by omega,rfl,P3.out,E3.out⟩
    case round =>
     obtain⟨k,hk,rfl,hB,aZ⟩:=hrel;have HC:=hid hB;have a6:=hid aZ;clear P3 E3 hB aZ aE
     by_cases G:k<m
     ·have t1:(k:Int)<(m:Int):=by omega
      obtain⟨ag,og,rfl,dM⟩:=OR cK.out dI.out (by omega);have O:=hid (fun (x:GW wr)=>NH ((HC.out.below x.2 HC.out.lt)) (k*16) 16);have GY:=hid (fun (x:GW wr)=>(uO (((cK.out.below a6.out).more a6.out.size).below x.2) (k*4) 4));have HU:=hid (fun W=>c7.out k W G);have d:=dA.out k G (List.replicate k2 0);have cR:=c8.out k G;have aG:=dF.out k G;have cT:=dD.out k G;have aH:=bK.out k;have cS:=c5.out k (aK J k) G aG;rw[EY (c:=m) aH G,cR]at O;rw[show ((gs.drop (k*4)).take 4)=eJ 4 gs k from rfl]at GY;clear cR;unfold aR at HU;have bU:=hid (gO (jZ gs k (aK J k)));have Z:((jZ gs k (aK J k)).map (Value.int .i64)).length=16:=by rw[aF7,cS]
      rw[kU]at d;have a2:((aK J k).map (Value.int .i64)).length=16:=by rw[aF7,aG]
      have cZ:((eJ 4 gs k).map (Value.int .i64)).length=4:=by rw[aF7,cT]
      have a0:=mK (sz:=16) G;obtain⟨U1,V⟩:∃ U1,(dE (jZ gs) J m (k+1)++List.replicate k2 0).map (Value.int .i64)=U1:=⟨_,rfl⟩;rw[V]at d;have bR:=hid V;have aU:=hid (show m*16<=((dE (jZ gs) J m k++List.replicate k2 0).map (Value.int .i64)).length by rw[aF7,aGG,aH];omega);generalize (dE (jZ gs) J m k++List.replicate k2 0).map (Value.int .i64)=U0 at *
      generalize (jZ gs k (aK J k)).map (Value.int .i64)=zs at *
      generalize (aK J k).map (Value.int .i64)=xs at *
      generalize (eJ 4 gs k).map (Value.int .i64)=ys at *
      have d:=hid d;have bL:=hid (show (prog.info? 43).map (·.size)=some xs.length by rw[a2];exact bJ);have dC:=hid (show (prog.info? 40).map (·.size)=some ys.length by rw[cZ];exact b9);have bN:=hid (show (prog.info? 43).map (·.size)=some zs.length by rw[Z];exact bJ);have bS:=hid (show k*16+zs.length<=U0.length by rw[Z];exact aGE a0 aU.out);have x5:=fun (x:GW wr)=>O.out x
      have y5:=fun (x:GW wr)=>GY.out x
      clear aH V a2 cZ Z aG cT cS O GY a0 aU;go_wp2_with fail
      refine aJ 12 (by kernel_rfl) (by kernel_rfl) ?_;simp only[List.take_succ_cons,List.take_zero,aGO,aGR]
      repeat (first|(go_big_quiet_want;refine aY 43 (.tmp 47) rfl U (k*16) rfl xs _ (by rintro _ ⟨x,rfl⟩;exact x5 x) underlying43 rfl bL.out ?_;go_simp;go_big_quiet_on)|(go_big_quiet_want;refine aY 40 (.tmp 51) rfl ag (og+k*4) rfl ys _ (by rintro _ ⟨x,rfl⟩;exact y5 x) underlying40 rfl dC.out ?_;go_simp;go_big_quiet_on)|go_big_quiet_step ((go_at_call 164;exact bY (HU.out _))))
      refine aGv ?_;intro w5 a1;have F:=aQ a1;have B5:=hid (HC.out.below F HC.out.lt);have E5:=hid (aC a6.out F);clear a1 F x5 y5;go_wp2_with (refine cH rfl 43 (.tmp 54) (.tmp 53) rfl U (k*16) rfl _ _ zs rfl B5.out bN.out bS.out bU.out ?_;rw[d.out])
      go_roundw
      case rel=>exact⟨k+1,by omega,by go_num,by rw[bR.out];exact bA w5 _ _ _ _ B5.out,aO E5.out _ (by omega) _⟩
      case measure=>simp[intOf];omega
     ·have dP:k=m:=by omega
      subst dP;have t1:¬ ((k:Int)<(k:Int)):=by omega
      have bQ:=hid (a5.out (some ⟨U,0,none⟩) c3 wr (fun i v I=>⟨U,0,rfl,HC.out.lt,by rw[HC.out.cell,aGn,aG2,aGU (aGi.1 I).1];exact I⟩));clear a5;generalize dE (jZ gs) J k k=q at *
      go_wp2_with (go_at_call 165;fail)
      refine bQ.out.mono ?_;rintro e w6 ⟨A6,c6,rfl,h1,h2,h3,h4⟩;go_wp2
      go_ret
      exact⟨A6,c6,rfl,h1,h2,h3,aC a6.out h4⟩
end
end Go.Proofs.YtbpgfkjhclpbdaaGreatDoor
