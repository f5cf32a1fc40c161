/- FitE, FitG, FitH, FitJ, EK. Conditions: as each theorem states. -/
import Derived.Deep.DeepFit
import Derived.Test.YtbpgfkjhclpbdaaGreatDoorPw14
set_option maxRecDepth 100000
set_option maxHeartbeats 8000000
namespace Go.Proofs.YtbpgfkjhclpbdaaGreatDoor
open Tryz
open Go.Lib (hid)
section
open Go.RowKit
theorem aX{P:Program}{fn:Func}{p q:Tmp}{ty:TypeId}(h:fn.results=#[.cell p ty,.tmp q])(tmps:Array Value)(w:World)(g:Nat)(t:TypeId)(z:Array Value)(fr:Nat × Nat)(d:TypeDesc)(v:Value)
 (I:tmps.getD p undef=.pointer (some ⟨g,0,none⟩))(O:tmps.getD q undef=v)(G:w.heap[g]? = some (.cells z t fr))
 (V:P.underlying ty=some d)(F:(match d with | .struct _ | .array _ _=>true|_=>false)=true)(hi:(P.info? ty).map (·.size)=some z.size):
  (results fn tmps).run P w=.ok (.tuple #[.agg z,v]) w:=by
 have J:tmps[p]?.getD undef=.pointer (some ⟨g,0,none⟩):=by simpa using I
 have U:tmps[q]?.getD undef=v:=by simpa using O
 simp[results,h,J,U,asAddr,run_loadVar_row w g t ty z fr d G V F hi]
theorem aBm{s:List Int}(t:ScB s)(F:UY s=92)(d m:List Int):cX d s m 4<0:=by
 rcases aIg (cX d s m 4) 0 with h|h
 ·exact h
 ·have h1:=qC d s m 4 h;have h2:=nQ d s m 4;generalize cX d s m 4=x at *
  obtain⟨k,rfl⟩:=aGF h;rw[Int.toNat_natCast]at h1;have z:k<4:=by omega
  unfold UY at F;have a0:=t.2 0 (by omega);have G:=t.2 1 (by omega);have I:=t.2 2 (by omega);have J:=t.2 3 (by omega)
  match k,z,h1 with
  | 0,_,h1|1,_,h1|2,_,h1|3,_,h1=>omega
theorem tU{b g s:List Int}{ts:List aFP}(d:g.length=4)(h:s.length=4):(dK b g s ts).Len:=⟨d,h,iH _ _,IV _ _⟩
theorem aCb{b s:List Int}(hb:b.length=16)(h:BigB b)(t:ScB s):∀ k,k<16->-4611686018427387904<=bgt (fC b s) k/\bgt (fC b s) k<=4611686018427387904:=by
 intro k hk;unfold fC;rw[FN t.ok,pC _ _ hk,FN hk];obtain⟨x,d⟩:=aE hb hk;rw[aD d];have:=h k x d;exact OL this.1 this.2 _
theorem xG{b g s:List Int}{ts:List aFP}(hb:b.length=16)(ht:aF8 b ts)(t:ScB s):∀ (k:Nat) (x:Int),(dK b g s ts).width[k]? = some x->0<=x/\x<=1000:=by
 intro k x d;have hk:k<4:=by
  have h1:=(aGi.1 d).1
  rwa [show (dK b g s ts).width.length=4 from iH _ _]at h1
 have h1:=sB (fC (dH b ts) s) hk;rw[aD (show (kG (fC (dH b ts) s))[k]? = some x from d)]at h1;have h2:=xJ (fC (dH b ts) s) 64 (fun j h=>by
  have:=aCb (by rw[tO,hb]) ht.out t j h;exact kY (k:=63) (by omega) (by omega)) k 16 (by omega)
 omega
theorem aDy{b:List Int}(h:BigB b):Mid (mY b):=by
 intro k x d;have hk:k<4:=by
  have h1:=(aGi.1 d).1
  rwa [show (mY b).length=4 by simp[mY]]at h1
 have e:(mY b)[k]? = some ((cG (dF ((b.drop (k*4)).take 4)):Nat):Int):=aI _ hk;rw[e]at d;injection d with d
 have:=xU h (l:=(b.drop (k*4)).take 4) jO;have h2:cG (dF ((b.drop (k*4)).take 4))<=64:=kY (k:=63) (by omega) (by omega);omega
theorem TM(b:List Int):(mY b).length=4:=by simp[mY]
theorem U6{b:List Int}(hb:b.length=16)(d:BigB b)(tones:Bool):aF8 b (cQ b tones):=by
 cases tones
 ·exact⟨by simp[cQ],fun m _=>by simp[cQ,dH];exact d,fun t ht=>by simp[cQ]at ht⟩
 ·exact⟨by have:=aBf b;simp only[cQ,aHW];omega,fun m _=>by simp only[cQ,aHW];exact aES d hb m,fun t ht=>aC7 d hb t (by simpa[cQ] using ht)⟩
def VY(W:World)(tones:Bool)(f:aFJ)(n:Nat)(e:Ending)(w':World):Prop :=
 ∃ A c,e=.returned (.tuple #[.agg (aZ f (.slice A f.tones.length c)),.int .i64 n])/\f.tones.length<=c/\c<=9223372036854775807/\(f.tones=[]\/∃ g,A=some ⟨g,0,none⟩/\W.heap.size<=g)/\(tones=false->A=none/\c=0)/\Row w' w'.heap.size A (aV f.tones)/\Below W.heap.size W w'
def bS:Array Value:=#[.int .i64 0,.int .i64 0,.int .i64 0,.int .i64 0,.slice none 0 0,.int .i64 0,.int .i64 0,.int .i64 0,.int .i64 0,.int .i64 0,.int .i64 0,.int .i64 0,.int .i64 0,.int .i64 0,.int .i64 0,.int .i64 0,.int .i64 0,.int .i64 0,.int .i64 0,.int .i64 0,.int .i64 0,.int .i64 0,.int .i64 0,.int .i64 0,.int .i64 0,.int .i64 0,.int .i64 0,.int .i64 0,.int .i64 0]
theorem ZO(b g s:List Int)(ts:List aFP):(dK b g s ts).tones=ts:=rfl
theorem mH{ts:List aFP}{A:Option Addr}{B g:Nat}{w:World}(hf:ts=[]\/∃ g,A=some ⟨g,0,none⟩/\B<=g)(O:g<B)(d:Array Value)(h:Row w w.heap.size A (aV ts)):Row (w.setRow g d) (w.setRow g d).heap.size A (aV ts):=by
 rcases hf with rfl|⟨t,rfl,J⟩
 ·exact Row.none_ _ _ _
 ·intro i v I;obtain⟨b,off,hA,hb,G⟩:=h i v I;injection hA with hA
  injection hA with z F
  subst z F;refine⟨t,0,rfl,by rw[size_setRow];exact hb,?_⟩;rw[aH5 (w:=w) (aHy w g t d (by omega))];exact G
theorem EM(b g:List Int)(room:Int)(tones:Bool)(w:World)(hb:b.length=16)(hr:BigB b)(hg:g.length=4):
  Calls prog 212 #[aR b,aR g,.int .i64 room,.bool tones] w (VY w tones (kE b g room tones).1 (kE b g room tones).2):=by
 have ht:=U6 hb hr tones;obtain⟨ts,aT⟩:∃ ts,cQ b tones=ts:=⟨_,rfl⟩;have G:kE b g room tones=eE b g room ts (mY (dH b ts)) 92 dL 0:=by unfold kE;rw[aT]
 rw[G];rw[aT]at ht;have HF:=hid (fun W=>PH b W hb hr);have cH:=hid (show tones=true->nX b=ts by intro h;rw[<-aT,h];simp[cQ]);have cG:=hid (show tones=false->ts=[] by intro h;rw[<-aT,h];simp[cQ]);have c7:(dH b ts).length=16:=by rw[tO,hb]
 have HO:=hid (fun A cap W hr=>CY b ts A cap W hb (by have:=ht.len;omega) hr ht.big ht.each);have HM:=hid (fun W=>aCz (dH b ts) W c7 ht.out);have dJ:=hid (fun s A cap W (d:ScB s) hr=>aD2 b g s ts A cap W hb hg d ht hr);have cC:=hid (fun s A cap W (d:ScB s)=>aCo (dK b g s ts) A cap W (tU hg d.1) ht.len (xG hb ht d));have dG:=hid (fun s tv W (d:ScB s)=>aDB (dK b g s ts) tv (mY (dH b ts)) W (tU hg d.1) (TM _) d (fun k x hx=>(xG (g:=g) hb ht d k x hx).1) (aDy ht.out));have dE:=hid (fun (s:List Int) (d:s.length=4)=>tU (b:=b) (ts:=ts) hg d);have dB:=ht.len;have b3:((mY (dH b ts)).map (Value.int .i64)).toArray.size=4:=by simp[TM]
 have b2:=fE (mY (dH b ts));have c4:(b.map (Value.int .i64)).toArray.size=16:=by simp[hb]
 have c5:(g.map (Value.int .i64)).toArray.size=4:=by simp[hg]
 simp only[ZO]at cC;generalize mY (dH b ts)=mk at *
 unfold aR at *
 generalize ((dH b ts).map (Value.int .i64)).toArray=ov at *
 generalize (mk.map (Value.int .i64)).toArray=mv at *
 generalize (b.map (Value.int .i64)).toArray=bv at *
 generalize (g.map (Value.int .i64)).toArray=gv at *
 have bI:=hid (show (prog.info? 43).map (·.size)=some bv.size by rw[c4];exact bJ);have dC:=hid (show (prog.info? 40).map (·.size)=some gv.size by rw[c5];exact b9);have cE:=hid (show (prog.info? 40).map (·.size)=some mv.size by rw[b3];exact b9);have dP:=hid b3;have dN:=hid b2;have z:=hid (yM w (.cells bv 43) (.cells gv 40) (.cells bS 45));have d8:=hid dB;clear G aT ht c7 dB b3 b2 c4 c5 hb hr hg;go_enter func212,ntmps212
 go_upto_if 16 with fail
 go_cut [10] (fun v wx=>∃ A c,v=.slice A ts.length c/\ts.length<=c/\c<=9223372036854775807/\(ts=[]\/∃ g,A=some ⟨g,0,none⟩/\w.heap.size+3<=g)/\(tones=false->A=none/\c=0)/\Row wx wx.heap.size A (aV ts)/\wx.heap[w.heap.size]? = some (.cells bv 43 (0,0))/\wx.heap[w.heap.size+1]? = some (.cells gv 40 (0,0))/\wx.heap[w.heap.size+1+1]? = some (.cells bS 45 (0,0))/\Below w.heap.size w wx)
 case first =>
  cases tones
  ·have U:=cG.out rfl;subst U;go_wp2
   go_meet
   exact⟨none,0,rfl,by simp,by omega,.inl trivial,fun _=>⟨rfl,rfl⟩,Row.none_ _ _ _,z.out.1,z.out.2.1,z.out.2.2.1,z.out.2.2.2.2⟩
  ·have U:=cH.out rfl;rw[U]at HF;go_wp2_with (first|(go_at_call 230;fail)|(refine aB rfl 43 (.tmp 4) rfl w.heap.size rfl _ bv _ _ z.out.1 underlying43 rfl bI.out ?_))
   refine (HF.out _).mono ?_;rintro e w1 ⟨A,c,rfl,a9,a6,a7,aS,cZ⟩;have d1:ts=[]\/∃ g,A=some ⟨g,0,none⟩/\w.heap.size+3<=g:=by
    rcases a7 with h|⟨g,h1,h2⟩
    ·exact .inl h
    ·exact .inr ⟨g,h1,aGE (aIw z.out.2.2.2.1.symm) h2⟩
   have aN:=hid aS;have a0:=hid cZ;clear aS cZ U;go_wp2
   go_meet
   exact⟨A,c,rfl,a9,a6,d1,(by intro h;cases h),aN.out,aF z.out.1 a0.out,aF z.out.2.1 a0.out,aF z.out.2.2.1 a0.out,lC z.out.2.2.2.2 (LE _) a0.out⟩
 case rest =>
  obtain⟨A,c,rfl,a9,a6,a7,c6,aS,U,h1,h2,c3⟩:=hcut;have cF:=hid c6;clear c6;have a1:=hid a7;clear a7;have aN:=hid aS;have cK:=hid c3;have G0:=hid U;have G1:=hid h1;have G2:=hid h2;have d4:=hlt h2;clear aS c3 U h1 h2 z HF cH cG;go_wp2_with (first|(go_at_call 232;fail)|(refine aB rfl 43 (.tmp 4) rfl w.heap.size rfl _ bv _ _ G0.out underlying43 rfl bI.out ?_))
  refine (HO.out A c _ aN.out).mono ?_;rintro e w2 ⟨rfl,c0⟩;have cI:=hid c0;clear c0;go_wp2_with (go_at_call 231;fail)
  refine (HM.out _).mono ?_;rintro e F ⟨rfl,c1⟩;have aH:=hid (aC cI.out c1);clear c1 cI;go_wp2_with (refine aA rfl 40 (.tmp 11) (.tmp 22) rfl F.heap.size rfl _ _ mv rfl (LT F _) cE.out (by rw[dP.out];rfl) dN.out ?_;rw[aGT])
  have H2:=hid (yL F (.cells mv 40) (.cells (dL.map (Value.int .i64)).toArray 263));have eG:=aGE d4 aH.out.size;have K0:=hid (aF G0.out aH.out);have K1:=hid (aF G1.out aH.out);have K2:=hid (aF G2.out aH.out);have bO:=hid (aN.out.later aH.out);have KB:=hid (lC cK.out (by omega) aH.out);clear G0 G1 G2 aN cK;go_loopw [13] (fun v wr=>∃ (s:List Int) (n fuel:Nat),ScB s/\UY s=n/\fuel+n=92/\eE b g room ts mk fuel s n=eE b g room ts mk 92 dL 0/\v=.int .i64 n /\
   wr.heap[F.heap.size]? = some (.cells mv 40 (0,0))/\Blk wr (F.heap.size+1) 263 (s.map (Value.int .i64))/\Below F.heap.size F wr) (fun v _=>93-(intOf v).toNat)
  case atStart=>exact⟨dL,0,92,ScB.zero,rfl,rfl,rfl,rfl,H2.out.1,H2.out.2.1,H2.out.2.2.2⟩
  case round =>
   obtain⟨s,n,fuel,d,c9,eB,b5,rfl,hm,bD,aJ⟩:=hrel;have d7:=hid b5;have Hs:=hid d;have dT:=hid c9;have R0:=hid (aF K0.out aJ);have R1:=hid (aF K1.out aJ);have R2:=hid (aF K2.out aJ);have Rm:=hid hm;have Rs:=hid bD;have Rb:=hid aJ;have eD:n<=92:=by omega
   have eK:=hlt hm;have d5:=bD.lt;have c8:(s.map (Value.int .i64)).toArray.size=4:=by simp[d.1]
   have bU:=hid (show wr.heap[F.heap.size+1]? = some (.cells (s.map (Value.int .i64)).toArray 263 (0,0)) from bD);have aY:=hid (dJ.out s A c wr d (bO.out.later aJ));have bG:=hid (fun W=>cC.out s A c W d);have bK:=hid (fun W=>dG.out s (.slice A ts.length c) W d);have cY:=dE.out s d.1;have hfz:=fX cY (.slice A ts.length c);have bY:=l8 (dK b g s ts) (tv:=.slice A ts.length c) rfl;rw[show (aFJ.cells (dK b g s ts) (.slice A ts.length c)).toArray=aZ (dK b g s ts) (.slice A ts.length c) from rfl]at aY;have cD:=hid (show (prog.info? 263).map (·.size)=some (s.map (Value.int .i64)).toArray.size by rw[c8];exact n6);obtain⟨sv,dA⟩:∃ sv,(s.map (Value.int .i64)).toArray=sv:=⟨_,rfl⟩;rw[dA]at bU aY cD;obtain⟨t,b0⟩:∃ t,aZ (dK b g s ts) (.slice A ts.length c)=t:=⟨_,rfl⟩;rw[b0]at aY bG bK hfz bY;have I:=hid (show (prog.info? 45).map (·.size)=some t.size by rw[hfz];exact bZ);have bN:=hid hfz;have bM:=hid bY;have cM:=hid b0;obtain⟨Z,hZ⟩:∃ Z,gH (dK b g s ts)=Z:=⟨_,rfl⟩;obtain⟨X,J⟩:∃ X,cX (dK b g s ts).width s mk 4=X:=⟨_,rfl⟩;rw[hZ]at bG;rw[show (dK b g s ts).scale=s from rfl,J]at bK;have dZ:=nQ (dK b g s ts).width s mk 4;have aQ:=qC (dK b g s ts).width s mk 4;rw[J]at dZ aQ;have bX:(Z<=room\/X<0)->eE b g room ts mk fuel s n=(dK b g s ts,n):=by
    intro h;cases fuel with
    | zero=>rfl
    | succ fuel =>
     unfold eE;simp only;rw[FN (by rw[hZ,J];exact h)]
   have b1:¬ (Z<=room\/X<0)->∃ m,fuel=m+1/\eE b g room ts mk fuel s n=eE b g room ts mk m (s.set X.toNat (bgt s X.toNat+1)) (n+1):=by
    intro h;cases fuel with
    | zero =>
     have:=aBm d (by omega) (dK b g s ts).width mk;rw[J]at this;exact absurd (Or.inr this) h
    | succ fuel =>
     refine⟨fuel,rfl,?_⟩
     conv=>lhs;unfold eE
     simp only;rw[sL (by rw[hZ,J];exact h),J]
   rw[b5]at bX b1;have cL:=hid bX;have dM:=hid b1;clear d c9 b5 hm bD aJ c8 hfz bY dA b0 cY hZ J bX b1;go_wp2_with (first|(go_at_call 233;fail)|(refine aB rfl 43 (.tmp 4) rfl w.heap.size rfl _ bv _ _ R0.out underlying43 rfl bI.out ?_)|(refine aB rfl 40 (.tmp 5) rfl (w.heap.size+1) rfl _ gv _ _ R1.out underlying40 rfl dC.out ?_)|(refine aB rfl 263 (.tmp 12) rfl (F.heap.size+1) rfl _ sv _ _ bU.out underlying263 rfl cD.out ?_))
   refine aY.out.mono ?_;rintro e O ⟨rfl,c2⟩;have cJ:=hid c2;clear c2;go_wp2_with (first|(go_at_call 234;fail)|(refine aA rfl 45 (.tmp 14) (.tmp 29) rfl O.heap.size rfl _ _ t rfl (LT O _) I.out (by rw[bN.out];rfl) bM.out ?_;rw[aGT])|(refine aB rfl 45 (.tmp 14) rfl O.heap.size rfl _ t _ _ (LT O _) underlying45 rfl I.out ?_))
   refine (bG.out _).mono ?_;rintro e w6 ⟨rfl,bW⟩;have bV:=aC (aP O (.cells t 45)) bW;have aM:=hid (aC cJ.out bV);have aW:=hid (aF (LT O (.cells t 45)) bW);have Q2:=hid (aF R2.out aM.out);have Qm:=hid (aF Rm.out aM.out);have Qs:=hid (Rs.out.below aM.out d5);have Qb:=hid (lC Rb.out (LE _) aM.out);have cP:=hid (bO.out.later Qb.out);have eH:=cJ.out.size;have eI:=bV.size;clear bW bV R0 R1 R2 Rm Rs Rb bU aM
   by_cases d0:Z<=room
   ·have he:=cL.out (.inl d0);have He:=hid he;clear he aQ;go_wp2_with (first|(refine aB rfl 45 (.tmp 14) rfl O.heap.size rfl _ t _ _ aW.out underlying45 rfl I.out ?_)|(refine aA rfl 45 (.tmp 8) (.tmp 34) rfl (w.heap.size+1+1) rfl _ _ t rfl Q2.out I.out (by rw[bN.out];rfl) bM.out ?_))
    refine aGk (v:=.tuple #[.agg t,.int .i64 n]) (aX results212 _ _ (w.heap.size+1+1) 45 t (0,0) _ _ rfl rfl (bA w6 _ _ _ t Q2.out) underlying45 rfl I.out) rfl ?_;rw[He.out];refine⟨A,c,by rw[<-cM.out];rfl,a9,a6,?_,cF.out,mH a1.out (by omega) t cP.out,aO (lC KB.out (by omega) Qb.out) _ (by omega) _⟩;rcases a1.out with h|⟨g,h1,h2⟩
    ·exact .inl h
    ·exact .inr ⟨g,h1,by omega⟩
   ·go_wp2_with (first|(go_at_call 235;fail)|(refine aB rfl 45 (.tmp 14) rfl O.heap.size rfl _ t _ _ aW.out underlying45 rfl I.out ?_)|(refine aB rfl 40 (.tmp 11) rfl F.heap.size rfl _ mv _ _ Qm.out underlying40 rfl cE.out ?_))
    refine (bK.out _).mono ?_;rintro e w7 ⟨rfl,V⟩;have dD:=hid (aF aW.out V);have cO:=hid (aF Q2.out V);have dX:=hid (aF Qm.out V);have bT:=hid (Qs.out.below V Qs.out.lt);have bP:=hid (lC Qb.out (LE _) V);have dY:=hid (bO.out.later bP.out);have eJ:=V.size;clear V aW Q2 Qm Qs Qb cP
    by_cases J:X<0
    ·have He:=hid (cL.out (.inr J));clear aQ;go_wp2_with (first|(refine aB rfl 45 (.tmp 14) rfl O.heap.size rfl _ t _ _ dD.out underlying45 rfl I.out ?_)|(refine aA rfl 45 (.tmp 8) (.tmp 41) rfl (w.heap.size+1+1) rfl _ _ t rfl cO.out I.out (by rw[bN.out];rfl) bM.out ?_))
     refine aGk (v:=.tuple #[.agg t,.int .i64 n]) (aX results212 _ _ (w.heap.size+1+1) 45 t (0,0) _ _ rfl rfl (bA w7 _ _ _ t cO.out) underlying45 rfl I.out) rfl ?_;rw[He.out];refine⟨A,c,by rw[<-cM.out];rfl,a9,a6,?_,cF.out,mH a1.out (by omega) t dY.out,aO (lC KB.out (by omega) bP.out) _ (by omega) _⟩;rcases a1.out with h|⟨g,h1,h2⟩
     ·exact .inl h
     ·exact .inr ⟨g,h1,by omega⟩
    ·obtain⟨k,hk⟩:=aGF (show 0<=X by omega);subst hk;have a8:k<4:=by omega
     obtain⟨m,b2,bB⟩:=dM.out (by omega);have ho:=aQ (by omega);rw[Int.toNat_natCast]at bB ho;have d:=Hs.out;obtain⟨S,G⟩:=aE (k:=k) d.1 a8;rw[aD G]at ho bB;have d2:=d.2 k a8;rw[aD G]at d2;have b6:=UZ d a8 (S+1);rw[aD G]at b6;have b4:=d.inc a8 (by rw[aD G];exact ho.2);rw[aD G]at b4;have dR:=hid b4;have dS:=hid b6;have dO:=hid bB;have eC:(k:Int)<4:=by omega
     have ce:w7.cell? ⟨F.heap.size+1,k,none⟩=some (.int .i64 S):=by rw[bT.out.cell,aF5,G];rfl
     have fz:=bT.out.frozen k;have eF:IntKind.i64.wrap (S+1)=S+1:=aGl _ (by omega);clear aQ ho d b6 b4 bB G;go_wp2;go_roundw
     case rel =>
      refine⟨s.set k (S+1),n+1,m,dR.out,by have:=dS.out;have:=dT.out;omega,by omega,dO.out.symm,by go_num,(aHm w7 _ _ _ (by simp)).trans dX.out,?_,bP.out.setCell (by simp) _⟩;rw[aG0];exact bT.out.set_ k _
     case measure=>simp[intOf];omega
end
def lA(b:List Int)(t:aFP):List Int:=if 0<=t.idx/\t.idx<16 then b.set t.idx.toNat (bgt b t.idx.toNat+t.val) else b
def uU(b:List Int)(ts:List aFP):List Int:=ts.foldl lA b
theorem BE(b:List Int)(t:aFP):(lA b t).length=b.length:=by unfold lA;split <;> simp
theorem aCJ(b:List Int):∀ (ts:List aFP),(uU b ts).length=b.length:=by
 intro ts;unfold uU
 induction ts generalizing b with
 | nil=>rfl
 | cons t r d=>rw[List.foldl_cons,d,BE]
theorem aAT(b:List Int){ts:List aFP}{m:Nat}{t:aFP}(h:ts[m]? = some t):uU b (ts.take (m+1))=lA (uU b (ts.take m)) t:=by
 obtain⟨hm,rfl⟩:=aGi.1 h;unfold uU;rw[aHG hm,aHt]
 rfl
def sJ(v:Int):Int:=if v < -2147483648 then -2147483648 else if 2147483648<v then 2147483648 else v
theorem aDv(v:Int):-2147483648<=sJ v/\sJ v<=2147483648:=by
 unfold sJ
 repeat' split
 all_goals omega
def eR(b:List Int)(m:Nat):List Int:=(List.range 16).map fun k=>if k<m then sJ (bgt b k) else bgt b k
theorem NQ{b:List Int}(hb:b.length=16):eR b 0=b:=by
 rw[dV hb];unfold eR;apply aGZ;intro k hk;have:=aGA.1 hk;rw[sL (by omega),<-dV hb]
theorem NP(b:List Int){m:Nat}(hm:m<16):(eR b m).set m (sJ (bgt b m))=eR b (m+1):=by
 refine cK _ (fun k=>if k<m+1 then sJ (bgt b k) else bgt b k) hm ?_ (fun i hi=>?_)
 ·rw[FN (by omega)]
 ·by_cases h:i<m
  ·rw[FN h,FN (by omega)]
  ·rw[sL h,sL (by omega)]
theorem BI(b:List Int)(m:Nat):(eR b m).length=16:=by simp[eR]
theorem Q1(b:List Int){m k:Nat}(hk:k<16)(hm:m<=k){x:Int}(d:b[k]? = some x):(eR b m)[k]? = some x:=by
 unfold eR;rw[aI _ hk,sL (by omega),aD d]
theorem QZ(b:List Int){m k:Nat}(hk:k<16):bgt (eR b m) k=if k<m then sJ (bgt b k) else bgt b k:=aD (aI _ hk)
def bV(f:aFJ):List Int:=eR (uU (jD f.q f.scale) f.tones) 16
theorem fO(f:aFJ):(bV f).length=16:=BI _ _
theorem IU(f:aFJ){k:Nat}(hk:k<16):-2147483648<=bgt (bV f) k/\bgt (bV f) k<=2147483648:=by
 unfold bV;rw[QZ _ hk,FN hk];exact aDv _
def BdB(B:Int)(b:List Int):Prop:=∀ k,k<16->-B<=bgt b k/\bgt b k<=B
theorem BdB.get{B:Int}{b:List Int}(h:BdB B b)(hb:b.length=16){k:Nat}{x:Int}(d:b[k]? = some x):-B<=x/\x<=B:=by
 have hk:k<16:=by have:=(aGi.1 d).1;omega
 have:=h k hk
 rwa [aD d]at this
theorem aAd:∀ (ts:List aFP) (b:List Int) (B:Int),b.length=16->BdB B b->(∀ t∈ts,-8388608<=t.val/\t.val<=8388608)->BdB (B+8388608*(ts.length:Int)) (uU b ts)
 | [],b,B,_,h,_=>by
  intro k hk;have:=h k hk;simp only[uU,List.foldl_nil,List.length_nil];omega
 | t::r,b,B,hb,h,ht=>by
  have h1:BdB (B+8388608) (lA b t):=by
   intro k hk;have h2:=ht t (by simp);have z:=h k hk;unfold lA;split
   ·rename_i hi
    rw[jS _ _ _ _ (by omega)];split
    ·rename_i e
     rw[e];omega
    ·omega
   ·omega
  have:=aAd r (lA b t) (B+8388608) (by rw[BE,hb]) h1 (fun x d=>ht x (by simp[d]));intro k hk;have h2:=this k hk;rw[List.length_cons];show _<=bgt (uU (lA b t) r) k/\bgt (uU (lA b t) r) k<=_;omega
theorem aFQ.qbd{f:aFJ}(h:aFQ f){k:Nat}(hk:k<16):-8388608<=bgt f.q k/\bgt f.q k<8388608:=by
 have h1:=h.q k hk;have h2:=h.width (k / 4) (by omega);exact qS (k:=23) (by omega)
theorem aFA{n:Nat}(h:n<=23):(1:Int)<=2 ^ n/\(2:Int) ^ n<=8388608:=by
 rw[show (2:Int) ^ n=((2 ^ n:Nat):Int) by rw[Int.natCast_pow];rfl];have h1:=aHR (n:=2) (by decide) h;have h2:=aH8 n;omega
theorem aFk{x y X Y:Int}(h1:-X<=x)(h2:x<=X)(d:0<=y)(h:y<=Y):-(X*Y)<=x*y/\x*y<=X*Y:=by
 have t:0<=X:=by omega
 have a:=aH7 h2 d;have b:=aH7 h1 d;have c:=aJh h t;rw[Int.neg_mul]at b;omega
theorem aFQ.values{f:aFJ}(h:aFQ f):BdB 70368744177664 (jD f.q f.scale):=by
 intro k hk;unfold jD;rw[FN h.scale.ok,rZ _ _ hk,FN hk];have h1:=h.qbd hk;have h2:=h.scale.2 (k / 4) (by omega);have d:=aFA (n:=(bgt f.scale (k / 4)).toNat) (by omega);exact aFk (X:=8388608) (Y:=8388608) h1.1 (by omega) (by omega) d.2
theorem aFQ.added{f:aFJ}(h:aFQ f)(m:Nat):BdB 70368769343488 (uU (jD f.q f.scale) (f.tones.take m)):=by
 have h1:=aAd (f.tones.take m) (jD f.q f.scale) 70368744177664 (DB _ _) h.values (fun t ht=>by have:=h.tidx t (aIJ ht);omega);intro k hk;have h2:=h1 k hk;have d:=h.tlen;have z:(f.tones.take m).length<=2:=by rw[aGB];omega
 omega
def fT(b:List Int):aFJ:=dK b dL dL []
theorem aCS(b:List Int)(hb:b.length=16)(z:BigB b):gH (fT b)<=1073741824:=by
 have ht:aF8 b []:=U6 hb z false;have F:=xG (g:=dL) hb ht ScB.zero;have t:(fT b).width.length=4:=iH _ _;have h:∀ k,k<4->bgt (fT b).width k<=1000:=by
  intro k hk;obtain⟨x,d⟩:=aE t hk;rw[aD d];exact (F k x d).2
 have:=h 0 (by omega);have:=h 1 (by omega);have:=h 2 (by omega);have:=h 3 (by omega);unfold gH;have e:(fT b).tones.length=0:=rfl;rw[e];omega
theorem OZ(b:List Int)(hb:b.length=16)(d:BigB b):kE b dL 1073741824 false=(fT b,0):=by
 have h:=aCS b hb d;show eE b dL 1073741824 [] (mY (dH b [])) (91+1) dL 0=_;unfold eE;simp only;rw[FN (.inl h)]
 rfl
theorem RT{b:List Int}(hb:b.length=16):fC b dL=b:=by
 unfold fC;rw[FN ScB.zero.ok];refine aHH ?_ (dV hb).symm;unfold cM;apply aGZ;intro k hk;have d:=aGA.1 hk;rw[FN d];have:bgt dL (k / 4)=0:=by
  have h:k / 4<4:=by omega
  generalize k / 4=j at *
  match j,h with
  | 0,_|1,_|2,_|3,_=>rfl
 rw[this];rfl
theorem N6{b:List Int}(hb:b.length=16):jD b dL=b:=by
 unfold jD;rw[FN ScB.zero.ok];refine aHH ?_ (dV hb).symm;unfold bN;apply aGZ;intro k hk;have d:=aGA.1 hk;rw[FN d];have:bgt dL (k / 4)=0:=by
  have h:k / 4<4:=by omega
  generalize k / 4=j at *
  match j,h with
  | 0,_|1,_|2,_|3,_=>rfl
 rw[this];show bgt b k*2 ^ 0=_;omega
theorem aEx{b:List Int}(hb:b.length=16):(fT b).q=b:=RT hb
theorem XE{b:List Int}(hb:b.length=16)(h:BdB 2147483648 b):bV (fT b)=b:=by
 unfold bV;rw[aEx hb,show (fT b).scale=dL from rfl,show (fT b).tones=[] from rfl,N6 hb];show eR b 16=b;refine aHH ?_ (dV hb).symm;unfold eR;apply aGZ;intro k hk;have d:=aGA.1 hk;rw[FN d];have:=h k d;unfold sJ;rw[sL (by omega),sL (by omega)]
section
open Go.RowKit
def qN(x:Int):Bool:=decide (cG (eS x)<=24)
end
section
open Go.RowKit
theorem eI{w:World}{g:Nat}{f:aFJ}{tv:Value}(h:f.Len)(z:w.heap[g]? = some (.cells (aZ f tv) 45 (0,0))):
  (∀ j v,(f.gains.map (Value.int .i64))[j]? = some v->w.cell? ⟨g,0+j,none⟩=some v)/\w.cell? ⟨g,4,none⟩=some tv/\(∀ j v,(f.scale.map (Value.int .i64))[j]? = some v->w.cell? ⟨g,5+j,none⟩=some v) /\
  (∀ j v,(f.width.map (Value.int .i64))[j]? = some v->w.cell? ⟨g,9+j,none⟩=some v)/\∀ j v,(f.q.map (Value.int .i64))[j]? = some v->w.cell? ⟨g,13+j,none⟩=some v:=by
 have t:∀ j,w.cell? ⟨g,j,none⟩=(aZ f tv)[j]?:=fun j=>aGo w g j _ _ _ z
 exact⟨fun j v d=>(t _).trans (tD h tv d),(t 4).trans (yG h tv),fun j v d=>(t _).trans (yF h tv d),fun j v d=>(t _).trans (rE h tv d),fun j v d=>(t _).trans (aC9 h tv d)⟩
theorem aFQ.len{f:aFJ}(h:aFQ f):f.Len:=⟨h.gains.1,h.scale.1,h.wlen,h.qlen⟩
theorem xO(f:aFJ)(A:Option Addr)(c:Nat)(w:World)(h:aFQ f)(hr:Row w w.heap.size A (aV f.tones)):
  Calls prog 130 #[.agg (aZ f (.slice A f.tones.length c))] w fun e w'=>e=.returned (aR (bV f))/\Below w.heap.size w w':=by
 have hV:=hid (fun W=>V6 f.q f.scale W h.qlen h.scale.1 (fun k x F=>by
  have hk:k<16:=by have:=(aGi.1 F).1;have:=h.qlen;omega
  have:=h.qbd hk;rw[aD F]at this;omega) h.scale.ok)
 have cB:bN f.q f.scale 16=jD f.q f.scale:=by unfold jD;rw[FN h.scale.ok]
 rw[cB]at hV;have HL:=h.len;have c2:=hid (fun m=>h.added m);have c7:=hid h.tidx;have hfz:=fX HL (.slice A f.tones.length c);have dY:=h.tlen;have bL:=hid (fun (W:World) (g:Nat) hg=>eI (w:=W) (g:=g) HL (tv:=.slice A f.tones.length c) hg);have b5:(f.q.map (Value.int .i64)).length=16:=by simp[HL.q]
 have b7:(f.scale.map (Value.int .i64)).length=4:=by simp[HL.s]
 have bM:=hid (show bV f=eR (uU (jD f.q f.scale) f.tones) 16 from rfl);rw[bM.out];have cC:=DB f.q f.scale;have cD:=fE (jD f.q f.scale);have bZ:=h.values;clear bM cB h;obtain⟨gg,ts,sc,wd,q⟩:=f;simp only at *
 have Hr:=hid hr;generalize hn:ts.length=n at *
 generalize jD q sc=V at *
 generalize aZ ⟨gg,ts,sc,wd,q⟩ (.slice A n c)=fc at *
 have Hn:=hid hn;unfold aR at hV ⊢;generalize dL:q.map (Value.int .i64)=qv at *
 generalize dM:sc.map (Value.int .i64)=sv at *
 have cT:=hid (show (prog.info? 43).map (·.size)=some qv.length by rw[b5];exact bJ);have cU:=hid (show (prog.info? 40).map (·.size)=some sv.length by rw[b7];exact b9);have cV:=hid (fun (x:List Int) (F:x.length=16)=>(show (prog.info? 43).map (·.size)=some (x.map (Value.int .i64)).toArray.size by rw[aGH,aF7,F];exact bJ));have O:=hid (yL w (.cells fc 45) (.cells (List.replicate 16 (Value.int .i64 0)).toArray 43));have P:=bL.out _ _ O.out.1;have P1:=hid P.2.2.1;have P2:=hid P.2.2.2.2;have P3:=P.2.1;have a0:=hid cC;have bR:=hid cD;have dW:=hid bZ;clear P hr hn dL dM b5 b7 cC cD bL bZ hfz HL;go_enter func130,ntmps130;go_wp2_with (first|(go_at_call 162;fail)|(refine aL rfl 43 (.tmp 8) rfl w.heap.size 13 rfl qv _ P2.out underlying43 rfl cT.out ?_)|(refine aL rfl 40 (.tmp 10) rfl w.heap.size 5 rfl sv _ P1.out underlying40 rfl cU.out ?_))
 refine (hV.out _).mono ?_;rintro e z ⟨rfl,aH⟩;have K0:=hid (aF O.out.1 aH);have K1:=hid (aF O.out.2.1 aH);have KB:=hid (lC O.out.2.2.2 (LE _) aH);have hz:=aGE (aIw O.out.2.2.1.symm) aH.size;have p4:=(aH.cell (p:=⟨w.heap.size,4,none⟩) (hlt O.out.1)).trans P3;have cI:=b8 p4 (.cells (V.map (Value.int .i64)).toArray 43);have HN:=hid (Blk.new z 43 (V.map (Value.int .i64)));have a1:=hid (aF K1.out (aP z (.cells (V.map (Value.int .i64)).toArray 43)));have a2:=hid (lC KB.out (by omega) (aP z (.cells (V.map (Value.int .i64)).toArray 43)));have bO:=hid (cV.out V a0.out);have bP:=hid (show (V.map (Value.int .i64)).toArray.size=16 by simp[a0.out]);obtain⟨va,a7⟩:∃ va,(V.map (Value.int .i64)).toArray=va:=⟨_,rfl⟩;rw[a7]at bO bP bR cI a1 a2 ⊢;have bI:=hid (show Blk (z.alloc (.cells va 43)) z.heap.size 43 (V.map (Value.int .i64)) by rw[<-a7];exact HN.out);clear aH P1 P2 P3 p4 K0 K1 KB O HN a7;go_wp2_with (first|(refine aA rfl 43 (.tmp 3) (.tmp 12) rfl z.heap.size rfl _ _ va rfl (LT z _) bO.out (by rw[bP.out];rfl) bR.out ?_;rw[aGT]))
 go_loopw [16] (fun i wr=>∃ (m:Nat),m<=n/\i=.int .i64 m/\Blk wr z.heap.size 43 ((uU V (ts.take m)).map (Value.int .i64))/\Blk wr (w.heap.size+1) 43 (List.replicate 16 (.int .i64 0))/\Below w.heap.size w wr) (fun i _=>n-(intOf i).toNat)
 case atStart=>exact⟨0,by omega,rfl,bI.out,a1.out,a2.out⟩
 case round =>
  obtain⟨m,hm,rfl,J,hZ,aM⟩:=hrel;have G:=hid J;have Z:=hid hZ;have I:=hid aM;have a5:=aCJ V (ts.take m);rw[a0.out]at a5;have b1:=c2.out m;have HO:=hid (fun (t:aFP) (h:ts[m]? = some t)=>aAT V h);have bG:=hid (show m=n->uU V (ts.take m)=uU V ts from fun h=>by rw[aGW (by rw[Hn.out];omega)]);generalize uU V (ts.take m)=d at *
  have aK:=hid a5;have c4:=hid b1;clear J hZ aM a5 b1 cI bI a1 a2
  by_cases hlt:m<n
  ·obtain⟨t,ht⟩:=aE (k:=m) Hn.out hlt;have HS:=hid (HO.out t ht);have dN:=c7.out t (aGh ht);obtain⟨g,off,hA,hg,k0,k1⟩:=oK Hr.out ht;have c0:=(I.out.cell (p:=⟨g,off+m*2,none⟩) hg).trans k0;have c1:=(I.out.cell (p:=⟨g,off+m*2+1,none⟩) hg).trans k1;subst hA;obtain⟨ix,U⟩:=t;obtain⟨v1,v2,v3,v4⟩:=dN;simp only at c0 c1 v1 v2 v3 v4;clear ht k0 k1;obtain⟨j,rfl⟩:=aGF v1;have hj:j<16:=by omega
   obtain⟨x,F⟩:=aE (k:=j) aK.out hj;have d0:=c4.out.get aK.out F;have cX:=hid (show lA d ⟨(j:Int),U⟩=d.set j (x+U) by
    unfold lA;simp only;rw[FN ⟨v1,v2⟩,Int.toNat_natCast,aD F])
   have dZ:IntKind.i64.wrap (x+U)=x+U:=aGl _ (by omega);have dH:(d.map (Value.int .i64)).toArray[j]? = some (.int .i64 x):=fG F;clear F;have t1:(0:Int)<=(j:Int):=v1;have t2:(j:Int)<16:=v2;have a3:=(G.out.alloc (.cells #[.int .i64 (j:Int),.int .i64 U] 156));have a4:=Blk.new wr 156 [.int .i64 (j:Int),.int .i64 U];have cO:=hid a3;have dV:=hid a4;have dP:=dR a3;have dQ:=iX a4;clear a3 a4;go_wp2_with fail
   refine aJ 8 (by kernel_rfl) (by kernel_rfl) ?_;simp only[List.take_succ_cons,List.take_zero,aGO,aGR]
   repeat (go_big_quiet_step (fail))
   refine aGv ?_;intro w5 cE;have aT:=aQ cE;have aS:=cO.out.below aT (by have:=G.out.lt;simp;omega);have b0:=(Z.out.alloc (.cells #[.int .i64 (j:Int),.int .i64 U] 156)).below aT (by have:=Z.out.lt;simp;omega);have cP:=hid aS;have cZ:=hid b0;have c3:=hid (I.out.trans (((aP wr _).trans (aT.mono (by simp))).mono I.out.size));have ce:w5.cell? ⟨z.heap.size,j,none⟩=some (.int .i64 x):=by rw[aS.cell];simpa using dH
   have fz:=aS.frozen j;clear cE aT dP dQ aS b0;go_wp2;go_roundw
   case rel =>
    refine⟨m+1,by omega,by go_num,?_,cZ.out.far (by simp;omega) _,c3.out.setCell (by simp;omega) _⟩;rw[HS.out,cX.out,aG0];exact cP.out.set_ j _
   case measure=>simp[intOf];omega
  ·have dK:m=n:=by omega
   have b2:=bG.out dK;have dG:=hid b2;have hH:=hid (show wr.heap[z.heap.size]? = some (.cells (d.map (Value.int .i64)).toArray 43 (0,0)) from G.out);have a6:(d.map (Value.int .i64)).toArray.size=16:=by simp[aK.out]
   have HC:=hid (fun (k:Nat) (x:Int) (h:d[k]? = some x)=>fG h);have bE:=hid G.out;obtain⟨cs,b3⟩:∃ cs,(d.map (Value.int .i64)).toArray=cs:=⟨_,rfl⟩;rw[b3]at hH a6 HC;have HF:=hid (show (prog.info? 43).map (·.size)=some cs.size by rw[a6];exact bJ);clear b2 a6 HO bG b3 G;go_wp2_with (first|(refine aB rfl 43 (.tmp 3) rfl z.heap.size rfl _ cs _ _ hH.out underlying43 rfl HF.out ?_))
   go_loopw [38] (fun i wt=>∃ (m:Nat),m<=16/\i=.int .i64 m/\Blk wt z.heap.size 43 ((eR d m).map (Value.int .i64))/\Blk wt (w.heap.size+1) 43 (List.replicate 16 (.int .i64 0))/\Below w.heap.size w wt) (fun i _=>16-(intOf i).toNat)
   case atStart=>exact⟨0,by omega,rfl,by rw[NQ aK.out];exact bE.out,Z.out,I.out⟩
   case round =>
    obtain⟨k,hk,rfl,J,hZ,aM⟩:=hrel;have G:=hid J;have Z:=hid hZ;have I:=hid aM;clear hH bE
    by_cases hlt:k<16
    ·obtain⟨x,F⟩:=aE (k:=k) aK.out hlt;have t1:(k:Int)<16:=by omega
     have dX:=cA (P:=prog) underlying43 hlt (fun W=>by kernel_rfl) (fun W=>by kernel_rfl) (HC.out _ _ F);have cQ:=hid (show ∀ W,Calls prog 122 #[.int .i64 x,.int .i64 (-2147483648),.int .i64 2147483648] W fun e w'=>e=.returned (.int .i64 (sJ x))/\W=w' from fun W=>(zL x (-2147483648) 2147483648 W).mono fun e w' ⟨he,hw⟩=>⟨he.trans (cL (by unfold s9 sJ;(repeat' split) <;> omega)),hw⟩);have cY:=hid (show (eR d k).set k (sJ x)=eR d (k+1) by rw[<-NP d hlt,aD F]);have dF:((eR d k).map (Value.int .i64))[k]? = some (.int .i64 x):=by rw[aF5,Q1 d hlt (LE k) F];rfl
     have ce:wr.cell? ⟨z.heap.size,k,none⟩=some (.int .i64 x):=by rw[J.cell];exact dF
     have fz:=J.frozen k;generalize sJ x=lx at *
     clear F J hZ aM;go_wp2_with (go_at_call 122;refine (cQ.out _).mono ?_;rintro e w5 ⟨rfl,rfl⟩)
     go_roundw
     case rel =>
      refine⟨k+1,by omega,by go_num,?_,Z.out.far (by simp;omega) _,I.out.setCell (by simp;omega) _⟩;rw[<-cY.out,aG0];exact G.out.set_ k _
     case measure=>simp[intOf];omega
    ·have dJ:k=16:=by omega
     subst dJ;have t1:¬ (((16:Nat):Int)<16):=by omega
     have hH:=hid (show wr.heap[z.heap.size]? = some (.cells ((eR d 16).map (Value.int .i64)).toArray 43 (0,0)) from G.out);have bY:=hid (show wr.heap[w.heap.size+1]? = some (.cells (List.replicate 16 (Value.int .i64 0)).toArray 43 (0,0)) from Z.out);have H1:=hid (fE (eR d 16));have aW:((eR d 16).map (Value.int .i64)).toArray.size=16:=by simp[BI]
     obtain⟨xs,a8⟩:∃ xs,((eR d 16).map (Value.int .i64)).toArray=xs:=⟨_,rfl⟩;rw[a8]at hH H1 aW;have HE:=hid a8;clear a8;have aY:=hid (show (prog.info? 43).map (·.size)=some xs.size by rw[aW];exact bJ);have c6:=hid aW;clear aW J hZ;go_wp2_with (first|(refine aB rfl 43 (.tmp 3) rfl z.heap.size rfl _ xs _ _ hH.out underlying43 rfl aY.out ?_)|(refine aA rfl 43 (.tmp 2) (.tmp 47) rfl (w.heap.size+1) rfl _ _ xs rfl bY.out aY.out (by rw[c6.out];simp) H1.out ?_))
     refine aGk (v:=.agg xs) (aG9 results130 _ _ (w.heap.size+1) 43 xs (0,0) _ rfl (bA wr _ _ _ xs bY.out) underlying43 rfl aY.out) rfl ?_;exact⟨by rw[<-HE.out,dG.out],aO I.out _ (by omega) _⟩
end
def qP(v:Int)(k:Nat):Nat:=(v % 2 ^ k).toNat
theorem aAC(v:Int)(k:Nat):qP v k<2 ^ k:=by
 unfold qP;have d:(0:Int)<2 ^ k:=aHP (by decide);have h1:=aJI v (b:=2 ^ k) (by omega);have h2:=Int.emod_lt_of_pos v d;have e:((2 ^ k:Nat):Int)=2 ^ k:=by rw[Int.natCast_pow];rfl
 omega
def j3(l:List Int):List Nat:=(l.map fun g=>cR g.toNat 2).flatten
def U4(t:aFP):List Nat:=cR t.idx.toNat 4++cR (qP t.val 24) 24
def iY(l:List aFP):List Nat:=(l.map U4).flatten
def QO(s w:List Int)(i:Nat):List Nat:=cR (bgt s i).toNat 5++cR (bgt w i).toNat 5
def lB(s w:List Int)(m:Nat):List Nat:=((List.range m).map (QO s w)).flatten
def UV(w q:List Int)(i:Nat):List Nat:=cR (qP (bgt q i) (bgt w (i / 4)).toNat) (bgt w (i / 4)).toNat
def lQ(w q:List Int)(m:Nat):List Nat:=((List.range m).map (UV w q)).flatten
def vC:List Nat:=cR 1 2
def BW(f:aFJ):List Nat:=vC++j3 f.gains
def sG(f:aFJ):List Nat:=BW f++cR f.tones.length 2
def sH(f:aFJ):List Nat:=sG f++iY f.tones
def sI(f:aFJ):List Nat:=sH f++lB f.scale f.width 4
def kL(f:aFJ):List Nat:=sI f++lQ f.width f.q 16
theorem BV{l:List Int}{m:Nat}{x:Int}(h:l[m]? = some x):j3 (l.take (m+1))=j3 (l.take m)++cR x.toNat 2:=by
 obtain⟨hm,rfl⟩:=aGi.1 h;unfold j3;rw[aHG hm,aG2,aJP];simp only[aHF,aIH,List.flatten_cons,List.flatten_nil,aIh]
theorem CZ{l:List aFP}{m:Nat}{t:aFP}(h:l[m]? = some t):iY (l.take (m+1))=iY (l.take m)++U4 t:=by
 obtain⟨hm,rfl⟩:=aGi.1 h;unfold iY;rw[aHG hm,aG2,aJP];simp only[aHF,aIH,List.flatten_cons,List.flatten_nil,aIh]
theorem oR(s w:List Int)(m:Nat):lB s w (m+1)=lB s w m++QO s w m:=by unfold lB;rw[aH0];simp
theorem pB(w q:List Int)(m:Nat):lQ w q (m+1)=lQ w q m++UV w q m:=by unfold lQ;rw[aH0];simp
theorem rF:∀ (l:List Int),(j3 l).length=2*l.length
 | []=>rfl
 | x::r=>by
  have:=rF r;unfold j3 at this ⊢;rw[aHF,List.flatten_cons,aGG,this,cJ,List.length_cons];omega
theorem rX:∀ (l:List aFP),(iY l).length=28*l.length
 | []=>rfl
 | x::r=>by
  have:=rX r;unfold iY at this ⊢;rw[aHF,List.flatten_cons,aGG,this];unfold U4;rw[aGG,cJ,cJ,List.length_cons];omega
theorem qZ(s w:List Int):∀ m,(lB s w m).length=10*m
 | 0=>rfl
 | m+1=>by
  rw[oR,aGG,qZ s w m];unfold QO;rw[aGG,cJ,cJ];omega
def j7(w:List Int):Nat->Nat
 | 0=>0
 | m+1=>j7 w m+(bgt w (m / 4)).toNat
theorem oJ(w q:List Int):∀ m,(lQ w q m).length=j7 w m
 | 0=>rfl
 | m+1=>by
  rw[pB,aGG,oJ w q m];unfold UV;rw[cJ];rfl
theorem vR(w:List Int)(m:Nat):j7 w (m+1)=j7 w m+(bgt w (m / 4)).toNat:=rfl
theorem DC(w:List Int):j7 w 16=4*((bgt w 0).toNat+(bgt w 1).toNat+(bgt w 2).toNat+(bgt w 3).toNat):=by
 simp[j7];omega
theorem vQ(w:List Int):∀ r m,j7 w m<=j7 w (m+r)
 | 0,_=>LE _
 | r+1,m=>by
  have:=vQ w r m;rw[<-Nat.add_assoc,vR];omega
theorem AA{f:aFJ}(h:aFQ f):(BW f).length=10:=by
 unfold BW vC;rw[aGG,rF,cJ,h.gains.1]
theorem AB{f:aFJ}(h:aFQ f):(sG f).length=12:=by
 unfold sG;rw[aGG,AA h,cJ]
theorem AC{f:aFJ}(h:aFQ f):(sH f).length=12+28*f.tones.length:=by
 unfold sH;rw[aGG,AB h,rX]
theorem p7{f:aFJ}(h:aFQ f):(sI f).length=52+28*f.tones.length:=by
 unfold sI;rw[aGG,AC h,qZ];omega
theorem wI{f:aFJ}(h:aFQ f):((kL f).length:Int)=gH f:=by
 unfold kL;rw[aGG,p7 h,oJ,DC];have:=h.width 0 (by omega);have:=h.width 1 (by omega);have:=h.width 2 (by omega);have:=h.width 3 (by omega);unfold gH;omega
theorem SF{f:aFJ}(h:aFQ f):gH f<=492:=by
 have:=h.width 0 (by omega);have:=h.width 1 (by omega);have:=h.width 2 (by omega);have:=h.width 3 (by omega);have:=h.tlen;unfold gH;omega
theorem Bin.flatten{l:List (List Nat)}(h:∀ x∈l,Bin x):Bin l.flatten:=fun b hb=>by
 obtain⟨x,t,d⟩:=aIs.1 hb;exact h x t b d
theorem FU(f:aFJ):Bin (kL f):=by
 unfold kL sI sH sG BW vC;refine ((((((jE _ _).append ?_).append (jE _ _)).append ?_).append ?_).append ?_)
 ·exact Bin.flatten fun x d=>by obtain⟨g,_,rfl⟩:=aGq.1 d;exact jE _ _
 ·exact Bin.flatten fun x d=>by obtain⟨g,_,rfl⟩:=aGq.1 d;exact (jE _ _).append (jE _ _)
 ·exact Bin.flatten fun x d=>by obtain⟨g,_,rfl⟩:=aGq.1 d;exact (jE _ _).append (jE _ _)
 ·exact Bin.flatten fun x d=>by obtain⟨g,_,rfl⟩:=aGq.1 d;exact jE _ _
theorem aEZ{v:Int}{k:Nat}(h1:0<=v)(h2:v<2 ^ k):(qP v k:Int)=v:=by
 unfold qP;rw[Int.emod_eq_of_lt h1 h2];omega
theorem aD3{v:Int}{k:Nat}(h1:-(2 ^ k)<=v)(h2:v<0):(qP v k:Int)=v+2 ^ k:=by
 unfold qP;have:v % 2 ^ k=v+2 ^ k:=by
  rw[<-Int.add_emod_right];exact Int.emod_eq_of_lt (by omega) (by omega)
 rw[this];omega
end Go.Proofs.YtbpgfkjhclpbdaaGreatDoor
