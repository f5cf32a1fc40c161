/- FitK, FitL, FitI, FitM, FitR. Conditions: as each theorem states. -/
import Derived.Deep.DeepFit
import Derived.Test.YtbpgfkjhclpbdaaGreatDoorPw19
set_option maxRecDepth 100000
set_option maxHeartbeats 8000000
namespace Go.Proofs.YtbpgfkjhclpbdaaGreatDoor
open Tryz
open Go.RowKit
section
open Go.Lib (hid)
open Go.RowKit
theorem aB2(b:List Int):b.all qN=decide (cG (dF b)<=24):=by
 rw[aH9,aGD,aGy];unfold qN;constructor
 ·intro h;have:dF b<=8388607:=IK (by omega) b fun x d=>by
   have:=qS (k:=23) (aJw (h x d));omega
  have:=UI b;exact kY (k:=23) (by omega) (by omega)
 ·intro h x d;have h1:=aDN b x d;have h2:=VN (aEh (v:=x)) h1;exact aGs (by omega)
theorem KX{b:List Int}:(fT b).Len:=tU rfl rfl
theorem aAG(b:List Int)(w:World)(hb:b.length=16)(O:BigB b):
  Calls prog 211 #[aR b] w fun e w'=>e=.returned (.agg (aZ (fT b) (.slice none 0 0)))/\Below w.heap.size w w':=by
 have U:=hid (fun W=>EM b dL 1073741824 false W hb O rfl);rw[OZ b hb O]at U;have aD:(b.map (Value.int .i64)).toArray.size=16:=by simp[hb]
 unfold aR at *
 generalize (b.map (Value.int .i64)).toArray=G at *
 have aE:=hid (show (prog.info? 43).map (·.size)=some G.size by rw[aD];exact bJ);have t:=hid (yL w (.cells G 43) (.cells bS 45));clear aD hb O;go_enter func211,ntmps211;go_wp2_with (first|(go_at_call 212;fail)|(refine aB rfl 43 (.tmp 1) rfl w.heap.size rfl _ G _ _ t.out.1 underlying43 rfl aE.out ?_))
 refine (U.out _).mono ?_;rintro e h ⟨A,c,rfl,aM,aL,_,aN,aQ,F⟩;obtain⟨rfl,rfl⟩:=aN rfl;simp only[show (fT b).tones.length=0 from rfl];have K2:=hid (aF t.out.2.1 F);have KB:=hid (lC t.out.2.2.2 (LE _) F);have hz:=aGE (aIw t.out.2.2.1.symm) F.size;have hfz:=fX KX (.slice none 0 0) (f:=fT b);have I:=l8 (fT b) (tv:=.slice none 0 0) rfl;obtain⟨d,J⟩:∃ d,aZ (fT b) (.slice none 0 0)=d:=⟨_,rfl⟩;simp only[J]at hfz I ⊢;have z:=hid (show (prog.info? 45).map (·.size)=some d.size by rw[hfz];exact bZ);have Z:=hid hfz;have V:=hid I;have aH:=hid J;have HN:=hid (LT h (.cells d 45));have aC:=hid (aF K2.out (aP h (.cells d 45)));have aK:=hid (lC KB.out (by omega) (aP h (.cells d 45)));clear aQ F hfz I J t aM aL;go_wp2_with (first|(refine aA rfl 45 (.tmp 3) (.tmp 9) rfl h.heap.size rfl _ _ d rfl (LT h _) z.out (by rw[Z.out];rfl) V.out ?_;rw[aGT])|(refine aB rfl 45 (.tmp 3) rfl h.heap.size rfl _ d _ _ HN.out underlying45 rfl z.out ?_)|(refine aA rfl 45 (.tmp 2) (.tmp 11) rfl (w.heap.size+1) rfl _ _ d rfl aC.out z.out (by rw[Z.out];rfl) V.out ?_))
 refine aGk (v:=.agg d) (aG9 results211 _ _ (w.heap.size+1) 45 d (0,0) _ rfl (bA _ _ _ _ d aC.out) underlying45 rfl z.out) rfl ?_;exact⟨by rw[<-aH.out],aO aK.out _ (by omega) _⟩
def pF(b g:List Int)(size:Int):Int:=if size<24\/96<size then 12 else if (b.all qN&&iW g)=true then 0 else 5
def fD:aFJ:=⟨dL,[],dL,dL,gU⟩
theorem VO:aZ fD (.slice none 0 0)=bS:=rfl
def JT(b g:List Int)(size:Int):aFJ:=if pF b g size=0 then (if 55<=size then fT b else (kE b g (8*size) true).1) else fD
def j8(W:World)(f:aFJ)(er:Int)(e:Ending)(w':World):Prop :=
 ∃ A c,e=.returned (.tuple #[.agg (aZ f (.slice A f.tones.length c)),.int .i64 er])/\f.tones.length<=c/\c<=9223372036854775807/\(f.tones=[]\/∃ g,A=some ⟨g,0,none⟩/\W.heap.size<=g)/\Row w' w'.heap.size A (aV f.tones)/\Below W.heap.size W w'
theorem UM{b g:List Int}{room:Int}{tones:Bool}(d:g.length=4):(kE b g room tones).1.Len:=by
 obtain⟨s,n,h,t,_⟩:=tS b g room tones;rw[h];exact tU d t.1
theorem VR(b g:List Int)(size:Int)(w:World)(h:size<24\/96<size):
  Calls prog 177 #[aR b,aR g,.int .i64 size] w (j8 w fD 12):=by
 unfold aR;generalize (b.map (Value.int .i64)).toArray=U at *
 generalize (g.map (Value.int .i64)).toArray=V at *
 obtain⟨d,z⟩:∃ d,bS=d:=⟨_,rfl⟩;have I:=hid (show prog.built 45 []=some d by rw[<-z];kernel_rfl);have F:=hid (show (prog.info? 45).map (·.size)=some d.size by rw[<-z];exact bZ);have G:=hid (show d.all (·.oneCell')=true by rw[<-z,<-VO];exact l8 _ rfl);have O:=hid (show bS.size=d.size by rw[z]);have J:=hid z;clear z;have t:=hid (yM w (.cells U 43) (.cells V 40) (.cells bS 45))
 by_cases h1:size<24
 ·have W:decide (size<24)=true:=aGs h1;clear h;go_enter func177,ntmps177;go_wp2_with (first|(refine dP rfl 45 _ rfl d (by simpa[Act.eval] using I.out) ?_)|(refine aA rfl 45 (.tmp 6) (.tmp 16) rfl (w.heap.size+1+1) rfl _ _ d rfl t.out.2.2.1 F.out O.out G.out ?_))
  refine aGk (v:=.tuple #[.agg d,.int .i64 12]) (aX results177 _ _ (w.heap.size+1+1) 45 d (0,0) _ _ rfl rfl (bA _ _ _ _ d t.out.2.2.1) underlying45 rfl F.out) rfl ?_;exact⟨none,0,by rw[<-J.out];rfl,LE _,by omega,.inl rfl,Row.none_ _ _ _,aO t.out.2.2.2.2 _ (by omega) _⟩
 ·have W:decide (size<24)=false:=aGm h1;have Z:decide (96<size)=true:=aGs (by omega);clear h;go_enter func177,ntmps177;go_wp2_with (first|(refine dP rfl 45 _ rfl d (by simpa[Act.eval] using I.out) ?_)|(refine aA rfl 45 (.tmp 6) (.tmp 16) rfl (w.heap.size+1+1) rfl _ _ d rfl t.out.2.2.1 F.out O.out G.out ?_))
  refine aGk (v:=.tuple #[.agg d,.int .i64 12]) (aX results177 _ _ (w.heap.size+1+1) 45 d (0,0) _ _ rfl rfl (bA _ _ _ _ d t.out.2.2.1) underlying45 rfl F.out) rfl ?_;exact⟨none,0,by rw[<-J.out];rfl,LE _,by omega,.inl rfl,Row.none_ _ _ _,aO t.out.2.2.2.2 _ (by omega) _⟩
theorem aAJ(b g:List Int)(size:Int)(w:World)(hb:b.length=16)(hr:BigB b)(hg:g.length=4):
  Calls prog 177 #[aR b,aR g,.int .i64 size] w (j8 w (JT b g size) (pF b g size)):=by
 by_cases a7:size<24\/96<size
 ·have e1:pF b g size=12:=FN a7;have e2:JT b g size=fD:=by unfold JT;rw[e1];rfl
  rw[e1,e2];exact VR b g size w a7
 have t1:decide (size<24)=false:=aGm (by omega);have t2:decide (96<size)=false:=aGm (by omega);have HP:=hid (show ∀ W:World,W.heap[w.heap.size]? = some (.cells (b.map (Value.int .i64)).toArray 43 (0,0))->Calls prog 209 #[.slice (some ⟨w.heap.size,0,none⟩) 16 16] W fun e w'=>e=.returned (.int .i64 (dF b))/\W=w' from fun W hW=>by
  have:=xN (some ⟨w.heap.size,0,none⟩) 16 b W (by omega) (fun i v hv=>⟨_,0,rfl,hlt hW,by rw[aGo _ _ _ _ _ _ hW,aGn];simpa using hv⟩) (fun x hx=>by
   obtain⟨k,hk,rfl⟩:=aHz.1 hx;have:=hr k _ (TT hk);omega)
  rw[hb]at this;exact this)
 have b6:0<=dF b/\dF b<=4611686018427387904:=xU hr (fun x hx=>hx);have HW:=hid (fun W=>zQ (dF b) W (by omega) (by omega));have HG:=hid (fun W=>GC g W hg);have HX:=hid (fun W=>aAG b W hb hr);have HS:=hid (fun W=>EM b g (8*size) true W hb hr hg);have cD:IntKind.i64.wrap (8*size)=8*size:=aGl _ (by omega);have hE:=aB2 b;have aE:=hid (show pF b g size=if (b.all qN&&iW g)=true then 0 else 5 from sL a7);have z:=hid (show JT b g size=if pF b g size=0 then (if 55<=size then fT b else (kE b g (8*size) true).1) else fD from rfl);have bF:=hid (KX (b:=b));have bE:=hid (UM (b:=b) (room:=8*size) (tones:=true) hg);generalize pF b g size=er at *
 generalize JT b g size=F at *
 have aT:=hid (show (fT b).tones=[] from rfl);generalize fT b=X at *
 generalize kE b g (8*size) true=S at *
 obtain⟨S,sn⟩:=S;generalize b.all qN=SL at *
 generalize iW g=GO at *
 have bR:(b.map (Value.int .i64)).toArray.size=16:=by simp[hb]
 have bW:(g.map (Value.int .i64)).toArray.size=4:=by simp[hg]
 unfold aR at *
 generalize (b.map (Value.int .i64)).toArray=bv at *
 generalize (g.map (Value.int .i64)).toArray=gv at *
 have bD:=hid (show (prog.info? 43).map (·.size)=some bv.size by rw[bR];exact bJ);have aN:=hid (show (prog.info? 40).map (·.size)=some gv.size by rw[bW];exact b9);obtain⟨I,aI⟩:∃ I,bS=I:=⟨_,rfl⟩;have bI:=hid (show prog.built 45 []=some I by rw[<-aI];kernel_rfl);have aU:=hid (show (prog.info? 45).map (·.size)=some I.size by rw[<-aI];exact bZ);have bH:=hid (show I.all (·.oneCell')=true by rw[<-aI,<-VO];exact l8 _ rfl);have bL:=hid (show bS.size=I.size by rw[aI]);have bK:=hid aI;clear aI;have t:=hid (yM w (.cells bv 43) (.cells gv 40) (.cells bS 45));have aQ:=hid (HP.out _ t.out.1);generalize dF b=pk at *
 generalize cG pk=wk at *
 have HE:=hid hE;clear bR bW hb hr hg hE HP b6
 by_cases a8:24<wk
 ·have t3:decide ((24:Int)<(wk:Int))=true:=aGs (by omega);have he:er=5:=by rw[aE.out,HE.out,aGm (by omega)];rfl
  have hF:F=fD:=by rw[z.out,he];rfl
  subst he hF;clear aE z a8;go_enter func177,ntmps177;go_wp2_with (first|(go_at_call 209;refine aQ.out.mono ?_;rintro e J ⟨rfl,rfl⟩)|(go_at_call 208;refine (HW.out _).mono ?_;rintro e J ⟨rfl,rfl⟩)|(refine dP rfl 45 _ rfl I (by simpa[Act.eval] using bI.out) ?_)|(refine aA rfl 45 (.tmp 6) (.tmp 26) rfl (w.heap.size+1+1) rfl _ _ I rfl t.out.2.2.1 aU.out bL.out bH.out ?_))
  refine aGk (v:=.tuple #[.agg I,.int .i64 5]) (aX results177 _ _ (w.heap.size+1+1) 45 I (0,0) _ _ rfl rfl (bA _ _ _ _ I t.out.2.2.1) underlying45 rfl aU.out) rfl ?_;exact⟨none,0,by rw[<-bK.out];rfl,LE _,by omega,.inl rfl,Row.none_ _ _ _,aO t.out.2.2.2.2 _ (by omega) _⟩
 have t3:decide ((24:Int)<(wk:Int))=false:=aGm (by omega);have b5:SL=true:=by rw[HE.out];exact aGs (by omega)
 subst b5;cases GO
 ·have he:er=5:=by rw[aE.out];rfl
  have hF:F=fD:=by rw[z.out,he];rfl
  subst he hF;clear aE z a8;go_enter func177,ntmps177;go_wp2_with (first|(go_at_call 209;refine aQ.out.mono ?_;rintro e J ⟨rfl,rfl⟩)|(go_at_call 208;refine (HW.out _).mono ?_;rintro e J ⟨rfl,rfl⟩)|(go_at_call 210;fail)|(refine aB rfl 40 (.tmp 4) rfl (w.heap.size+1) rfl _ gv _ _ t.out.2.1 underlying40 rfl aN.out ?_))
  refine (HG.out _).mono ?_;rintro e J ⟨rfl,G⟩;have U:=hid (aF t.out.2.2.1 G);have Z:=hid (lC t.out.2.2.2.2 (LE _) G);clear G;go_wp2_with (first|(refine dP rfl 45 _ rfl I (by simpa[Act.eval] using bI.out) ?_)|(refine aA rfl 45 (.tmp 6) (.tmp 26) rfl (w.heap.size+1+1) rfl _ _ I rfl U.out aU.out bL.out bH.out ?_))
  refine aGk (v:=.tuple #[.agg I,.int .i64 5]) (aX results177 _ _ (w.heap.size+1+1) 45 I (0,0) _ _ rfl rfl (bA _ _ _ _ I U.out) underlying45 rfl aU.out) rfl ?_;exact⟨none,0,by rw[<-bK.out];rfl,LE _,by omega,.inl rfl,Row.none_ _ _ _,aO Z.out _ (by omega) _⟩
 have he:er=0:=by rw[aE.out];rfl
 subst he;clear aE a8;have bU:=fun tv=>fX bF.out tv
 have bV:=fun tv=>fX bE.out tv
 have a1:=hid bU;have a2:=hid bV;have aV:=hid (fun (F:aFJ) A n c=>l8 F (tv:=.slice A n c) rfl);clear bU bV bF bE
 by_cases bP:55<=size
 ·have hF:F=X:=by rw[z.out,FN rfl,FN bP]
  subst hF;clear z;go_enter func177,ntmps177;go_wp2_with (first|(go_at_call 209;refine aQ.out.mono ?_;rintro e J ⟨rfl,rfl⟩)|(go_at_call 208;refine (HW.out _).mono ?_;rintro e J ⟨rfl,rfl⟩)|(go_at_call 210;fail)|(refine aB rfl 40 (.tmp 4) rfl (w.heap.size+1) rfl _ gv _ _ t.out.2.1 underlying40 rfl aN.out ?_))
  refine (HG.out _).mono ?_;rintro e J ⟨rfl,G⟩;have K0:=hid (aF t.out.1 G);have U:=hid (aF t.out.2.2.1 G);have Z:=hid (lC t.out.2.2.2.2 (LE _) G);have hz:=aGE (aIw t.out.2.2.2.1.symm) G.size;clear G;go_wp2_with (first|(go_at_call 211;fail)|(refine aB rfl 43 (.tmp 3) rfl w.heap.size rfl _ bv _ _ K0.out underlying43 rfl bD.out ?_))
  refine (HX.out _).mono ?_;rintro e w2 ⟨rfl,V⟩;have L2:=hid (aF U.out V);have LB:=hid (lC Z.out (LE _) V);have O:=hid (a1.out (.slice none 0 0));have aG:=hid (aV.out F none 0 0);obtain⟨d,aD⟩:∃ d,aZ F (.slice none 0 0)=d:=⟨_,rfl⟩;rw[aD]at O aG ⊢;have a0:=hid aD;have z:=hid (show (prog.info? 45).map (·.size)=some d.size by rw[O.out];exact bZ);have cA:=V.size;clear V aD K0 U Z a1 a2 aV;go_wp2_with (refine aA rfl 45 (.tmp 6) (.tmp 30) rfl (w.heap.size+1+1) rfl _ _ d rfl L2.out z.out (by rw[O.out];rfl) aG.out ?_)
  refine aGk (v:=.tuple #[.agg d,.int .i64 0]) (aX results177 _ _ (w.heap.size+1+1) 45 d (0,0) _ _ rfl rfl (bA _ _ _ _ d L2.out) underlying45 rfl z.out) rfl ?_;exact⟨none,0,by rw[<-a0.out,aT.out];rfl,by rw[aT.out];exact LE _,by omega,.inl aT.out,by rw[aT.out];exact Row.none_ _ _ _,aO LB.out _ (by omega) _⟩
 ·have hF:F=S:=by rw[z.out,FN rfl,sL bP]
  subst hF;clear z;go_enter func177,ntmps177;go_wp2_with (first|(go_at_call 209;refine aQ.out.mono ?_;rintro e J ⟨rfl,rfl⟩)|(go_at_call 208;refine (HW.out _).mono ?_;rintro e J ⟨rfl,rfl⟩)|(go_at_call 210;fail)|(refine aB rfl 40 (.tmp 4) rfl (w.heap.size+1) rfl _ gv _ _ t.out.2.1 underlying40 rfl aN.out ?_))
  refine (HG.out _).mono ?_;rintro e J ⟨rfl,G⟩;have K0:=hid (aF t.out.1 G);have K1:=hid (aF t.out.2.1 G);have U:=hid (aF t.out.2.2.1 G);have Z:=hid (lC t.out.2.2.2.2 (LE _) G);have hz:=aGE (aIw t.out.2.2.2.1.symm) G.size;clear G;go_wp2_with (first|(go_at_call 212;fail)|(refine aB rfl 43 (.tmp 3) rfl w.heap.size rfl _ bv _ _ K0.out underlying43 rfl bD.out ?_)|(refine aB rfl 40 (.tmp 4) rfl (w.heap.size+1) rfl _ gv _ _ K1.out underlying40 rfl aN.out ?_))
  refine (HS.out _).mono ?_;rintro e w2 ⟨A,c,rfl,bX,bT,a5,_,a6,V⟩;simp only at bX bT a5 a6 ⊢;have O:=hid (a2.out (.slice A F.tones.length c));have aG:=hid (aV.out F A F.tones.length c);obtain⟨d,aD⟩:∃ d,aZ F (.slice A F.tones.length c)=d:=⟨_,rfl⟩;rw[aD]at O aG ⊢;have a0:=hid aD;have z:=hid (show (prog.info? 45).map (·.size)=some d.size by rw[O.out];exact bZ);have HN:=hid (LT w2 (.cells d 45));have a4:=aC V (aP w2 (.cells d 45));have L2:=hid (aF U.out a4);have LB:=hid (lC Z.out (LE _) a4);have b3:=hid (a6.later (aP w2 (.cells d 45)));have bM:=hid a5;have cA:=V.size;clear V a4 a6 a5 aD K0 K1 U Z a1 a2 aV;go_wp2_with (first|(refine aA rfl 45 (.tmp 8) (.tmp 37) rfl w2.heap.size rfl _ _ d rfl (LT w2 _) z.out (by rw[O.out];rfl) aG.out ?_;rw[aGT])|(refine aB rfl 45 (.tmp 8) rfl w2.heap.size rfl _ d _ _ HN.out underlying45 rfl z.out ?_)|(refine aA rfl 45 (.tmp 6) (.tmp 39) rfl (w.heap.size+1+1) rfl _ _ d rfl L2.out z.out (by rw[O.out];rfl) aG.out ?_))
  refine aGk (v:=.tuple #[.agg d,.int .i64 0]) (aX results177 _ _ (w.heap.size+1+1) 45 d (0,0) _ _ rfl rfl (bA _ _ _ _ d L2.out) underlying45 rfl z.out) rfl ?_;refine⟨A,c,by rw[<-a0.out],bX,bT,?_,mH bM.out (by omega) d b3.out,aO LB.out _ (by omega) _⟩;rcases bM.out with h|⟨g,h1,h2⟩
  ·exact .inl h
  ·exact .inr ⟨g,h1,by omega⟩
end
theorem aAr{b:List Int}(hb:b.length=16)(h:b.all qN=true):Low23 b:=by
 intro k hk;obtain⟨x,d⟩:=aE (k:=k) hb hk;have h1:=aGD.1 h x (aGh d);unfold qN at h1;have h2:=qS (k:=23) (aJw h1);rw[aD d];unfold eS at h2
 repeat' split at h2
 all_goals omega
theorem Z5:dL.length=4/\∀ i,i<4->0<=bgt dL i/\bgt dL i<=3:=⟨rfl,fun i hi=>by
 match i,hi with
 | 0,_|1,_|2,_|3,_=>simp[bgt,dL]⟩
theorem RS{b:List Int}(hb:b.length=16)(h:b.all qN=true):aFQ (fT b) :=
 I0 Z5 (by simp) (fun t ht=>by simp at ht) List.Pairwise.nil ScB.zero (aAr hb h)
theorem Low23.bd{b:List Int}(h:Low23 b):BdB 2147483648 b:=fun k hk=>by have:=h k hk;omega
theorem aEB{g:List Int}(d:g.length=4)(h:iW g=true):g.length=4/\∀ i,i<4->0<=bgt g i/\bgt g i<=3:=⟨d,fun i hi=>by
 obtain⟨x,t⟩:=aE (k:=i) d hi;have:=aGD.1 h x (aGh t);unfold inB at this;rw[aD t];simpa using this⟩
theorem LK{b:List Int}(hb:b.length=16)(d:Low23 b)(tones:Bool):(cQ b tones).length<=2/\(∀ t∈cQ b tones,0<=t.idx/\t.idx<16/\-8388608<=t.val/\t.val<8388608)/\((cQ b tones).Pairwise fun x y=>x.idx<y.idx)/\Low23 (dH b (cQ b tones)):=by
 have F:BigB b:=fun k x h=>by
  have hk:k<16:=by have:=(aGi.1 h).1;omega
  have:=d k hk;rw[aD h]at this;omega
 cases tones
 ·exact⟨by simp[cQ],fun t ht=>by simp[cQ]at ht,by simp[cQ],by simpa[cQ,dH] using d⟩
 ·simp only[cQ,aHW];refine⟨XJ hb F,fun t ht=>?_,aBe b,fun i hi=>?_⟩
  ·rw[pS]at ht;obtain⟨k,hk,rfl⟩:=aGq.1 ht;have z:=DR b k hk;have:=d k z;unfold lR;simp only;omega
  ·rw[pS,ID b i _ b hb (GJ b) (DR b)];have:=d i hi;split <;> omega
theorem O0{b g:List Int}{room:Int}{tones:Bool}(hb:b.length=16)(G:b.all qN=true)(z:g.length=4)(F:iW g=true):aFQ (kE b g room tones).1:=by
 obtain⟨s,n,h,I,_⟩:=tS b g room tones;obtain⟨h1,h2,d,t⟩:=LK hb (aAr hb G) tones;rw[h];exact I0 (aEB z F) h1 h2 d I t
theorem UN{b g:List Int}{room:Int}{tones:Bool}(hb:b.length=16)(t:b.all qN=true)(F:192<=room):gH (kE b g room tones).1<=room:=by
 obtain⟨s,n,h,z,he⟩:=tS b g room tones;obtain⟨h1,_,_,d⟩:=LK hb (aAr hb t) tones;rw[h];rcases he with he|he
 ·exact he
 ·have:=aCf h1 z d he;show gH (dK b g s (cQ b tones))<=room;omega
theorem aBh{b g:List Int}{size:Int}(hb:b.length=16)(t:g.length=4)(he:pF b g size=0):aFQ (JT b g size)/\gH (JT b g size)<=8*size/\24<=size/\size<=96:=by
 have h:=he;unfold pF at he;split at he
 ·cases he
 ·split at he
  ·rename_i h1 h2
   rw[aGu]at h2;unfold JT;rw[h,FN rfl];split
   ·have hR:=RS hb h2.1;refine⟨hR,?_,by omega,by omega⟩;have d:=fun i hi=>hR.width i hi
    have z:=d 0 (by omega);have F:=d 1 (by omega);have w2:=d 2 (by omega);have G:=d 3 (by omega);have ht:(fT b).tones.length=0:=rfl;unfold gH;omega
   ·exact⟨O0 hb h2.1 t h2.2,UN hb h2.1 (by omega),by omega,by omega⟩
  ·cases he
end Go.Proofs.YtbpgfkjhclpbdaaGreatDoor
