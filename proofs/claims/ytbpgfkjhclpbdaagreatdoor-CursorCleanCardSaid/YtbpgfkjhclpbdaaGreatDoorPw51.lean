/- ParS, BackP, BackA, BackB, CurW. Conditions: as each theorem states. -/
import Derived.Test.YtbpgfkjhclpbdaaGreatDoorPw48
import Derived.Test.YtbpgfkjhclpbdaaGreatDoorPw50
set_option maxRecDepth 100000
set_option maxHeartbeats 16000000
namespace Go.Proofs.YtbpgfkjhclpbdaaGreatDoor
open Tryz
open Go.RowKit Go.Lib
noncomputable def iN(D:List aFK)(bs:List Nat)(i c b:Int)(B:List Nat):Int :=
 if bR D i c b≠0 then bR D i c b else if l6 B≠(eG D bs i c b:Nat) then 9 else if o6 B≠0 then 4 else 0
noncomputable def lX(D:List aFK)(bs:List Nat)(i c b:Int)(B:List Nat):aFJ:=if iN D bs i c b B=0 then rdF B else fD
theorem yW(B:List Nat):(rdF B).Len:=by
 unfold rdF;split
 ·rename_i h
  have:aFQ (fH B):=by
   unfold o6 at h;split at h
   ·rename_i h1;exact absurd h h1
   ·split at h
    ·assumption
    ·cases h
  exact this.len
 ·exact⟨rfl,rfl,rfl,rfl⟩
theorem AO(w W:World)(er:Int)(hb:Below w.heap.size w W):j8 w fD er (.returned (.tuple #[.agg bS,.int .i64 er])) W:=⟨none,0,rfl,LE _,by omega,.inl rfl,Row.none_ _ _ _,hb⟩
theorem QD(g size:Nat)(bs:List Nat)(D:List aFK)(i c b:Int)(B:List Nat)(A:Option Addr)(cb:Nat)(w:World)(h:aF2 w g bs size D)(hf:aGb bs size D)
 (hn:B.length<=1000000)(hb:Byt B)(hr:Row w w.heap.size A (u8s B)):
  Calls prog 15 #[.pointer (some ⟨g,0,none⟩),.int .i64 i,.int .i64 c,.int .i64 b,.slice A B.length cb] w (j8 w (lX D bs i c b B) (iN D bs i c b B)):=by
 have U:=hid (show (prog.info? 45).map (·.size)=some bS.size from bZ);have aY:=hid (show bS.all (·.oneCell')=true by simp[bS,Value.oneCell']);obtain⟨w1,aQ⟩:∃ w1,w.alloc (.cells bS 45)=w1:=⟨_,rfl⟩;have B1:=hid (show Below w.heap.size w w1 by rw[<-aQ];exact aP w _);have S1:=hid (show w1.heap[w.heap.size]? = some (.cells bS 45 (0,0)) by rw[<-aQ];exact LT w _);have HW:=hid (zP g size bs D i c b w1 (h.later B1.out) hf);unfold pM at HW;have bC:=hid (fun W (hW:Below w.heap.size w W)=>rC B A cb W (by omega) (hr.later hW));have bT:=hid (fun W (hW:Below w.heap.size w W)=>aAI B A cb W hn hb (hr.later hW));have G:=hid (show iN D bs i c b B=if bR D i c b≠0 then bR D i c b else if l6 B≠(eG D bs i c b:Nat) then 9 else if o6 B≠0 then 4 else 0 from rfl);have I:=hid (show lX D bs i c b B=if iN D bs i c b B=0 then rdF B else fD from rfl);have bP:=hid (yW B);have a9:w.alloc (.cells #[.int .i64 0,.int .i64 0,.int .i64 0,.int .i64 0,.slice none 0 0,.int .i64 0,.int .i64 0,.int .i64 0,.int .i64 0,.int .i64 0,.int .i64 0,.int .i64 0,.int .i64 0,.int .i64 0,.int .i64 0,.int .i64 0,.int .i64 0,.int .i64 0,.int .i64 0,.int .i64 0,.int .i64 0,.int .i64 0,.int .i64 0,.int .i64 0,.int .i64 0,.int .i64 0,.int .i64 0,.int .i64 0,.int .i64 0] 45)=w1:=aQ;clear aQ h hf hb hr;generalize iN D bs i c b B=OE at *
 generalize lX D bs i c b B=OF at *
 generalize bR D i c b=E at *
 generalize bL D size i c b=AT at *
 generalize eG D bs i c b=V at *
 generalize l6 B=C at *
 generalize o6 B=ER at *
 generalize rdF B=O at *
 generalize B.length=nb at *
 by_cases q1:E=0
 rotate_left
 ·have t1:(E != 0)=true:=by rw[aHk];exact q1
  have h1:OE=E:=by rw[G.out,FN q1]
  have h2:OF=fD:=by rw[I.out,h1,sL q1]
  rw[h1,h2];clear h1 h2 G I q1;go_enter func15,ntmps15;go_wp2_with (go_at_call 12;fail)
  clear a9;refine HW.out.mono ?_;rintro e w2 ⟨rfl,t⟩;have J:=hid (aF S1.out t);have F:=hid (aC B1.out t);clear t;go_wp2_with (refine aA rfl 45 (.tmp 10) (.tmp 28) rfl w.heap.size rfl _ _ bS rfl J.out U.out (by rfl) aY.out ?_)
  refine aGk (v:=.tuple #[.agg bS,.int .i64 E]) (aX results15 _ _ w.heap.size 45 bS (0,0) _ _ rfl rfl (aHK _ _ _ _ _ _ J.out) underlying45 rfl U.out) rfl ?_;exact AO w _ E (aO F.out _ (LE _) _)
 subst q1
 by_cases q2:C=(V:Int)
 rotate_left
 ·have t2:(C != (V:Int))=true:=by rw[aHk];exact q2
  have h1:OE=9:=by rw[G.out,sL (by simp),FN q2]
  have h2:OF=fD:=by rw[I.out,h1];rfl
  rw[h1,h2];clear h1 h2 G I q2;go_enter func15,ntmps15;go_wp2_with (go_at_call 12;fail)
  clear a9;refine HW.out.mono ?_;rintro e w2 ⟨rfl,t⟩;have J:=hid (aF S1.out t);have F:=hid (aC B1.out t);clear t;go_wp2_with (first|(go_at_call 68;refine (bC.out _ F.out).mono ?_;rintro e w3 ⟨rfl,rfl⟩)|(refine aA rfl 45 (.tmp 10) (.tmp 35) rfl w.heap.size rfl _ _ bS rfl J.out U.out (by rfl) aY.out ?_))
  refine aGk (v:=.tuple #[.agg bS,.int .i64 9]) (aX results15 _ _ w.heap.size 45 bS (0,0) _ _ rfl rfl (aHK _ _ _ _ _ _ J.out) underlying45 rfl U.out) rfl ?_;exact AO w _ 9 (aO F.out _ (LE _) _)
 subst q2;have t2:((V:Int) != (V:Int))=false:=by simp
 go_enter func15,ntmps15;go_wp2_with (go_at_call 12;fail)
 clear a9;refine HW.out.mono ?_;rintro e w2 ⟨rfl,t⟩;have J:=hid (aF S1.out t);have F:=hid (aC B1.out t);clear t;go_wp2_with (first|(go_at_call 68;refine (bC.out _ F.out).mono ?_;rintro e w3 ⟨rfl,rfl⟩)|(go_at_call 69;fail))
 refine (bT.out _ F.out).mono ?_;rintro e z ⟨Af,cf,rfl,bM,bH,a4,bK,a3⟩;have S4:=hid (aF J.out a3);have B4:=hid (aC F.out a3);obtain⟨p,hp⟩:∃ p:FrH × aFJ,(⟨⟨Af,cf⟩,O⟩:FrH × aFJ)=p:=⟨_,rfl⟩;have bJ:p.2=O:=by rw[<-hp]
 have a6:aZ O (.slice Af O.tones.length cf)=(frC p).toArray:=by rw[<-hp];rfl
 rw[a6];have bD:=hid a6;have a7:(frC p).length=29:=jT (by rw[bJ];exact bP.out);have bF:=hid (lH p);obtain⟨d,bI⟩:∃ d,frC p=d:=⟨_,rfl⟩;rw[bI]at bF a7 bD ⊢;have aN:d.toArray.size=29:=by rw[aGH,a7]
 have bE:=hid aN;have aG:=hid (show (prog.info? 45).map (·.size)=some d.toArray.size by rw[aN];exact bZ);have aW:=hid (show d.toArray.all (·.oneCell')=true by
  rw[aGY];intro v hv;exact bF.out v (by simpa using hv))
 have bU:=hid (show bS.size=d.toArray.size by rw[aN];rfl);have B5:=hid (aC B4.out (aP z (.cells d.toArray 45)));have S5:=hid (show (z.alloc (.cells d.toArray 45)).heap[w.heap.size]? = some (.cells bS 45 (0,0)) from (aHg _ _ (hlt S4.out)).trans S4.out);have F5:=hid (LT z (.cells d.toArray 45));have bX:=hid bM;have bV:=hid bH;have bQ:=hid (show Row ((z.alloc (.cells d.toArray 45)).setRow w.heap.size d.toArray) ((z.alloc (.cells d.toArray 45)).setRow w.heap.size d.toArray).heap.size Af (aV O.tones) from
  mH (a4.imp id fun ⟨Z,h1,h2⟩=>⟨Z,h1,h2⟩) (hlt J.out) d.toArray (bK.later (aP z _)))
 have bW:=hid (show O.tones=[]\/∃ Z,Af=some ⟨Z,0,none⟩/\w.heap.size<=Z from a4.imp id fun ⟨Z,h1,h2⟩=>⟨Z,h1,by have:=F.out.size;omega⟩);clear bM bH a4 bK a3 hp bJ a6 a7 bI aN
 by_cases q3:ER=0
 rotate_left
 ·have t3:(ER != 0)=true:=by rw[aHk];exact q3
  have h1:OE=4:=by rw[G.out,sL (by simp),sL (by simp),FN q3]
  have h2:OF=fD:=by rw[I.out,h1];rfl
  have H1:=hid h1;have H2:=hid h2;clear h1 h2 G I q3;go_wp2_with (first|(refine aA rfl 45 (.tmp 15) (.tmp 39) rfl z.heap.size rfl _ _ d.toArray rfl (LT z _) aG.out (by rw[bE.out];rfl) aW.out ?_;rw[aGT])|(refine aA rfl 45 (.tmp 10) (.tmp 43) rfl w.heap.size rfl _ _ bS rfl S5.out U.out (by rfl) aY.out ?_))
  refine aGk (v:=.tuple #[.agg bS,.int .i64 4]) (aX results15 _ _ w.heap.size 45 bS (0,0) _ _ rfl rfl (aHK _ _ _ _ _ _ S5.out) underlying45 rfl U.out) rfl ?_;rw[H1.out,H2.out];exact AO w _ 4 (aO B5.out _ (LE _) _)
 ·subst q3;have h1:OE=0:=by rw[G.out,sL (by simp),sL (by simp),sL (by simp)]
  have h2:OF=O:=by rw[I.out,h1,FN rfl]
  have H1:=hid h1;have H2:=hid h2;clear h1 h2 G I;go_wp2_with (first|(refine aA rfl 45 (.tmp 15) (.tmp 39) rfl z.heap.size rfl _ _ d.toArray rfl (LT z _) aG.out (by rw[bE.out];rfl) aW.out ?_;rw[aGT])|(refine aB rfl 45 (.tmp 15) rfl z.heap.size rfl _ d.toArray _ _ F5.out underlying45 rfl aG.out ?_)|(refine aA rfl 45 (.tmp 10) (.tmp 44) rfl w.heap.size rfl _ _ d.toArray rfl S5.out aG.out bU.out aW.out ?_))
  refine aGk (v:=.tuple #[.agg d.toArray,.int .i64 0]) (aX results15 _ _ w.heap.size 45 d.toArray (0,0) _ _ rfl rfl (aHK _ _ _ _ _ _ S5.out) underlying45 rfl aG.out) rfl ?_;rw[H1.out,H2.out];exact⟨Af,cf,by rw[bD.out],bX.out,bV.out,bW.out,bQ.out,aO B5.out _ (LE _) _⟩
section
section
variable {size : Nat} {SS : List aFM}
theorem oE{m:Nat}{s:aFM}(d:SS[m]? = some s):fF (aG size SS) m=plc size (SS.map aN) m (aN s)/\i8 (aG size SS) m=0:=by
 have hm:=(aGi.1 d).1;have hi:¬ ((m:Int)<0\/((aG size SS).length:Int)<=(m:Int)):=by rw[dJ];omega
 constructor
 ·unfold fF;rw[sL hi,Int.toNat_natCast,aGz,fZ d]
  rfl
 ·unfold i8;rw[sL hi]
theorem wU{m:Nat}{s:aFM}(d:SS[m]? = some s){c b:Int}:bR (aG size SS) m c b=if c<0\/(s.rows.length:Int)<=c\/b<0\/(aS (dD s.rows):Int)<=b then 5 else 0:=by
 obtain⟨h1,h2⟩:=oE (size:=size) d;unfold bR;rw[h1,h2,sL (by simp)];show (if c<0\/(s.rows.length:Int)<=c\/b<0\/dZ (dD s.rows:Int)<=b then (5:Int) else 0)=_;rw[FE]
theorem CO{i c b:Int}(hi:i<0\/(SS.length:Int)<=i):bR (aG size SS) i c b=7/\i8 (aG size SS) i=7:=by
 have e:i8 (aG size SS) i=7:=by
  unfold i8;rw[dJ,FN hi]
 refine⟨?_,e⟩;unfold bR;rw[e,FN (by decide)]
theorem aFY.opened(h:aFY size SS){m k q:Nat}{s:aFM}{d:List Int}{x:aFJ}(J:SS[m]? = some s)(I:s.rows[k]? = some d)(O:(bK d size)[q]? = some x):
  bR (aG size SS) m k q=0/\cC (bC size SS) (bL (aG size SS) size m k q).toNat size=aM x size/\iN (aG size SS) (bC size SS) m k q (aM x size)=0/\lX (aG size SS) (bC size SS) m k q (aM x size)=x:=by
 have hk:=(aGi.1 I).1;have hq:=(aGi.1 O).1;have W:=h.fine s (aGh J);have V:=aGh I;rw[eU,W.same d V]at hq;have G:bR (aG size SS) m k q=0:=by rw[wU J,sL (by omega)]
 obtain⟨m',s',d',x',U,t,z,F,e5,e6⟩:=h.asked G;have U:m=m':=by omega
 subst U;rw[J]at t;injection t with t
 subst t;rw[Int.toNat_natCast,I]at z;injection z with z
 subst z;rw[Int.toNat_natCast,O]at F;injection F with F
 subst F;have hR:=dO (W.good.2 d V).2 (size:=(size:Int)) (by have:=h.lo;omega) (by have:=h.hi;omega) x (aGh O);obtain⟨r1,r2⟩:=YY hR.1 (size:=size) hR.2;obtain⟨r3,r4⟩:=aFB r2 (by rw[r1];exact hR.1);have Z:iN (aG size SS) (bC size SS) m k q (aM x size)=0:=by
  unfold iN;rw[G,sL (by simp),sL (by rw[e6];simp),r3,sL (by simp)]
 refine⟨G,e5,Z,?_⟩;unfold lX;rw[FN Z,r4,r1]
end
end
section
section
variable {size : Nat} {SS : List aFM}
theorem aFY.ch_bd(h:aFY size SS){m:Nat}{s:aFM}(G:SS[m]? = some s):1<=s.rows.length/\s.rows.length<=2/\1<=dD s.rows/\dD s.rows<=1048576:=by
 obtain⟨⟨d,t⟩,_,⟨z,F⟩,_,_⟩:=qK (h.right s (aGh G));have d:(1:Int)<=(dD s.rows:Nat):=d;have t:((dD s.rows:Nat):Int)<=1048576:=t;have z:(1:Int)<=(s.rows.length:Nat):=z;have F:((s.rows.length:Nat):Int)<=2:=F;omega
theorem SI(h:aFY size SS){m:Nat}{s:aFM}(O:SS[m]? = some s){q k:Nat}(J:q<aS (dD s.rows))(hk:k<s.rows.length):∃ d x,s.rows[k]? = some d/\(bK d size)[q]? = some x/\(aM x size).length=size/\x.Len /\
  (∀ g W,aF2 W g (bC size SS) size (aG size SS)->Calls prog 82 #[.pointer (some ⟨g,0,none⟩),.int .i64 m,.int .i64 k,.int .i64 q] W fun e w'=>∃ A F,e=.returned (.tuple #[.slice A size F,.int .i64 0])/\Row w' w'.heap.size A (u8s (aM x size))/\Below W.heap.size W w') /\
  (∀ g W A G,aF2 W g (bC size SS) size (aG size SS)->Row W W.heap.size A (u8s (aM x size))->Calls prog 15 #[.pointer (some ⟨g,0,none⟩),.int .i64 m,.int .i64 k,.int .i64 q,.slice A size G] W (j8 W x 0)):=by
 obtain⟨d,t⟩:∃ d,s.rows[k]? = some d:=⟨_,TT hk⟩;have aL:=(h.fine s (aGh O)).same d (aGh t);obtain⟨x,U⟩:∃ x,(bK d size)[q]? = some x:=⟨_,TT (by rw[eU,aL];exact J)⟩;obtain⟨hE,aB,aI,aJ⟩:=h.opened O t U;have aH:=h.fine s (aGh O);have hR:=dO (aH.good.2 d (aGh t)).2 (size:=(size:Int)) (by have:=h.lo;omega) (by have:=h.hi;omega) x (aGh U);have Z:(aM x size).length=size:=eA hR.1 hR.2;have aF:Byt (aM x size):=by
  rw[<-aB];intro y hy;unfold cC at hy;obtain⟨j,_,rfl⟩:=aGq.1 hy;rw[aGz];cases J:(bC size SS)[(bL (aG size SS) size m k q).toNat+j]? with
  | none=>show (0:Nat)<256;omega
  | some z=>exact h.fit.byt z (aGh J)
 refine⟨d,x,t,U,Z,hR.1.len,fun g W I=>?_,fun g W A G I hr=>?_⟩
 ·refine (J4 g size (bC size SS) (aG size SS) m k q W I h.fit).mono ?_;rintro e w' ⟨hb,⟨h4,_⟩|⟨_,A,F,he,_,_,_,aA⟩⟩
  ·exact absurd hE h4
  ·rw[aB]at aA;exact⟨A,F,he,aA,hb⟩
 ·have V:=QD g size (bC size SS) (aG size SS) m k q (aM x size) A G W I h.fit (by have:=h.hi;omega) aF hr;rw[aI,aJ,Z]at V;exact V
end
end
def aCI(W:World)(xs:List Int)(e:Ending)(w':World):Prop:=∃ A c,e=.returned (.tuple #[.slice A xs.length c,.int .i64 0])/\xs.length<=c/\c<=9223372036854775807/\w'.ownsRow W.heap.size 3 1 (.slice A xs.length c) xs.length (xs.map (.int .i64))/\Below W.heap.size W w'
theorem V9{size:Nat}{SS:List aFM}(h:aFY size SS)(g:Nat){m k:Nat}{s:aFM}{d:List Int}(hs:SS[m]? = some s)(hd:s.rows[k]? = some d)(w:World)(hB:aF2 w g (bC size SS) size (aG size SS)):
  Calls prog 31 #[.pointer (some ⟨g,0,none⟩),.int .i64 m,.int .i64 k] w (aCI w (lO (bK d size) (dD s.rows:Nat))):=by
 obtain⟨i0,hi,⟨z0,dF,eP⟩,cX,eJ⟩:=tE;obtain⟨e1,e2⟩:=oE (size:=size) hs;obtain⟨c1,c2,c3,c4⟩:=h.ch_bd hs;have hk:=(aGi.1 hd).1;have eY:m<64:=by have:=h.many;have:=(aGi.1 hs).1;omega
 have eX:=h.lo;have eW:=h.hi;have c9:=(h.fine s (aGh hs)).same d (aGh hd);have cT:=h.fine s (aGh hs);have cK:=dO (cT.good.2 d (aGh hd)).2 (size:=(size:Int)) (by omega) (by omega);have aT:=hid (show Calls prog 36 #[.pointer (some ⟨g,0,none⟩),.int .i64 m] w (fun e w'=>e=.returned (.tuple #[.agg (plc size (SS.map aN) m (aN s)).cells.toArray,.int .i64 0])/\Below w.heap.size w w') from by
  have hh:=pI g size (bC size SS) (aG size SS) m w hB (by omega) (by rw[dJ];have:=h.many;omega)
  rwa [e1,e2]at hh)
 have G:(bK d size).length=aS (dD s.rows):=by rw[eU,c9]
 have a6:=hid (fun (q:Nat) x (U:(bK d size)[q]? = some x)=>(show x.Len/\(aM x size).length=size/\
   (∀ g W,aF2 W g (bC size SS) size (aG size SS)->Calls prog 82 #[.pointer (some ⟨g,0,none⟩),.int .i64 m,.int .i64 k,.int .i64 q] W fun e w'=>∃ A c',e=.returned (.tuple #[.slice A size c',.int .i64 0])/\Row w' w'.heap.size A (u8s (aM x size))/\Below W.heap.size W w') /\
   (∀ g W A cb,aF2 W g (bC size SS) size (aG size SS)->Row W W.heap.size A (u8s (aM x size))->Calls prog 15 #[.pointer (some ⟨g,0,none⟩),.int .i64 m,.int .i64 k,.int .i64 q,.slice A size cb] W (j8 W x 0)) from by
  have F:=(aGi.1 U).1;rw[G]at F;obtain⟨d',x',h1,h2,h3,h4,h5,h6⟩:=SI h hs F hk;rw[hd]at h1;injection h1 with h1
  subst h1;rw[U]at h2;injection h2 with h2
  subst h2;exact⟨h4,h3,h5,h6⟩))
 have HB:=hid hB;have bV:=hid (fun W=>oS (size:Int) W (by omega) (by omega));have a7:=hid (fun W=>pK (dD s.rows) W (by omega));have cQ:aS (dD s.rows)<=65537:=by unfold aS;omega
 have bA:=hid (fun gc L A cap W (hg:CoderAt W gc (size:Int)) (hL:List.map Prod.snd L=bK d size) (hA:aF0 W A L)=>QF gc size L A cap (dD s.rows:Nat) W hg (by have:=aGp List.length hL;rw[aF7,G]at this;omega) hA (fun p O=>(cK p.2 (by rw[<-hL];exact aGq.2 ⟨p,O,rfl⟩)).1));unfold Z8 at bA;have dU:=hid (fun (q:Nat) x (U:(bK d size)[q]? = some x)=>(show (bK d size).take (q+1)=(bK d size).take q++[x] from by rw[aJp,U];rfl));have bB:=hid (show (bK d size).take (aS (dD s.rows))=bK d size from aGW (by omega));have dS:=hid (fun W (hW:Below w.heap.size w W)=>(show W.cell? ⟨g,1,none⟩=some (.int .i64 size) from by
  obtain⟨Ai,ci,Ad,cd,h1,_⟩:=(hB.later hW).at_;exact (aGo _ _ _ _ _ _ h1).trans rfl))
 generalize eD:bK d size=FS at *
 obtain⟨len,bJ⟩:∃ len,dD s.rows=len:=⟨_,rfl⟩;obtain⟨cz,cS⟩:∃ cz,aS len=cz:=⟨_,rfl⟩;rw[bJ]at a7 bA bB c3 c4 cQ G ⊢;rw[cS]at a7 bB cQ G;obtain⟨pm,bM⟩:∃ pm,plc size (SS.map aN) m (aN s)=pm:=⟨_,rfl⟩;have c6:pm.length=((len:Nat):Int):=by rw[<-bM,<-bJ];rfl
 obtain⟨nm,ml,rate,ch,lp,f,t,s0,f0⟩:=pm;simp only at c6;subst c6;rw[bM]at aT;simp only[aFK.cells]at aT;have dY:=hid G;have eR:=hid (show (prog.info? 101).map (·.size)=some 9 by kernel_rfl);clear hB h hs hd hk c9 cT cK e1 e2 bM bJ cS G c1 c2 eD;generalize cL:lO FS (len:Nat)=XS at *
 have dW:=hid cL;clear cL;go_enter func31,ntmps31;go_wp2_with (go_at_call 36;fail)
 refine aT.out.mono ?_;rintro e w1 ⟨rfl,cM⟩;obtain⟨w2,bN⟩:∃ w2,w1.alloc (.cells #[.string nm,.int .i64 len,.int .i64 rate,.int .i64 ch,.bool lp,.int .i64 f,.int .i64 t,.int .i64 s0,.int .i64 f0] 101)=w2:=⟨_,rfl⟩;have B2:=hid (show Below w.heap.size w w2 by rw[<-bN];exact aC cM (aP w1 _));have X2:=hid (show Blk w2 w1.heap.size 101 [.string nm,.int .i64 len,.int .i64 rate,.int .i64 ch,.bool lp,.int .i64 f,.int .i64 t,.int .i64 s0,.int .i64 f0] by rw[<-bN];exact Blk.new w1 _ _);have g1:=dS.out w2 B2.out;clear cM aT;go_wp2_with (go_at_call 81;fail)
 refine (bV.out _).mono ?_;rintro e w3 ⟨gc,rfl,eI,cR,bH⟩;have B3:=hid (aC B2.out bH);have X3:=hid (X2.out.below bH X2.out.lt);have dQ:=hid cR;have x1:w3.cell? ⟨w1.heap.size,1,none⟩=some (.int .i64 len):=X3.out.cell 1;clear bH cR eI bN bV g1 X2;go_wp2_with (go_at_call 61;refine (a7.out _).mono ?_;rintro e w' ⟨rfl,rfl⟩)
 go_loopw [12,37] (fun o i wr=>∃ (n:Nat) (M:List (FrH × aFJ)) (J:Option Addr) (cc:Nat),n<=cz/\i=.int .i64 n/\M.length=n/\o=.slice J n cc/\wr.ownsRow w3.heap.size 45 29 (.slice J n cc) n (iA M) /\
   (∀ p∈M,p.2.Len)/\(∀ p∈M,FrStands wr (Value.slice J n cc).ownBlock p)/\M.map Prod.snd=FS.take n/\Below w3.heap.size w3 wr) (fun _ i _=>cz-(intOf i).toNat)
 case atStart=>exact⟨0,[],none,0,by omega,rfl,rfl,rfl,aHc _ _ _ _,nofun,nofun,rfl,aGj _ _⟩
 case round =>
  obtain⟨n,M,J,cc,hn,rfl,hM,rfl,bL,cY,dA,cZ,cO⟩:=hrel;have HM:=hid hM;have bD:=hid bL;have b5:=hid cY;have cA:=hid dA;have b7:=hid cZ;have aJ:=hid cO;have d0:=hid (bO bL);clear hM bL cY dA cZ cO;obtain⟨Z,rfl⟩:∃ Z,Z=wr:=⟨_,rfl⟩
  by_cases eK:n<cz
  ·have u0:(n:Int)<(cz:Int):=by omega
   obtain⟨x,U⟩:∃ x,FS[n]? = some x:=⟨_,TT (by rw[dY.out];exact eK)⟩;obtain⟨dE,eG,cH,cJ⟩:=a6.out n x U;have dV:=hid (dU.out n x U);have bT:=hid (HB.out.later (aC B3.out aJ.out));have bU:=hid (cH g Z bT.out);have a8:=hid (fun W A cb (hW:Below Z.heap.size Z W) hr=>cJ g W A cb (bT.out.later hW) hr);unfold j8 at a8;have HL:=hid dE;generalize aM x size=FB at *
   clear U dE eG cH cJ a6;go_wp2_with (go_at_call 82;fail)
   refine bU.out.mono ?_;rintro e w5 ⟨Ab,cb,rfl,c8,aK⟩;have E5:=hid aK;have b1:=hid (a8.out w5 Ab cb aK c8);clear c8 aK bU a8;go_wp2_with (go_at_call 15;fail)
   refine b1.out.mono ?_;rintro e I ⟨Af,cf,rfl,dC,cP,cV,c7,cN⟩;obtain⟨p,O⟩:∃ p:FrH × aFJ,(⟨⟨Af,cf⟩,x⟩:FrH × aFJ)=p:=⟨_,rfl⟩;have a0:p.2=x:=by rw[<-O]
   have c0:aZ x (.slice Af x.tones.length cf)=(frC p).toArray:=by rw[<-O];rfl
   rw[c0];have b6:=wT bD.out;have a1:(frC p).length=29:=jT (by rw[a0];exact HL.out);have aX:=aC E5.out cN;have HP:=hid (show FrStands I (Value.slice J n cc).ownBlock p from by
    rw[<-O];exact xF dC cP c7 cV (fun k hk=>aGM (b6 k hk) E5.out.size))
   have dT:=hid (show p.2.Len by rw[a0];exact HL.out);have d1:=hid a0;have cB:=hid (fun q F=>(cA.out q F).below aX);have b8:=hid (cU bD.out aX);have E6:=hid (aC aJ.out aX);have bE:=hid (lH p);obtain⟨z,G⟩:∃ z,frC p=z:=⟨_,rfl⟩;have dZ:=hid G;rw[G]at bE a1 ⊢;have d2:=hid a1;have bI:z.toArray.size=29:=by rw[aGH,a1]
   have b4:=hid bI;have bW:=hid (show (prog.info? 45).map (·.size)=some z.toArray.size by rw[bI];exact bZ);have dX:=hid (show z.toArray.all (·.oneCell')=true by
    rw[aGY];intro v hv;exact bE.out v (by simpa using hv))
   clear dC cP cV c7 cN O a0 c0 a1 G bI b6 aX b1;have b0:=hid (LT I (.cells z.toArray 45));have b9:=hid (b8.out.alloc (.cells z.toArray 45));have cC:=hid (fun q F=>(cB.out q F).below (aP I (.cells z.toArray 45)));have b3:=hid (HP.out.below (aP I (.cells z.toArray 45)));have EV:=hid (aC E6.out (aP I (.cells z.toArray 45)));obtain⟨V,hV⟩:∃ V,I.alloc (.cells z.toArray 45)=V:=⟨_,rfl⟩;clear b8 cB HP E6;rw[hV]at b0 b9 cC b3 EV;have e3:=EV.out.size;have e0:n+1<=65537:=by omega
   go_wp2_with (first|(refine aA rfl 45 (.tmp 16) (.tmp 58) rfl I.heap.size rfl _ _ z.toArray rfl (LT I _) bW.out (by rw[b4.out];rfl) dX.out ?_;rw[aGT];rw[hV])|(refine aB rfl 45 (.tmp 16) rfl I.heap.size rfl _ z.toArray _ _ b0.out underlying45 rfl bW.out ?_)|(refine gT rfl 175 45 (.tmp 64) rfl i0 z0 29 underlying175 hi dF cX (by omega) (by omega) z.toArray rfl b4.out ?_)|(at_builtin;refine cF _ rfl (.tmp 63) (.tmp 65) 175 rfl w3.heap.size 45 i0 z0 29 248 underlying175 hi dF cX eJ eP (by omega) _ n (iA M) rfl (b9.out.alloc _) (V.heap.size+1) (some ⟨V.heap.size,0,none⟩) 1 1 z rfl (by rw[d2.out]) (Row.new V _ z) bE.out (by omega) (by omega) (by simp;omega) ?_;intro A2 c2 w7 eM cW eE eV))
   go_roundw
   case rel =>
    have eF:Below w3.heap.size w3 w7:=(EV.out.alloc (by omega) _).grown cW (by simp;omega) (fun g h=>d0.out g h);have dB:∀ q,FrStands V (Value.slice J n cc).ownBlock q->FrStands w7 (Value.slice A2 (n+1) c2).ownBlock q:=fun q F=>(F.below (aP V _)).grown cW eE
    refine⟨n+1,M++[p],A2,c2,by omega,by go_num,by simp[HM.out],rfl,?_,?_,?_,?_,eF⟩
    ·rw[yH,dZ.out];exact eM
    ·intro q F;rcases aGJ.1 F with h|h
     ·exact b5.out q h
     ·rw[aGx]at h;rw[h];exact dT.out
    ·intro q F;rcases aGJ.1 F with h|h
     ·exact dB q (cC.out q h)
     ·rw[aGx]at h;rw[h];exact dB p b3.out
    ·rw[aG2,b7.out,dV.out];simp only[aHF,aIH,d1.out]
   case measure=>first|(simp[intOf];done)|(simp[intOf];omega)
  ·have eL:n=cz:=by omega
   subst eL;have u0:¬ ((n:Int)<(n:Int)):=by omega
   have aY:=b7.out;rw[bB.out]at aY;have dR:=hid (show aF0 Z J M from ⟨Row.of_own bD.out,b5.out,fun p O=>(cA.out p O).1⟩);have a9:=hid (bA.out gc M J cc Z (aF dQ.out aJ.out) aY dR.out);rw[aY,dW.out,HM.out]at a9;have xa:Z.cell? ⟨w1.heap.size,1,none⟩=some (.int .i64 len):=(X3.out.below aJ.out X3.out.lt).cell 1;clear aY a6;go_wp2_with (go_at_call 83;fail)
   refine a9.out.mono ?_;rintro e w5 ⟨A5,c5,rfl,h1,h2,h3,aK⟩;have R5:=hid (IF h3 (aC B3.out aJ.out).size);have E5:=hid (aC (aC B3.out aJ.out) aK);clear h3 aK a9;go_wp2;refine aGk (aGN results31 _ _ _) rfl ?_;exact⟨A5,c5,rfl,h1,h2,R5.out,E5.out⟩
theorem aAS{size:Nat}{SS:List aFM}(h:aFY size SS)(g:Nat)(i c:Int)(hi:i<0\/(SS.length:Int)<=i)(w:World)(t:aF2 w g (bC size SS) size (aG size SS)):
  Calls prog 31 #[.pointer (some ⟨g,0,none⟩),.int .i64 i,.int .i64 c] w fun e w'=>e=.returned (.tuple #[.slice none 0 0,.int .i64 7])/\Below w.heap.size w w':=by
 have d:=hid (pI g size (bC size SS) (aG size SS) i w t (by have:=h.lo;omega) (by rw[dJ];have:=h.many;omega));rw[(CO (size:=size) (SS:=SS) (c:=0) (b:=0) hi).2,show fF (aG size SS) i=MU by unfold fF;rw[dJ,FN hi]]at d;simp only[aFK.cells,MU]at d;clear t h hi;go_enter func31,ntmps31;go_wp2_with (go_at_call 36;fail)
 refine d.out.mono ?_;rintro e F ⟨rfl,z⟩;go_wp2;refine aGk (aGN results31 _ _ _) rfl ?_;exact⟨rfl,aC z (aP F _)⟩
theorem V8{size:Nat}{SS:List aFM}(h:aFY size SS)(g:Nat){m:Nat}{s:aFM}(d:SS[m]? = some s)(c:Int)(hc:c<0\/(s.rows.length:Int)<=c)(w:World)(G:aF2 w g (bC size SS) size (aG size SS))(hf:aGb (bC size SS) size (aG size SS)):
  Calls prog 31 #[.pointer (some ⟨g,0,none⟩),.int .i64 m,.int .i64 c] w fun e w'=>e=.returned (.tuple #[.slice none 0 0,.int .i64 5])/\Below w.heap.size w w':=by
 obtain⟨e1,e2⟩:=oE (size:=size) d;obtain⟨c1,c2,c3,c4⟩:=h.ch_bd d;have a8:=h.lo;have a7:=h.hi;have F:=hid (show Calls prog 36 #[.pointer (some ⟨g,0,none⟩),.int .i64 m] w (fun e w'=>e=.returned (.tuple #[.agg (plc size (SS.map aN) m (aN s)).cells.toArray,.int .i64 0])/\Below w.heap.size w w') from by
  have hh:=pI g size (bC size SS) (aG size SS) m w G (by omega) (by rw[dJ];have:=h.many;omega)
  rwa [e1,e2]at hh)
 have aH:=hid (fun W=>oS (size:Int) W (by omega) (by omega));have J:=hid (fun W=>pK (dD s.rows) W (by omega));have aM:1<=aS (dD s.rows):=by unfold aS;omega
 have aF:=hid (fun W (hW:Below w.heap.size w W)=>(show Calls prog 82 #[.pointer (some ⟨g,0,none⟩),.int .i64 m,.int .i64 c,.int .i64 0] W fun e w'=>e=.returned (.tuple #[.slice none 0 0,.int .i64 5])/\Below W.heap.size W w' from
  (J4 g size (bC size SS) (aG size SS) m c 0 W (G.later hW) hf).mono (by
   rintro e w' ⟨hb,⟨_,he⟩|⟨h0,_⟩⟩
   ·rw[wU d,FN (by omega)]at he;exact⟨he,hb⟩
   ·rw[wU d,FN (by omega)]at h0;omega)))
 have aI:=hid (fun W (hW:Below w.heap.size w W)=>(show W.cell? ⟨g,1,none⟩=some (.int .i64 size) from by
  obtain⟨Ai,ci,Ad,cd,h1,_⟩:=(G.later hW).at_;exact (aGo _ _ _ _ _ _ h1).trans rfl))
 obtain⟨len,Z⟩:∃ len,dD s.rows=len:=⟨_,rfl⟩;obtain⟨U,aO⟩:∃ U,aS len=U:=⟨_,rfl⟩;rw[Z]at J c3 c4 aM;rw[aO]at J aM;obtain⟨I,aA⟩:∃ I,plc size (SS.map aN) m (aN s)=I:=⟨_,rfl⟩;have aQ:I.length=((len:Nat):Int):=by rw[<-aA,<-Z];rfl
 obtain⟨nm,ml,rate,ch,lp,f,t,s0,f0⟩:=I;simp only at aQ;subst aQ;rw[aA]at F;simp only[aFK.cells]at F;have a6:=hid (show (prog.info? 101).map (·.size)=some 9 by kernel_rfl);clear G h d hc hf e1 e2 aA Z aO c1 c2;go_enter func31,ntmps31;go_wp2_with (go_at_call 36;fail)
 refine F.out.mono ?_;rintro e z ⟨rfl,aL⟩;obtain⟨w2,aB⟩:∃ w2,z.alloc (.cells #[.string nm,.int .i64 len,.int .i64 rate,.int .i64 ch,.bool lp,.int .i64 f,.int .i64 t,.int .i64 s0,.int .i64 f0] 101)=w2:=⟨_,rfl⟩;have B2:=hid (show Below w.heap.size w w2 by rw[<-aB];exact aC aL (aP z _));have O:=hid (show Blk w2 z.heap.size 101 [.string nm,.int .i64 len,.int .i64 rate,.int .i64 ch,.bool lp,.int .i64 f,.int .i64 t,.int .i64 s0,.int .i64 f0] by rw[<-aB];exact Blk.new z _ _);have g1:=aI.out w2 B2.out;clear aL F;go_wp2_with (go_at_call 81;fail)
 refine (aH.out _).mono ?_;rintro e w3 ⟨gc,rfl,a5,a4,V⟩;have B3:=hid (aC B2.out V);have X3:=hid (O.out.below V O.out.lt);have x1:w3.cell? ⟨z.heap.size,1,none⟩=some (.int .i64 len):=X3.out.cell 1;have aU:=hid (aF.out w3 B3.out);have u0:(0:Int)<(U:Int):=by omega
 clear V a4 a5 aB aH g1 O aF aI;go_wp2_with (go_at_call 61;refine (J.out _).mono ?_;rintro e w' ⟨rfl,rfl⟩)
 refine aHD 1 ?_;rw[rounds_succ];go_wp2_with (go_at_call 82;fail)
 refine aU.out.mono ?_;rintro e w5 ⟨rfl,a2⟩;go_wp2;refine aGk (aGN results31 _ _ _) rfl ?_;exact⟨rfl,aC B3.out a2⟩
end Go.Proofs.YtbpgfkjhclpbdaaGreatDoor
