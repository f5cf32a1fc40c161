/- ParD, CurA, CurP. Conditions: as each theorem states. -/
import Derived.Test.YtbpgfkjhclpbdaaGreatDoorPw44
import Derived.Test.YtbpgfkjhclpbdaaGreatDoorPw45
set_option maxRecDepth 100000
set_option maxHeartbeats 4000000
namespace Go.Proofs.YtbpgfkjhclpbdaaGreatDoor
open Tryz
open Go.RowKit Go.Lib
theorem UW{P:Program}{ops:Array Oper}{o:Oper}{a:Act}{w:World}{K:Act->World->Prop}{Q:Exit->Act->World->Prop}{E:Prop}
 (hg:o.guard=none)(s x:Operand)(t:TypeId)(aC:o.op=Op.call { callee:=Callee.builtin Builtin.append,args:=#[s,x],argTypes:=#[t,t] })
 (base:Nat)(e:TypeId)(i:TypeInfo)(z:Value)(size bytes:Nat)(ht:P.underlying t=some (.slice e))(hi:P.info? e=some i)(hz:i.zero=some z)
 (aH:i.size=size)(W:i.bytes=bytes)(aM:z.cells.size=size)(aI:0<size)
 (v:Value)(n:Nat)(xs:List Value)(hs:a.eval s=v)(aD:w.ownsRow base e size v n xs)
 (B:Nat)(A:Option Addr)(m c:Nat)(F:List Value)(hx:a.eval x=.slice A m c)(hl:F.length=m*size)(hr:Row w B A F)(h1:∀ u∈F,u.oneCell'=true)
 (O:n+m<=9223372036854775807)(Z:(n+m)*bytes<=140737488355328)(V:base<=w.heap.size)
 (U:∀ h d w',w'.ownsRow base e size (.slice h (n+m) d) (n+m) (xs++F)->w.grownBy w' v.ownBlock ->
   ((Value.slice h (n+m) d).ownBlock=v.ownBlock\/(Value.slice h (n+m) d).ownBlock=some w.heap.size)->n+m<=d->K (a.put o.dst (.slice h (n+m) d)) w'):
  if Region.wanted o (yielded ops a.tmps)=true then Oper.wp P o a w K Q else E:=by
 have hw:Region.wanted o (yielded ops a.tmps)=true:=by simp[Region.wanted,hg]
 rw[FN hw];obtain⟨h,d,w',aF,h2,G,I,J⟩:=OS (P:=P) w base t o.type e i z size bytes ht hi hz aH W aM aI v n xs aD B A m c F hl hr h1 O Z V;unfold Oper.wp;simp[execOp,aC,resolve,invoke,builtin,hs,hx,aF,Result.andThen];exact U _ _ _ h2 G I J
structure aF2(w:World)(g:Nat)(bs:List Nat)(size:Nat)(D:List aFK):Prop where
 at_:∃ Ai ci Ad cd,w.heap[g]? = some (.cells #[.slice Ai bs.length ci,.int .i64 size,.slice Ad D.length cd] 146 (0,0))/\Row w w.heap.size Ai (u8s bs)/\Row w w.heap.size Ad (bB D)/\bs.length<=ci/\ci<=9223372036854775807/\D.length<=cd/\cd<=9223372036854775807/\(Ai=none->ci=0)/\(Ad=none->cd=0)
theorem aF2.later{w w':World}{g:Nat}{bs:List Nat}{size:Nat}{D:List aFK}(h:aF2 w g bs size D)(hb:Below w.heap.size w w'):aF2 w' g bs size D:=by
 obtain⟨Ai,ci,Ad,cd,h1,h2,d,t,z,F,G,I,J⟩:=h.at_;exact⟨Ai,ci,Ad,cd,aF h1 hb,h2.later hb,d.later hb,t,z,F,G,I,J⟩
def J7(w:World)(bs:List Nat)(e:Ending)(w':World):Prop :=
 (fB bs≠0/\e=.returned (.tuple #[.pointer none,.int .i64 (fB bs)])/\Below w.heap.size w w') \/
 (fB bs=0/\∃ g,e=.returned (.tuple #[.pointer (some ⟨g,0,none⟩),.int .i64 0])/\w.heap.size<=g/\aF2 w' g bs (lP bs) (eT bs (iV bs))/\Below w.heap.size w w')
def kR(at_:Nat):Nat:=if at_ % 16<8 then at_ / 16-1 else at_ / 16
def nI(at_ n:Nat):Nat:=if at_ % 16<8 then at_ / 16 else min (at_ / 16+1) (n-1)
theorem S8(at_ n:Nat)(w:World)(h:at_<16*n)(hn:n<=1000000):Calls prog 74 #[.int .i64 at_,.int .i64 n] w fun e w'=>e=.returned (.tuple #[.int .i64 (kR at_:Nat),.int .i64 (nI at_ n:Nat)])/\w=w':=by
 have d:=hid (show kR at_=if at_ % 16<8 then at_ / 16-1 else at_ / 16 from rfl);have t:=hid (show nI at_ n=if at_ % 16<8 then at_ / 16 else min (at_ / 16+1) (n-1) from rfl);generalize kR at_=O at *
 generalize nI at_ n=U at *
 obtain⟨q,G⟩:∃ q,at_ / 16=q:=⟨_,rfl⟩;obtain⟨r,I⟩:∃ r,at_ % 16=r:=⟨_,rfl⟩;rw[G,I]at d t;have t1:¬ (at_:Int)<0:=by omega
 have w1:IntKind.i64.wrap (16*(n:Int))=16*(n:Int):=aGl _ (by omega);have t2:¬ 16*(n:Int)<=(at_:Int):=by omega
 have aB:(at_:Int).tdiv 16=(q:Int):=by rw[<-G];rfl
 have aC:(at_:Int).tmod 16=(r:Int):=by rw[<-I];rfl
 have w2:IntKind.i64.wrap (q:Int)=(q:Int):=aGl _ (by omega);have w3:IntKind.i64.wrap (r:Int)=(r:Int):=aGl _ (by omega);have w4:IntKind.i64.wrap ((q:Int)-1)=(q:Int)-1:=aGl _ (by omega);have w5:IntKind.i64.wrap ((q:Int)+1)=(q:Int)+1:=aGl _ (by omega);have w6:IntKind.i64.wrap ((n:Int)-1)=(n:Int)-1:=aGl _ (by omega)
 by_cases J:r<8
 ·have V:(r:Int)<8:=by omega
  have z:=d.out;have F:=t.out;rw[FN J]at z F;have Z:max ((q:Int)-1) 0=(O:Int):=by omega
  subst F;clear d t z G I;go_enter func74,ntmps74;go_wp2;refine aGk (aGN results74 _ _ _) rfl ?_;exact⟨rfl,rfl⟩
 ·have V:¬ (r:Int)<8:=by omega
  have z:=d.out;have F:=t.out;rw[sL J]at z F;have W:min ((q:Int)+1) ((n:Int)-1)=(U:Int):=by omega
  subst z;clear d t F G I;go_enter func74,ntmps74;go_wp2;refine aGk (aGN results74 _ _ _) rfl ?_;exact⟨rfl,rfl⟩
def SixAt(w:World)(g o:Nat)(xs:List Int):Prop:=xs.length=16/\g<w.heap.size/\∀ j,j<16->w.cell? ⟨g,o+j,none⟩=some (.int .i64 (bgt xs j))
theorem SixAt.later{w w':World}{g o:Nat}{xs:List Int}(h:SixAt w g o xs)(hb:Below w.heap.size w w'):SixAt w' g o xs :=
 ⟨h.1,aGM h.2.1 hb.size,fun j d=>(hb.cell (p:=⟨g,o+j,none⟩) h.2.1).trans (h.2.2 j d)⟩
def pN(x y:List Int)(i:Nat):Int:=if i<8 then unB (bgt y (15-i)) (bgt x i) (bD i) else unA (bgt x i) (bgt y (15-i)) (bD (15-i))
def OM(x:List Int)(y:Option (List Int))(g:List Int)(i:Nat):Int:=jP (match y with|none=>bgt x i|some y=>pN x y i) (bgt g (i / 4)).toNat
theorem aCP{x y:List Int}{i:Nat}{M:Int}(hi:i<16)(d:∀ j,j<16->-M<=bgt x j/\bgt x j<=M)(t:∀ j,j<16->-M<=bgt y j/\bgt y j<=M):-(3*M+8)<=2*pN x y i/\2*pN x y i<=3*M+8:=by
 unfold pN;have h1:=d i hi;have h2:=t (15-i) (by omega);split
 ·rename_i h
  exact (uA i h _ _ M h2.1 h2.2 h1.1 h1.2).2
 ·exact (uA (15-i) (by omega) _ _ M h1.1 h1.2 h2.1 h2.2).1
theorem TA(x g:List Int)(gx Z i:Nat)(w:World)(V:SixAt w gx Z x)(d:GainB g)(hi:i<16)(hb:∀ j,j<16->-1099511627776<=bgt x j/\bgt x j<=1099511627776):
  Calls prog 77 #[.agg dS,.pointer (some ⟨gx,Z,none⟩),.pointer none,aR g,.int .i64 i] w fun e w'=>e=.returned (.int .i64 (OM x none g i))/\Below w.heap.size w w':=by
 obtain⟨q,t⟩:∃ q,g[i / 4]? = some q:=⟨_,TT (by rw[d.1];omega)⟩;have aJ:=d.get t;have HZ:=hid (show OM x none g i=jP (bgt x i) q.toNat by unfold OM;rw[aD t]);have aI:=hb i hi;have I:=hid (fun W=>sV (bgt x i) q.toNat W (by omega) (by omega) (by omega));have z:=hid (fun W=>MV g i W d hi);rw[aD t]at z;rw[show ((q.toNat:Nat):Int)=q by omega]at I;unfold aR at z ⊢;have J:(g.map (Value.int .i64)).toArray.size=4:=by simp[d.1]
 have aE:=hid (show (prog.info? 40).map (·.size)=some (g.map (Value.int .i64)).toArray.size by rw[J];exact b9);generalize (g.map (Value.int .i64)).toArray=F at *
 obtain⟨h,O⟩:∃ h,w.alloc (.cells dS 91)=h:=⟨_,rfl⟩;obtain⟨w2,U⟩:∃ w2,h.alloc (.cells F 40)=w2:=⟨_,rfl⟩;have aK:h.heap.size=w.heap.size+1:=by rw[<-O];simp
 have G:=hid (show Below w.heap.size w w2 by rw[<-U,<-O];exact aC (aP w _) (aP _ _));have G2:=hid (show w2.heap[w.heap.size+1]? = some (.cells F 40 (0,0)) by rw[<-U,<-aK];exact LT h _);have c0:=(V.later G.out).2.2 i hi;have t1:¬ (i:Int)<0:=by omega
 have t2:¬ 16<=(i:Int):=by omega
 have t3:(0:Int)<=(i:Int):=by omega
 have t4:(i:Int)<16:=by omega
 generalize bgt x i=X at *
 clear V d hb t J aI aJ;go_enter func77,ntmps77;go_wp2_with (first|(refine aB rfl 40 (.tmp 8) rfl (w.heap.size+1) rfl _ F _ _ G2.out underlying40 rfl aE.out ?_)|(go_at_call 126;refine (z.out _).mono ?_;rintro e w3 ⟨rfl,aG⟩)|(go_at_call 125;refine (I.out _).mono ?_;rintro e w4 ⟨rfl,aH⟩))
 go_ret
 exact⟨by rw[HZ.out];rfl,aC (aC G.out aG) aH⟩
theorem CA(x y g:List Int)(gx ox gy oy i:Nat)(w:World)(hx:SixAt w gx ox x)(hy:SixAt w gy oy y)(hg:GainB g)(hi:i<16)(hb:∀ j,j<16->-1099511627776<=bgt x j/\bgt x j<=1099511627776)(hc:∀ j,j<16->-1099511627776<=bgt y j/\bgt y j<=1099511627776):
  Calls prog 77 #[.agg dS,.pointer (some ⟨gx,ox,none⟩),.pointer (some ⟨gy,oy,none⟩),aR g,.int .i64 i] w fun e w'=>e=.returned (.int .i64 (OM x (some y) g i))/\Below w.heap.size w w':=by
 obtain⟨q,hq⟩:∃ q,g[i / 4]? = some q:=⟨_,TT (by rw[hg.1];omega)⟩;have bT:=hg.get hq;have HZ:=hid (show OM x (some y) g i=jP (pN x y i) q.toNat by unfold OM;rw[aD hq]);have bS:=aCP hi hb hc;have HR:=hid (fun W=>sV (pN x y i) q.toNat W (by omega) (by omega) (by omega));have aO:=hid (fun W=>MV g i W hg hi);rw[aD hq]at aO;rw[show ((q.toNat:Nat):Int)=q by omega]at HR;unfold aR at aO ⊢;have bM:(g.map (Value.int .i64)).toArray.size=4:=by simp[hg.1]
 have bG:=hid (show (prog.info? 40).map (·.size)=some (g.map (Value.int .i64)).toArray.size by rw[bM];exact b9);generalize (g.map (Value.int .i64)).toArray=gv at *
 obtain⟨w1,bN⟩:∃ w1,w.alloc (.cells dS 91)=w1:=⟨_,rfl⟩;obtain⟨w2,bO⟩:∃ w2,w1.alloc (.cells gv 40)=w2:=⟨_,rfl⟩;have bU:w1.heap.size=w.heap.size+1:=by rw[<-bN];simp
 have B2:=hid (show Below w.heap.size w w2 by rw[<-bO,<-bN];exact aC (aP w _) (aP _ _));have G2:=hid (show w2.heap[w.heap.size+1]? = some (.cells gv 40 (0,0)) by rw[<-bO,<-bU];exact LT w1 _);have c0:=(hx.later B2.out).2.2 i hi;have t1:¬ (i:Int)<0:=by omega
 have t2:¬ 16<=(i:Int):=by omega
 have t3:(0:Int)<=(i:Int):=by omega
 have t4:(i:Int)<16:=by omega
 obtain⟨r,hr⟩:∃ r,15-i=r:=⟨_,rfl⟩;have e1:(15:Int)-(i:Int)=(r:Int):=by omega
 have cA:IntKind.i64.wrap (r:Int)=(r:Int):=aGl _ (by omega);have t5:(0:Int)<=(r:Int):=by omega
 have t6:(r:Int)<16:=by omega
 have hX:=hb i hi;have hY:=hc r (by omega);obtain⟨m,hm⟩:∃ m,min i r=m:=⟨_,rfl⟩;have e2:min (i:Int) (r:Int)=(m:Int):=by omega
 have a6:m<8:=by omega
 have Z:=hid (fun W=>vL m W a6);have HX:=hid (hx.later B2.out);have HY:=hid (hy.later B2.out);have aG:=hid (show pN x y i=if i<8 then unB (bgt y r) (bgt x i) (bD i) else unA (bgt x i) (bgt y r) (bD r) by unfold pN;rw[hr]);have aY:=hid (fun W=>iC (bgt y r) (bgt x i) (bD m) W (iO a6) hY hX);have aZ:=hid (fun W=>iC (bgt x i) (bgt y r) (bD m) W (iO a6) hX hY);obtain⟨BZ,bL⟩:∃ BZ,pN x y i=BZ:=⟨_,rfl⟩;rw[bL]at HZ aG HR;have bJ:=hid (show m=min i r/\r=15-i from ⟨hm.symm,hr.symm⟩);clear hx hy hg hb hc hq bM bS bT hX hY bL hm hr
 by_cases h8:i<8
 ·have t7:(i:Int)<8:=by omega
  have aK:m=i:=by have:=bJ.out;omega
  have F:=aG.out;rw[FN h8]at F;rw[show bD i=bD m by rw[aK]]at F;have HE:=hid F;have I:=aY;clear aY aZ aG F h8 aK;obtain⟨O,aL⟩:∃ O,bD m=O:=⟨_,rfl⟩;rw[aL]at Z I HE;obtain⟨U,V⟩:=O;clear aL;simp only at Z I;go_enter func77,ntmps77;go_wp2_with (go_at_call 123;fail)
  refine (Z.out _).mono ?_;rintro e d ⟨rfl,aI⟩;obtain⟨h,J⟩:∃ h,d.alloc (.cells #[.int .i64 U,.int .i64 V] 84)=h:=⟨_,rfl⟩;have G:=hid (show Below w2.heap.size w2 h by rw[<-J];exact aC aI (aP d _));have t:=hid (show Blk h d.heap.size 84 [.int .i64 U,.int .i64 V] by rw[<-J];exact Blk.new d _ _);have x0:=fun (z:GW h)=>(HX.out.later (aC G.out z.2)).2.2 i hi
  have x1:=fun (z:GW h)=>(HY.out.later (aC G.out z.2)).2.2 r (by omega)
  have x2:=fun (z:GW h)=>(show z.1.cell? ⟨d.heap.size,0,none⟩=some (.int .i64 U) from (z.2.cell (p:=⟨d.heap.size,0,none⟩) t.out.lt).trans (t.out.cell 0))
  have x3:=fun (z:GW h)=>(show z.1.cell? ⟨d.heap.size,1,none⟩=some (.int .i64 V) from (z.2.cell (p:=⟨d.heap.size,1,none⟩) t.out.lt).trans (t.out.cell 1))
  clear aI;go_wp2_with fail
  refine aU (by kernel_rfl) (by kernel_rfl) ?_
  repeat (go_big_quiet_step ((go_at_call 124;exact bY (I.out _))))
  refine aGv ?_;intro w5 aM;have E5:=hid (aC G.out (aQ aM));have G5:=hid (aF G2.out E5.out);clear aM x0 x1 x2 x3 J;rw[<-HE.out];go_wp2_with (first|(refine aB rfl 40 (.tmp 8) rfl (w.heap.size+1) rfl _ gv _ _ G5.out underlying40 rfl bG.out ?_)|(go_at_call 126;refine (aO.out _).mono ?_;rintro e w6 ⟨rfl,a3⟩)|(go_at_call 125;refine (HR.out _).mono ?_;rintro e w7 ⟨rfl,a4⟩))
  go_ret
  exact⟨by rw[HZ.out];rfl,aC (aC (aC B2.out E5.out) a3) a4⟩
 ·have t7:¬ (i:Int)<8:=by omega
  have aK:m=r:=by have:=bJ.out;omega
  have F:=aG.out;rw[sL h8]at F;rw[show bD r=bD m by rw[aK]]at F;have HE:=hid F;have I:=aZ;clear aY aZ aG F h8 aK;obtain⟨O,aL⟩:∃ O,bD m=O:=⟨_,rfl⟩;rw[aL]at Z I HE;obtain⟨U,V⟩:=O;clear aL;simp only at Z I;go_enter func77,ntmps77;go_wp2_with (go_at_call 123;fail)
  refine (Z.out _).mono ?_;rintro e d ⟨rfl,aI⟩;obtain⟨h,J⟩:∃ h,d.alloc (.cells #[.int .i64 U,.int .i64 V] 84)=h:=⟨_,rfl⟩;have G:=hid (show Below w2.heap.size w2 h by rw[<-J];exact aC aI (aP d _));have t:=hid (show Blk h d.heap.size 84 [.int .i64 U,.int .i64 V] by rw[<-J];exact Blk.new d _ _);have x0:=fun (z:GW h)=>(HX.out.later (aC G.out z.2)).2.2 i hi
  have x1:=fun (z:GW h)=>(HY.out.later (aC G.out z.2)).2.2 r (by omega)
  have x2:=fun (z:GW h)=>(show z.1.cell? ⟨d.heap.size,0,none⟩=some (.int .i64 U) from (z.2.cell (p:=⟨d.heap.size,0,none⟩) t.out.lt).trans (t.out.cell 0))
  have x3:=fun (z:GW h)=>(show z.1.cell? ⟨d.heap.size,1,none⟩=some (.int .i64 V) from (z.2.cell (p:=⟨d.heap.size,1,none⟩) t.out.lt).trans (t.out.cell 1))
  clear aI;go_wp2_with fail
  refine aU (by kernel_rfl) (by kernel_rfl) ?_
  repeat (go_big_quiet_step ((go_at_call 124;exact bY (I.out _))))
  refine aGv ?_;intro w5 aM;have E5:=hid (aC G.out (aQ aM));have G5:=hid (aF G2.out E5.out);clear aM x0 x1 x2 x3 J;rw[<-HE.out];go_wp2_with (first|(refine aB rfl 40 (.tmp 8) rfl (w.heap.size+1) rfl _ gv _ _ G5.out underlying40 rfl bG.out ?_)|(go_at_call 126;refine (aO.out _).mono ?_;rintro e w6 ⟨rfl,a3⟩)|(go_at_call 125;refine (HR.out _).mono ?_;rintro e w7 ⟨rfl,a4⟩))
  go_ret
  exact⟨by rw[HZ.out];rfl,aC (aC (aC B2.out E5.out) a3) a4⟩
theorem BG(p:List Int)(i:Nat){j:Nat}(d:j<16):bgt (aK p i) j=bgt p (i*16+j):=NV p (i*16) 16 d
theorem KG{f:Nat->List Int->List Int}{p:List Int}{c:Nat}(hf:∀ i b,i<c->b.length=16->(f i b).length=16)(d:p.length=c*16){j:Nat}(t:j<c*16):bgt (dE f p c c) j=bgt (f (j / 16) (aK p (j / 16))) (j % 16):=by
 have hi:j / 16<c:=by omega
 have h:=s8 hf d c hi;rw[FN hi]at h;rw[<-h,BG _ _ (aG6 _ (by decide)),show j / 16*16+j % 16=j by omega]
theorem KY(L:List (List Int)):L.flatten=lF L.length (fun i=>L.getD i []):=by
 unfold lF
 congr 1
 apply aGL;intro i;rcases aGt i L.length with h|h
 ·rw[aI _ h,TT h,aGz,TT h]
  rfl
 ·rw[aGr h,aGr (by simpa using h)]
theorem MJ{sz:Nat}{fs:List aFJ}{g:aFJ->List Int}(d:∀ f∈fs,(g f).length=sz){i:Nat}{f:aFJ}(h:fs[i]? = some f):eJ sz (fs.map g).flatten i=g f:=by
 have hi:=(aGi.1 h).1;have hR:∀ i,i<(fs.map g).length->((fs.map g).getD i []).length=sz:=fun i hi=>by
  rw[aGz,TT hi];exact (by
   obtain⟨x,t,e⟩:=aGq.1 (aIj hi);show ((fs.map g)[i]).length=sz;rw[<-e];exact d x t)
 rw[KY,tR hR (by simpa using hi),aGz,aF5,h]
 rfl
theorem zW{sz:Nat}{fs:List aFJ}{g:aFJ->List Int}(d:∀ f∈fs,(g f).length=sz):(fs.map g).flatten.length=fs.length*sz:=by
 rw[KY];rw[kP (sz:=sz) (fun i hi=>by
  rw[aGz,TT hi];obtain⟨x,h,e⟩:=aGq.1 (aIj hi);show ((fs.map g)[i]).length=sz;rw[<-e];exact d x h),aF7]
theorem OI{p:List Int}{c:Nat}(h:p.length=c*16){j:Nat}(d:j<c*16):bgt (mW p c) j=bgt (gI (aK p (j / 16))) (j % 16):=KG GL h d
theorem aCm{fs:List aFJ}(U:∀ f∈fs,f.Len){k:Nat}{f:aFJ}(h:fs[k / 16]? = some f){o:Option aFJ}
 (d:o=if k % 16<8 then (if k / 16=0 then none else fs[k / 16-1]?) else fs[k / 16+1]?):
  bgt (oN (fs.map bV).flatten (fs.map (·.gains)).flatten fs.length) k=OM (gI (bV f)) (o.map fun y=>gI (bV y)) f.gains (k % 16):=by
 have hi:=(aGi.1 h).1;have O:∀ f∈fs,(bV f).length=16:=fun f _=>fO f
 have V:∀ f∈fs,f.gains.length=4:=fun f hf=>(U f hf).g
 have F:=zW O;have G:∀ {i:Nat} {x:aFJ},fs[i]? = some x->aK (fs.map bV).flatten i=bV x:=fun Z=>MJ (sz:=16) O Z
 have W:=MJ (g:=fun f=>f.gains) V h;generalize (fs.map bV).flatten=p at *
 generalize (fs.map fun f=>f.gains).flatten=gs at *
 have J:=p8 F;have hm:k % 16<16:=aG6 _ (by decide);unfold oN;rw[KG nO (IJ J) (by omega)];unfold jZ gE OM;rw[aD (aI _ hm),FN hm,W,BG _ _ hm,show k / 16*16+k % 16=k by omega]
 congr 1
 unfold eO;rw[fA _ _ _ _ (by rw[J];omega),OI F (by omega),G h]
 by_cases z:k % 16<8
 ·rw[FN z]at d
  by_cases I:k / 16=0
  ·rw[FN I]at d;subst d;rw[sL (by omega)]
   rfl
  ·rw[sL I]at d;obtain⟨y,t⟩:∃ y,fs[k / 16-1]? = some y:=⟨_,TT (by omega)⟩;rw[t]at d;subst d;have e:(k+8) / 16=k / 16:=by omega
   rw[e,FN (by omega),sL (by omega),OI F (by omega),show (k / 16*32-1-k) / 16=k / 16-1 by omega,show (k / 16*32-1-k) % 16=15-k % 16 by omega,G t,show k-k / 16*16=k % 16 by omega];show _=pN (gI (bV f)) (gI (bV y)) (k % 16);unfold pN;rw[FN z]
 ·rw[sL z]at d;have e:(k+8) / 16=k / 16+1:=by omega
  rw[e]
  by_cases h1:k / 16+1<fs.length
  ·obtain⟨y,t⟩:∃ y,fs[k / 16+1]? = some y:=⟨_,TT h1⟩;rw[t]at d;subst d;rw[FN (by omega),FN (by omega),OI F (by omega),show ((k / 16+1)*32-1-k) / 16=k / 16+1 by omega,show ((k / 16+1)*32-1-k) % 16=15-k % 16 by omega,G t,show (k / 16+1)*16-1-k=15-k % 16 by omega];show _=pN (gI (bV f)) (gI (bV y)) (k % 16);unfold pN;rw[sL z]
  ·rw[aGr (by omega)]at d;subst d;rw[sL (by omega)]
   rfl
def atZ(F:Nat->aFJ)(len k:Nat):Int :=
 sR (OM (gI (bV (F (k / 16)))) (if kR k=nI k (aS len) then none else some (gI (bV (F (if k / 16=kR k then nI k (aS len) else kR k))))) (F (k / 16)).gains (k % 16))
theorem aCO{fs:List aFJ}{F:Nat->aFJ}{len k:Nat}(z:∀ f∈fs,f.Len)(hF:∀ i x,fs[i]? = some x->F i=x)(O:fs.length=aS len)(hk:k<len):(lO fs (len:Nat))[k]? = some (atZ F len k):=by
 have G:∀ f∈fs,(bV f).length=16:=fun f _=>fO f
 have I:=xI (gs:=(fs.map (·.gains)).flatten) (zW G);have J:aS len=(len+15) / 16:=by unfold aS;omega
 have hi:k / 16<fs.length:=by omega
 obtain⟨f,hf⟩:∃ f,fs[k / 16]? = some f:=⟨_,TT hi⟩;unfold lO l7;rw[aF5,aHe,FN (by omega),rI (by rw[I];omega),aCm z hf rfl];simp only[Option.map_some];unfold atZ;rw[hF _ _ hf]
 congr 3
 unfold kR nI
 by_cases t:k % 16<8
 ·simp only[FN t]
  by_cases h:k / 16=0
  ·rw[FN h,FN (by omega)]
   rfl
  ·obtain⟨y,d⟩:∃ y,fs[k / 16-1]? = some y:=⟨_,TT (by omega)⟩;rw[sL h,sL (by omega),d,sL (by omega),hF _ _ d]
   rfl
 ·simp only[sL t]
  by_cases h1:k / 16+1<fs.length
  ·obtain⟨y,d⟩:∃ y,fs[k / 16+1]? = some y:=⟨_,TT h1⟩;rw[d,sL (by omega),FN trivial,show min (k / 16+1) (aS len-1)=k / 16+1 by omega,hF _ _ d]
   rfl
  ·rw[aGr (by omega),FN (by omega)]
   rfl
end Go.Proofs.YtbpgfkjhclpbdaaGreatDoor
