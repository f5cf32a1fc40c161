/- WrA. Conditions: as each theorem states. -/
import Derived.Laws.OwnMore
import Derived.Lib.Zigzag
import Derived.Laws.BitsAllLaws
import Derived.Test.YtbpgfkjhclpbdaaGreatDoorPw04
import Derived.Test.YtbpgfkjhclpbdaaGreatDoorPw05
namespace Go.Proofs.YtbpgfkjhclpbdaaGreatDoor
open Tryz
open Go.Lib (hid)
open Go.RowKit
def u8s(l:List Nat):List Value:=l.map fun (x:Nat)=>Value.int .u8 (x:Int)
def WrAt(W:World)(g:Nat)(L:List Nat):Prop :=
 Bin L/\∃ v,W.heap[g]? = some (.cells #[v,.int .i64 (L.length:Int),.int .i64 0] 315 (0,0))/\W.ownsRow (g+1) 5 1 v ((L.length+7) / 8) (u8s (jL L))
theorem tF:(prog.info? 5).map (fun i=>(i.zero,i.size,i.bytes))=some (some (.int .u8 0),1,1):=by kernel_rfl
theorem eL{l:List Nat}{i x:Nat}(h:l[i]? = some x):(u8s l)[i]? = some (.int .u8 (x:Int)):=by unfold u8s;rw[aF5,h];rfl
theorem jW(l:List Nat):(u8s l).length=l.length:=by simp[u8s]
theorem rY(l:List Nat):∀ u∈u8s l,u.oneCell'=true:=by
 intro u d;unfold u8s at d;obtain⟨x,_,rfl⟩:=aGq.1 d
 rfl
theorem aEi(v i:Nat):(v:Int) / 2 ^ i % 2=(JK v i:Int):=by
 unfold JK;rw[show (2:Int) ^ i=((2 ^ i:Nat):Int) by rw[Int.natCast_pow];rfl];omega
theorem aDS{M:List Nat}(z:Bin M){b:Nat}(hb:b<=1):bits .or .u8 (fR M (M.length / 8):Int) ((b*2 ^ (7-M.length % 8):Nat):Int)=((fR M (M.length / 8)+b*2 ^ (7-M.length % 8):Nat):Int):=by
 have h1:=KN z (M.length / 8);have h2:2 ^ (7-M.length % 8)<=2 ^ 7:=aHR (by decide) (by omega);have t:b*2 ^ (7-M.length % 8)<256:=by
  rcases aGt b 1 with h|h
  ·have:b=0:=by omega
   subst this;omega
  ·have:b=1:=by omega
   subst this;omega
 rw[u8_or_nat _ _ h1 t];have d:=WN M;rw[show 8-M.length % 8=(7-M.length % 8)+1 by omega]at d;rw[aDL d hb]
theorem LU{w w':World}{base:Nat}{e:TypeId}{size n:Nat}{v:Value}{xs:List Value}(h:w.ownsRow base e size v n xs)(hb:Below w.heap.size w w'):w'.ownsRow base e size v n xs:=by
 obtain⟨h1,h2⟩:=h;refine⟨h1,?_⟩;rcases h2 with h2|⟨g,cap,d,z,t,hh,r⟩
 ·exact .inl h2
 ·exact .inr ⟨g,cap,d,z,t,aF hh hb,r⟩
def Keeps(g:Nat)(w w':World):Prop:=∀ j d T fr,w.heap[j]? = some (.cells d T fr)->T≠5->j≠g->w'.heap[j]? = some (.cells d T fr)
theorem Keeps.refl(g:Nat)(w:World):Keeps g w w:=fun _ _ _ _ h _ _=>h
theorem Keeps.trans{g:Nat}{a b c:World}(h:Keeps g a b)(k:Keeps g b c):Keeps g a c:=fun j d T fr h1 h2 t=>k j d T fr (h j d T fr h1 h2 t) h2 t
theorem Keeps.below{g:Nat}{a b:World}(h:Below a.heap.size a b):Keeps g a b:=fun _ _ _ _ h1 _ _=>aF h1 h
theorem YQ{w:World}{base:Nat}{e:TypeId}{size n:Nat}{v:Value}{xs:List Value}(h:w.ownsRow base e size v n xs){j:Nat}{t:Array Value}{T:TypeId}{fr:Nat × Nat}(z:w.heap[j]? = some (.cells t T fr))(hT:T≠e):some j≠v.ownBlock:=by
 intro hk;rcases h.2 with ⟨rfl,_⟩|⟨g,cap,F,rfl,_,d,_⟩
 ·simp[Value.ownBlock]at hk
 ·have:j=g:=by simpa[Value.ownBlock] using hk
  subst this;rw[z]at d;injection d with d
  injection d with _ d _
  exact hT d
theorem Keeps.grown{g:Nat}{a b:World}{base size n:Nat}{v:Value}{xs:List Value}(h:a.grownBy b v.ownBlock)(d:a.ownsRow base 5 size v n xs):Keeps g a b:=fun j _ _ _ h1 h2 _=>(h.block j (hlt h1) (YQ d h1 h2)).trans h1
theorem Keeps.set_g{g o:Nat}{a:World}{u:Value}:Keeps g a (a.setCell ⟨g,o,none⟩ u):=fun j _ _ _ h1 _ d=>(aHm _ _ _ _ (by simpa using d)).trans h1
theorem Keeps.set_own{g d o t:Nat}{a:World}{u:Value}{base size n m:Nat}{xs:List Value}(z:a.ownsRow base 5 size (.slice (some ⟨d,0,none⟩) m t) n xs):Keeps g a (a.setCell ⟨d,o,none⟩ u):=fun j F T fr h1 h2 _=>(aHm _ _ _ _ (by
 have:=YQ z h1 h2;intro h;exact this (by simp[Value.ownBlock,h]))).trans h1
set_option maxRecDepth 100000 in
set_option maxHeartbeats 4000000 in
theorem qX(g v k:Nat)(L:List Nat)(w:World)(hk:k<=57)(hv:v<2 ^ k)(hL:L.length+k<=100000)(hw:WrAt w g L):
  Calls prog 213 #[.pointer (some ⟨g,0,none⟩),.int .u64 v,.int .i64 k] w fun e w'=>e=.returned (.tuple #[])/\WrAt w' g (L++cR v k)/\Keeps g w w'/\Below g w w':=by
 have t1:decide ((k:Int)<0)=false:=aGm (by omega);have t2:decide ((57:Int)<(k:Int))=false:=aGm (by omega);have t3:(v:Int) / 2 ^ k=0:=by
  rw[show (2:Int) ^ k=((2 ^ k:Nat):Int) by rw[Int.natCast_pow];rfl,<-Int.natCast_ediv,aI4 hv];rfl
 have Hw:=hid hw;obtain⟨_,s,O,_⟩:=hw;have c2:w.cell? ⟨g,2,none⟩=some (.int .i64 0):=aGo w g 2 _ _ _ O;have t0:(k:Int)<=64:=by omega
 have Hv:=hid hv;clear O hv;go_enter func213,ntmps213;go_wp2;go_loopw [6] (fun i wr=>∃ m:Nat,m<=k/\i=.int .i64 ((k:Int)-1-(m:Int))/\WrAt wr g (L++(cR v k).take m)/\Keeps g w wr/\Below g w wr) (fun i _=>(intOf i+1).toNat)
 case atStart=>exact⟨0,by omega,by go_num,by simpa using Hw.out,Keeps.refl _ _,aGj _ _⟩
 case round =>
  obtain⟨m,hm,rfl,hW,bY,bV⟩:=hrel;have a1:=hid bV;have a4:=hid bY;clear c2 bV bY
  by_cases cQ:m<k
  ·have t4:(0:Int)<=(k:Int)-1-(m:Int):=by omega
   obtain⟨M,hM⟩:∃ M,L++(cR v k).take m=M:=⟨_,rfl⟩;have hn:M.length=L.length+m:=by rw[<-hM];simp[cJ];omega
   have HS:=hid (show L++(cR v k).take (m+1)=M++[JK v (k-1-m)] by rw[BF v cQ,<-hM,aHU]);rw[hM]at hW;obtain⟨bS,s,O,aO⟩:=hW;obtain⟨A0,cz,rfl,_,_⟩:=jK aO;have bJ:=hid bS;have Hs:=hid O;have V:=hid aO;obtain⟨n,bA⟩:∃ n,M.length=n:=⟨_,rfl⟩;obtain⟨r,hr⟩:∃ r,(n+7) / 8=r:=⟨_,rfl⟩;rw[bA]at hn aO O Hs V;rw[hr]at aO O Hs V;have U:=hid bA;have c0:wr.cell? ⟨g,0,none⟩=some (.slice A0 r cz):=aGo wr g 0 _ _ _ O;have c1:wr.cell? ⟨g,1,none⟩=some (.int .i64 n):=aGo wr g 1 _ _ _ O;clear hM bS O aO bA;obtain⟨j,hj⟩:=aGF t4;have bX:k-1-m=j:=by omega
   rw[bX]at HS;rw[hj];have t5:(0:Int)<=(j:Int):=by omega
   have t6:(j:Int)<=64:=by omega
   have hb:=aAh v j;obtain⟨b,a6⟩:∃ b,JK v j=b:=⟨_,rfl⟩;rw[a6]at HS hb;have hand:bits .and .u64 ((v:Int) / 2 ^ j) 1=(b:Int):=by
    have h0:(v:Int) / 2 ^ j=((v / 2 ^ j:Nat):Int):=by rw[show (2:Int) ^ j=((2 ^ j:Nat):Int) by rw[Int.natCast_pow];rfl];exact (Int.natCast_ediv v (2 ^ j)).symm
    have h1:v / 2 ^ j<=v:=Nat.div_le_self _ _;have h2:v<2 ^ 57:=aGM Hv.out (aHR (by decide) hk);rw[h0,Go.Lib.u64_and1 _ (Int.natCast_nonneg _) (Int.lt_of_le_of_lt (aID.2 h1) (by omega)),<-h0,aEi,a6]
   have dC:IntKind.u8.wrap (b:Int)=(b:Int):=by rw[IntKind.wrap_u8'];omega
   obtain⟨q,hq⟩:∃ q,n / 8=q:=⟨_,rfl⟩;obtain⟨p,hp⟩:∃ p,7-n % 8=p:=⟨_,rfl⟩;have dG:(n:Int) / 8=(q:Int):=by omega
   have dE:(7:Int)-(n:Int) % 8=(p:Int):=by omega
   have t7:(0:Int)<=(p:Int):=by omega
   have t8:(p:Int)<=8:=by omega
   have cU:2 ^ p<=2 ^ 7:=aHR (by decide) (by omega);have hy:b*2 ^ p<256:=by
    rcases aGt b 1 with h|h
    ·have:b=0:=by omega
     subst this;omega
    ·have:b=1:=by omega
     subst this;omega
   have cW:IntKind.u8.wrap ((b:Int)*2 ^ p)=((b*2 ^ p:Nat):Int):=by
    rw[IntKind.wrap_u8',show (2:Int) ^ p=((2 ^ p:Nat):Int) by rw[Int.natCast_pow];rfl,<-Int.natCast_mul];omega
   have bB:bits .or .u8 (fR M q:Int) ((b*2 ^ p:Nat):Int)=((fR M q+b*2 ^ p:Nat):Int):=by
    have:=aDS bJ.out hb
    rwa [U.out,hq,hp]at this
   have HR:=hid (show jL (M++[b])=(nA M).set q (fR M q+b*2 ^ p) by rw[YS,U.out,hq,hp]);have HG:=hid (show (nA M)[q]? = some (fR M q) by have:=aBU M;rwa [U.out,hq]at this);have c9:=hid (show (nA M).length=q+1 by rw[AR,U.out,hq]);have b5:=hid (show Bin (M++[b]) from bJ.out.append (fun x hx=>by rw[aGx]at hx;omega));obtain⟨y,b3⟩:∃ y,b*2 ^ p=y:=⟨_,rfl⟩;rw[b3]at cW bB HR;obtain⟨X,hX⟩:∃ X,fR M q=X:=⟨_,rfl⟩;rw[hX]at bB HR HG;obtain⟨Z,hZ⟩:∃ Z,X+y=Z:=⟨_,rfl⟩;rw[hZ]at bB HR;have bK:=hid hj;have dD:n<=100000:=by omega
   have dH:r<=100000:=by omega
   have Hn:=hid hn;have Hq:=hid hq;clear hj bX a6 hn t4 hX b3 hy cU hZ;have b4:∀ (F:World) (d t:Nat),F.heap[g]? = some (.cells #[.slice (some ⟨d,0,none⟩) (q+1) t,.int .i64 n,.int .i64 0] 315 (0,0))->F.ownsRow (g+1) 5 1 (.slice (some ⟨d,0,none⟩) (q+1) t) (q+1) (u8s (nA M)) ->
     WrAt ((F.setCell ⟨d,q,none⟩ (.int .u8 (Z:Int))).setCell ⟨g,1,none⟩ (.int .i64 ((n:Int)+1))) g (L++(cR v k).take (m+1)):=by
    intro F d t h1 h2;have h3:=h2.stored q (.int .u8 (Z:Int));have bW:=(h2.lt d rfl).1;refine⟨by rw[HS.out];exact b5.out,.slice (some ⟨d,0,none⟩) (q+1) t,?_,?_⟩
    ·have h4:(F.setCell ⟨d,q,none⟩ (.int .u8 (Z:Int))).heap[g]? = some (.cells #[.slice (some ⟨d,0,none⟩) (q+1) t,.int .i64 n,.int .i64 0] 315 (0,0)):=(aHm _ _ _ _ (by simp;omega)).trans h1;have h5:=heap_setCell_same (F.setCell ⟨d,q,none⟩ (.int .u8 (Z:Int))) g 1 _ _ (.int .i64 ((n:Int)+1)) h4;rw[h5,HS.out,aGG,U.out];simp
    ·have h6:=aIT h3.1 (a:=⟨g,1,none⟩) (by simp) (.int .i64 ((n:Int)+1));have e1:((L++(cR v k).take (m+1)).length+7) / 8=q+1:=by rw[HS.out,aGG,U.out,<-Hq.out];simp;omega
     have e2:u8s (jL (L++(cR v k).take (m+1)))=(u8s (nA M)).set q (.int .u8 (Z:Int)):=by rw[HS.out,HR.out];unfold u8s;rw[aG0]
     rw[e1,e2];exact h6
   have bL:=hid b4;clear b4
   by_cases h8:n % 8=0
   ·have e8:(n:Int) % 8=0:=by omega
    have bC:r=q:=by omega
    subst bC;have aZ:=hid (show u8s (nA M)=u8s (jL M)++[.int .u8 0] by unfold nA;rw[U.out,FN h8];unfold u8s;rw[aG2];rfl);obtain⟨i0,hi,cZ,c3,c4⟩:∃ i,prog.info? 5=some i/\i.zero=some (.int .u8 0)/\i.size=1/\i.bytes=1:=by
     have:=tF;cases h:prog.info? 5 with
     | none=>rw[h]at this;cases this
     | some i=>rw[h]at this;simp at this;exact⟨i,rfl,this.1,this.2.1,this.2.2⟩
    have gz:=hlt Hs.out;go_wp2_with (at_builtin;refine cF _ rfl (.tmp 43) (.tmp 44) 32 rfl (g+1) 5 i0 (.int .u8 0) 1 1 underlying32 hi cZ c3 c4 rfl (by omega) _ r (u8s (jL M)) rfl (V.out.alloc _) (wr.heap.size+1) (some ⟨wr.heap.size,0,none⟩) 1 1 [.int .u8 0] rfl rfl (Row.new wr _ _) (fun u hu=>by simp at hu;subst hu;rfl) (by omega) (by omega) (by simp;omega) ?_;intro A2 t w2 bZ aV cP dB;have aW:w2.heap[g]? = some (.cells #[.slice A0 r cz,.int .i64 n,.int .i64 0] 315 (0,0)):=(aV.block g (by simp;omega) (by intro h;have:=(V.out.lt g h.symm).1;omega)).trans ((aHg _ _ gz).trans Hs.out);have d0:=aGo w2 g 0 _ _ _ aW;have z0:=aIx w2 g 0 _ _ aW)
    have W:(w2.setCell ⟨g,0,none⟩ (.slice A2 (r+1) t)).heap[g]? = some (.cells #[.slice A2 (r+1) t,.int .i64 n,.int .i64 0] 315 (0,0)):=heap_setCell_same w2 g 0 _ _ _ aW;have I:=aIT bZ (a:=⟨g,0,none⟩) (by simp) (.slice A2 (r+1) t);rw[<-aZ.out]at I;have aL:Below g w (w2.setCell ⟨g,0,none⟩ (.slice A2 (r+1) t)):=(SK (a1.out.alloc (aHv gz) _) aV (by simp;omega) (fun k hk=>by have:=(V.out.lt k hk).1;omega)).setCell (by simp) _;have aN:Keeps g w (w2.setCell ⟨g,0,none⟩ (.slice A2 (r+1) t)):=((a4.out.trans (Keeps.below (aP wr _))).trans (Keeps.grown aV (V.out.alloc _))).trans Keeps.set_g;clear aW d0 z0 bZ aV cP c0 c1 e8;generalize w2.setCell ⟨g,0,none⟩ (.slice A2 (r+1) t)=F at *
    generalize dI:r=q at *
    obtain⟨d,cx,hv,bW,a7⟩:=I.form (by omega);injection hv with bD _ bE
    subst bD bE;have cT:d≠g:=by omega
    have aM:F.cell? ⟨d,q,none⟩=some (.int .u8 (X:Int)):=(I.cellAt q (by omega)).trans (eL HG.out);have bF:=dR W;have bG:=fun (x:GW F)=>(DQ x (p:=⟨d,q,none⟩) a7).trans aM
    have aI:=hid W;have a5:=hid I;have a0:=hid aL;have a3:=hid aN;have t9:(q:Int)<((q+1:Nat):Int):=by omega
    have c6:(0:Int)<=(q:Int):=by omega
    clear W I aL aM aN;refine aJ 25 (by kernel_rfl) (by kernel_rfl) ?_;simp only[List.take_succ_cons,List.take_zero,aGO,aGR]
    repeat (go_big_quiet_step (fail))
    refine aGv ?_;intro z aS;have G:=aQ aS;have aA:=aF aI.out G;have J:z.ownsRow (g+1) 5 1 (.slice (some ⟨d,0,none⟩) (q+1) t) (q+1) (u8s (nA M)):=LU a5.out G;have Hk:=hid (bL.out z d t aA J);have aY:=hid (((a3.out.trans (Keeps.below G)).trans (Keeps.set_own (o:=q) (u:=.int .u8 (Z:Int)) J)).trans (Keeps.set_g (o:=1) (u:=.int .i64 ((n:Int)+1))));have aX:=hid (a0.out.trans (G.mono (hlt aI.out |> aHv)));have ce:z.cell? ⟨d,q,none⟩=some (.int .u8 (X:Int)):=(J.cellAt q (by omega)).trans (eL HG.out);have fz:=J.frozenAt q;have aB:(z.setCell ⟨d,q,none⟩ (.int .u8 (Z:Int))).heap[g]? = some (.cells #[.slice (some ⟨d,0,none⟩) (q+1) t,.int .i64 n,.int .i64 0] 315 (0,0)):=(aHm _ _ _ _ (by simp;omega)).trans aA;have cC:(z.setCell ⟨d,q,none⟩ (.int .u8 (Z:Int))).cell? ⟨g,1,none⟩=some (.int .i64 n):=aGo _ g 1 _ _ _ aB;have cK:(z.setCell ⟨d,q,none⟩ (.int .u8 (Z:Int))).frozen? ⟨g,1,none⟩=false:=aIx _ g 1 _ _ aB;clear aS G bF bG aA J aB;go_wp2;go_roundw
    case rel=>exact⟨m+1,by omega,by have:=bK.out;exact jX (by omega),Hk.out,aY.out,(aX.out.setCell (by simp;omega) _).setCell (by simp) _⟩
    case measure=>simp[intOf]
   ·have e8:¬ (n:Int) % 8=0:=by omega
    have bC:r=q+1:=by omega
    subst bC;have aZ:=hid (show u8s (nA M)=u8s (jL M) by unfold nA;rw[U.out,sL h8,aIh]);have W:=Hs.out;have I:=V.out;rw[<-aZ.out]at I;have aL:=a1.out;have aN:=a4.out;go_wp2;clear c0 c1;generalize wr=F at *
    have dF:True:=trivial;obtain⟨d,cx,hv,bW,a7⟩:=I.form (by omega);injection hv with bD _ bE
    subst bD bE;have cT:d≠g:=by omega
    have aM:F.cell? ⟨d,q,none⟩=some (.int .u8 (X:Int)):=(I.cellAt q (by omega)).trans (eL HG.out);have bF:=dR W;have bG:=fun (x:GW F)=>(DQ x (p:=⟨d,q,none⟩) a7).trans aM
    have aI:=hid W;have a5:=hid I;have a0:=hid aL;have a3:=hid aN;have t9:(q:Int)<((q+1:Nat):Int):=by omega
    have c6:(0:Int)<=(q:Int):=by omega
    clear W I aL aM aN;refine aJ 25 (by kernel_rfl) (by kernel_rfl) ?_;simp only[List.take_succ_cons,List.take_zero,aGO,aGR]
    repeat (go_big_quiet_step (fail))
    refine aGv ?_;intro z aS;have G:=aQ aS;have aA:=aF aI.out G;have J:z.ownsRow (g+1) 5 1 (.slice (some ⟨d,0,none⟩) (q+1) cz) (q+1) (u8s (nA M)):=LU a5.out G;have Hk:=hid (bL.out z d cz aA J);have aY:=hid (((a3.out.trans (Keeps.below G)).trans (Keeps.set_own (o:=q) (u:=.int .u8 (Z:Int)) J)).trans (Keeps.set_g (o:=1) (u:=.int .i64 ((n:Int)+1))));have aX:=hid (a0.out.trans (G.mono (hlt aI.out |> aHv)));have ce:z.cell? ⟨d,q,none⟩=some (.int .u8 (X:Int)):=(J.cellAt q (by omega)).trans (eL HG.out);have fz:=J.frozenAt q;have aB:(z.setCell ⟨d,q,none⟩ (.int .u8 (Z:Int))).heap[g]? = some (.cells #[.slice (some ⟨d,0,none⟩) (q+1) cz,.int .i64 n,.int .i64 0] 315 (0,0)):=(aHm _ _ _ _ (by simp;omega)).trans aA;have cC:(z.setCell ⟨d,q,none⟩ (.int .u8 (Z:Int))).cell? ⟨g,1,none⟩=some (.int .i64 n):=aGo _ g 1 _ _ _ aB;have cK:(z.setCell ⟨d,q,none⟩ (.int .u8 (Z:Int))).frozen? ⟨g,1,none⟩=false:=aIx _ g 1 _ _ aB;clear aS G bF bG aA J aB;go_wp2;go_roundw
    case rel=>exact⟨m+1,by omega,by have:=bK.out;exact jX (by omega),Hk.out,aY.out,(aX.out.setCell (by simp;omega) _).setCell (by simp) _⟩
    case measure=>simp[intOf]
  ·have cS:m=k:=by omega
   subst cS;have t4:¬ ((0:Int)<=(m:Int)-1-(m:Int)):=by omega
   have Hf:=hid hW;clear hW;go_wp2;refine aHN (v:=.tuple #[]) (aHJ results213 _ _ _) rfl ?_;refine⟨rfl,?_,a4.out,a1.out⟩;have:=Hf.out
   rwa [aGW (by rw[cJ];exact LE _)]at this
end Go.Proofs.YtbpgfkjhclpbdaaGreatDoor
