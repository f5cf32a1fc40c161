/- SampD, SampE, SampF, QuotaA, QuotaB, EdF. Conditions: as each theorem states. -/
import Derived.Test.YtbpgfkjhclpbdaaGreatDoorPw05
import Derived.Test.YtbpgfkjhclpbdaaGreatDoorPw38
set_option maxRecDepth 100000
set_option maxHeartbeats 4000000
namespace Go.Proofs.YtbpgfkjhclpbdaaGreatDoor
open Tryz
open Go.RowKit
section
open Go.Lib (hid)
open Go.RowKit
def aFM.small(s:aFM):Prop:=s.name.size<=100/\s.rows.length<=4/\∀ r∈s.rows,r.length<=150
theorem GG(L:List (aFR × aFM))(p:aFR × aFM):fK (L++[p])=fK L++p.1.cells:=by simp[fK]
theorem Row.aside{w w':World}{B:Nat}{a:Option Addr}{vs:List Value}{row:Option Nat}(h:Row w B a vs)(F:B<=w.heap.size)(t:w.grownBy w' row)(ha:∀ ad,a=some ad->row≠some ad.block):Row w' B a vs:=by
 intro i v z;obtain⟨b,off,he,hb,d⟩:=h i v z;refine⟨b,off,he,hb,?_⟩;rw[aH5 (w:=w) (t.block b (by omega) (fun h2=>ha _ he h2.symm))];exact d
theorem RowsAt.aside{w w':World}{B:Nat}{vs:List Value}{rows:List (List Int)}{row:Option Nat}(h:RowsAt w B vs rows)(O:B<=w.heap.size)(F:w.grownBy w' row)(ha:∀ g,row=some g->B<=g):RowsAt w' B vs rows:=by
 refine⟨h.1,fun i v xs I J=>?_⟩;obtain⟨a,cap,h1,h2,d,t⟩:=h.2 i v xs I J;refine⟨a,cap,h1,h2,d,fun j u G=>?_⟩;obtain⟨b,off,he,hb,z⟩:=t j u G;refine⟨b,off,he,hb,?_⟩;rw[aH5 (w:=w) (F.block b (by omega) (fun h2=>by have:=ha _ h2.symm;omega))];exact z
theorem aEV{w:World}{B:Nat}{a:Option Addr}{vs:List Value}{rows:List (List Int)}(h:Row w B a vs)(d:vs.length=rows.length)(t:rows≠[]){ad:Addr}(ha:a=some ad):ad.block<B:=by
 have:0<vs.length:=by rw[d];exact List.length_pos_iff.2 t
 obtain⟨b,off,he,hb,_⟩:=h 0 vs[0] (TT this);rw[ha]at he;injection he with he
 rw[he];exact hb
theorem yU{w:World}{base:Nat}{e:TypeId}{size n:Nat}{v:Value}{xs:List Value}(h:w.ownsRow base e size v n xs):∀ k,v.ownBlock=some k->k<w.heap.size:=by
 intro k hk;rcases h.2 with ⟨rfl,_⟩|⟨g,cap,d,rfl,hb,hh,_⟩
 ·simp[Value.ownBlock]at hk
 ·have e:g=k:=by simpa[Value.ownBlock] using hk
  subst e;rcases aGt g w.heap.size with h|h
  ·exact h
  ·rw[aHl h]at hh;cases hh
def Stands(B:Nat)(w:World)(row:Option Nat)(p:aFR × aFM):Prop :=
 (p.1.nm=p.2.name/\p.1.rate=p.2.rate/\p.1.lp=p.2.lp/\p.1.f=p.2.f/\p.1.t=p.2.t/\p.1.len=p.2.rows.length)/\p.2.rows.length<=p.1.cap/\p.1.cap<=9223372036854775807 /\
  (∃ vs,Row w w.heap.size p.1.a vs/\RowsAt w B vs p.2.rows)/\∀ ad,p.1.a=some ad->p.2.rows≠[]->row≠some ad.block/\ad.block<w.heap.size
theorem Stands.fits{B:Nat}{w:World}{row:Option Nat}{p:aFR × aFM}(h:Stands B w row p)(F:B<=w.heap.size):p.1.fits w w.heap.size p.2:=by
 obtain⟨h1,h2,d,⟨vs,t,z⟩,_⟩:=h;exact⟨h1,h2,d,vs,t,z.more F⟩
theorem Stands.below{B:Nat}{w w':World}{row:Option Nat}{p:aFR × aFM}(h:Stands B w row p)(I:B<=w.heap.size)(hb:Below w.heap.size w w'):Stands B w' row p:=by
 obtain⟨h1,h2,z,⟨vs,F,G⟩,d⟩:=h;exact⟨h1,h2,z,⟨vs,F.later hb,G.below (hb.mono I)⟩,fun ad had t=>⟨(d ad had t).1,aGM (d ad had t).2 hb.size⟩⟩
theorem Stands.grown{B:Nat}{w w':World}{row F:Option Nat}{p:aFR × aFM}(h:Stands B w row p)(O:B<=w.heap.size)(z:w.grownBy w' row)(U:∀ g,row=some g->B<=g)(V:F=row\/F=some w.heap.size):Stands B w' F p:=by
 obtain⟨h1,h2,I,⟨vs,J,G⟩,t⟩:=h;have W:Row w' w.heap.size p.1.a vs:=by
  by_cases d:p.2.rows=[]
  ·have:vs=[]:=by
    have:=G.1;rw[d]at this;exact List.length_eq_zero_iff.1 this
   rw[this];exact Row.none_ _ _ _
  ·exact J.aside (LE _) z fun ad had=>(t ad had d).1
 refine⟨h1,h2,I,⟨vs,W.more z.size,G.aside O z U⟩,fun ad had d=>⟨?_,aGM (t ad had d).2 z.size⟩⟩;rcases V with rfl|rfl
 ·exact (t ad had d).1
 ·intro he;injection he with he
  have:=(t ad had d).2;omega
def J5(W:World)(SS:List aFM)(e:Ending)(w':World):Prop :=
 ∃ A c d,e=.returned (.slice A (List.length d) c)/\List.map Prod.snd d=SS/\List.length d<=c/\c<=9223372036854775807/\(A=none->c=0)/\aFX w' w'.heap.size A d/\Below W.heap.size W w'
def FT(s:aFM):aFM:=⟨tB s.name,s.rate,s.lp,s.f,s.t,yC s.rows⟩
def sF(L:List aFM):List aFM:=(L.take 8).map FT
theorem aCt(L:List (aFR × aFM))(A:Option Addr)(cap:Nat)(w:World)(hs:aFX w w.heap.size A L)(bK:∀ p∈L,p.2.name.size<=9223372036854775807):
  Calls prog 53 #[.slice A L.length cap] w (J5 w (sF (L.map Prod.snd))):=by
 obtain⟨i0,hi,b9,cA,cB⟩:=aHx SY;have bQ:=hid (fun (k:Nat) p (h:L[k]? = some p)=>(show ((L.map Prod.snd).take (k+1)).map FT=((L.map Prod.snd).take k).map FT++[FT p.2] from by rw[aJp,aF5,h];simp));have a6:=hid (fun k (hk:k<=8/\(k=L.length\/k=8))=>(show ((L.map Prod.snd).take k).map FT=sF (L.map Prod.snd) from by
  unfold sF
  congr 1
  rcases hk.2 with h|h
  ·rw[aGW (by simp;omega),aGW (by simp;omega)]
  ·rw[h]))
 obtain⟨n,a0⟩:∃ n,L.length=n:=⟨_,rfl⟩;have Hn:=hid a0;have Hs:=hid hs;have bU:=hid bK;rw[a0]at a6 ⊢;clear a0 hs bK;go_enter func53,ntmps53;go_wp2;go_loopw [3,4] (fun o i wr=>∃ (k:Nat) (M:List (aFR × aFM)) (I:Option Addr) (c:Nat),k<=n/\k<=8/\i=.int .i64 k/\M.length=k/\M.map Prod.snd=((L.map Prod.snd).take k).map FT/\o=.slice I k c /\
   wr.ownsRow w.heap.size 119 6 (.slice I k c) k (fK M)/\(∀ p∈M,Stands w.heap.size wr (Value.slice I k c).ownBlock p)/\Below w.heap.size w wr) (fun _ i _=>n-(intOf i).toNat)
 case atStart=>exact⟨0,[],none,0,aG3 _,by omega,rfl,rfl,rfl,rfl,aHc _ _ _ _,nofun,aGj _ _⟩
 case round =>
  obtain⟨k,M,I,c,hk,aY,rfl,hM,bJ,rfl,a2,bH,bG⟩:=hrel;have HM:=hid hM;have Z:=hid a2;have a7:=hid bH;have a9:=hid bJ;have d:=hid bG;have a8:=hid (bO a2);clear hM bJ a2 bH bG
  by_cases hlt:k<n/\k<8
  ·obtain⟨hlt,cJ⟩:=hlt;have t1:(k:Int)<(n:Int):=by omega
   have t2:(k:Int)<8:=by omega
   obtain⟨p,F⟩:=aE (k:=k) Hn.out hlt;have aZ:=aGh F;have HT:=hid (bQ.out k p F);obtain⟨b,off,rfl,hb,hc⟩:=DW Hs.out.row F;have b3:=Hs.out.fits p aZ;have a1:=bU.out p aZ;obtain⟨⟨nm,rate,lp,f,t,a,len,cp⟩,s⟩:=p;obtain⟨⟨V,e2,e3,e4,e5,e6⟩,h2,h3,vs,h4,h5⟩:=b3;simp only[aFR.cells]at hc h2 h3 h4 h5 V e2 e3 e4 e5 e6 a1;have U:=hid (fun W (hW:Below w.heap.size w W) j v (hv:([.string nm,.int .i64 rate,.bool lp,.int .i64 f,.int .i64 t,.slice a len cp]:List Value)[j]? = some v)=>(hW.cell (p:=⟨b,off+k*6+j,none⟩) hb).trans (hc j v hv));have c0:=U.out _ d.out 0 _ rfl;have c1:=U.out _ d.out 1 _ rfl;have c2:=U.out _ d.out 2 _ rfl;have c3:=U.out _ d.out 3 _ rfl;have c4:=U.out _ d.out 4 _ rfl;have c5:=U.out _ d.out 5 _ rfl;rw[Nat.add_zero]at c0;have HQ:=hid (show Calls prog 97 #[.agg #[.string nm,.int .i64 rate,.bool lp,.int .i64 f,.int .i64 t,.slice a len cp]] wr (PZ wr w.heap.size (tB nm) rate lp f t (yC s.rows)) by
    have:=aFa nm rate lp f t a cp vs s.rows wr (by rw[V];exact a1) w.heap.size d.out.size (h4.below d.out) (h5.below d.out);rw[<-e6]at this;exact this)
   have bV:=hid (show (⟨tB nm,rate,lp,f,t,yC s.rows⟩:aFM)=FT s from by
    unfold FT;rw[<-V,<-e2,<-e3,<-e4,<-e5])
   generalize FT s=z at *
   generalize tB nm=J at *
   generalize yC s.rows=aG at *
   clear hc F aZ h4 h5 h2 h3 V e2 e3 e4 e5 e6 a1;go_wp2_with fail
   refine HQ.out.mono ?_;rintro e O ⟨a',aB,cG,rfl,g3,g4,g6,g7,g8,aF⟩;have cD:=cU Z.out aF;have bR:=hid (aC d.out aF);have b7:=aGE d.out.size aF.size;have bS:=hid (fun p F=>(a7.out p F).below d.out.size aF);have HG:=hid (show Stands w.heap.size O (Value.slice I k c).ownBlock (aFR.mk J rate lp f t a' aG.length aB,aFM.mk J rate lp f t aG) from
    ⟨⟨rfl,rfl,rfl,rfl,rfl,rfl⟩,g3,g4,⟨cG,g6,g8⟩,fun ad had b4=>⟨fun he=>by have:=g7 ad had;have:=yU Z.out _ he;omega,aEV g6 g8.1 b4 had⟩⟩)
   generalize aG.length=R' at *
   clear c0 c1 c2 c3 c4 c5 g3 g4 g6 g8 aF HQ;go_wp2_with (at_builtin;refine cF _ rfl (.tmp 15) (.tmp 21) 22 rfl w.heap.size 119 i0 _ 6 72 underlying22 hi b9 cA cB rfl (by omega) _ k (fK M) rfl (cD.alloc _) (O.heap.size+1) (some ⟨O.heap.size,0,none⟩) 1 1 [.string J,.int .i64 rate,.bool lp,.int .i64 f,.int .i64 t,.slice a' R' aB] rfl rfl (Row.new O _ _) (YB ⟨0,⟨J,rate,lp,f,t,a',R',aB⟩,default⟩) (by omega) (by omega) (by simp;omega) ?_;intro A2 cc w2 b5 bI b1 cI)
   go_roundw
   case rel =>
    have b2:Below w.heap.size w w2:=((bR.out).alloc (by omega) _).grown bI (by simp;omega) (fun g h=>a8.out g h);have b6:(Value.slice A2 (k+1) cc).ownBlock=(Value.slice I k c).ownBlock\/(Value.slice A2 (k+1) cc).ownBlock=some (O.alloc (.cells #[.string J,.int .i64 rate,.bool lp,.int .i64 f,.int .i64 t,.slice a' R' aB] 119)).heap.size:=b1;have bM:∀ p,Stands w.heap.size O (Value.slice I k c).ownBlock p->Stands w.heap.size w2 (Value.slice A2 (k+1) cc).ownBlock p:=fun p F=>(F.below b7 (aP O _)).grown (by simp;omega) bI (fun g h=>a8.out g h) b6
    refine⟨k+1,M++[(aFR.mk J rate lp f t a' R' aB,aFM.mk J rate lp f t aG)],A2,cc,by omega,by omega,by go_num,by simp[HM.out],?_,rfl,?_,?_,b2⟩
    ·rw[aG2,a9.out,HT.out];show _++[aFM.mk J rate lp f t aG]=_;rw[bV.out]
    ·rw[GG];exact b5
    ·intro p F;rcases aGJ.1 F with h|h
     ·exact bM p (bS.out p h)
     ·rw[aGx]at h;subst h;exact bM _ HG.out
   case measure=>simp[intOf];omega
  ·have G:k=n\/k=8:=by omega
   obtain⟨A3,c3,he,h1,h2⟩:=jK Z.out;injection he with V _ e3
   subst V e3;have aK:=hid (show J5 w (sF (L.map Prod.snd)) (.returned (.slice I k c)) wr from ⟨I,c,M,by rw[HM.out],by rw[a9.out];exact a6.out k ⟨aY,G⟩,by rw[HM.out];exact h1,gK Z.out,fun h=>(h2 h).2,⟨Row.of_own Z.out,fun p F=>(a7.out p F).fits d.out.size⟩,d.out⟩);rcases G with G|G
   ·have t1:¬ ((k:Int)<(n:Int)):=by omega
    have HK:=hid G;clear h1 h2 G hlt;go_wp2
    go_ret
    exact aK.out
   ·have t2:¬ ((k:Int)<8):=by omega
    by_cases h3:k<n
    ·have t1:(k:Int)<(n:Int):=by omega
     have HK:=hid G;clear h1 h2 G hlt aY;go_wp2
     go_ret
     exact aK.out
    ·have t1:¬ ((k:Int)<(n:Int)):=by omega
     have HK:=hid G;clear h1 h2 G hlt aY;go_wp2
     go_ret
     exact aK.out
theorem RV(L:List aFM):∀ s∈sF L,s.small:=by
 intro s d;unfold sF at d;obtain⟨x,_,rfl⟩:=aGq.1 d;exact⟨WV _,aC1 _,aC2 _⟩
end
section
open Go.RowKit Go.Lib Go.Sort
def aFM.check(s:aFM):Int:=j2 s.name s.rate s.lp s.f s.t s.rows
def iM:List aFM->Int
 | []=>0
 | s::r=>if s.check≠0 then s.check else iM r
theorem RY{d:List aFM}{k:Nat}{s:aFM}(h:d[k]? = some s)(t:(d.take k).all (fun s=>decide (s.check=0))=true)(z:s.check≠0):iM d=s.check:=by
 induction d generalizing k with
 | nil=>simp at h
 | cons x r G =>
  cases k with
  | zero =>
   simp at h;subst h;unfold iM;rw[FN z]
  | succ k =>
   simp at h t;unfold iM;rw[sL (by simp[t.1])];exact G h (by rw[aGD];intro y F;simp;exact t.2 y F)
theorem JS{d:List aFM}(h:d.all (fun s=>decide (s.check=0))=true):iM d=0:=by
 induction d with
 | nil=>rfl
 | cons x r z =>
  simp at h;unfold iM;rw[sL (by simp[h.1])];exact z (by rw[aGD];intro y t;simp;exact h.2 y t)
def sX(l:List (List UInt8))(m:Nat):Bool:=(List.range m).any fun i=>decide (l[i+1]? = l[i]?)
def gX(d:List aFM):List (List UInt8):=(d.map (·.name.data.toList)).mergeSort fun x y=>decide (x<=y)
def WY(d:List aFM):Bool:=sX (gX d) (d.length-1)
def dM(d:List aFM):Int:=if 64<d.length then 6 else if iM d≠0 then iM d else if WY d=true then 11 else 0
theorem sO(d:List aFM):(gX d).length=d.length:=by unfold gX;simp
theorem aEX(s:ByteArray):Value.string s=encStr s.data.toList:=by
 show Value.string s=Value.string ⟨s.data.toList.toArray⟩;rw[Array.toArray_toList]
theorem ZN{a b:ByteArray}(h:a.toList=b.toList):a=b:=by
 rw[aIa,aIa]at h;exact E0 h
theorem TU(d:List aFM):(d.map fun s=>Value.string s.name)=(d.map fun s=>s.name.data.toList).map encStr:=by
 rw[aHj];exact aGZ fun s _=>aEX s.name
theorem aEI:(prog.info? 9).map (fun i=>(i.zero,i.size,i.bytes))=some (some (.string ⟨#[]⟩),1,16):=by kernel_rfl
theorem XZ{w:World}{B:Nat}{e:TypeId}{A:Option Addr}{n c:Nat}{xs:List (List UInt8)}(hn:0<n)(hx:xs.length=n)(h:w.ownsRow B e 1 (.slice A n c) n (xs.map encStr)):
  ∃ g,A=some ⟨g,0,none⟩/\B<=g/\g<w.heap.size/\Holds encStr w g 0 xs.toArray:=by
 rcases h.2 with ⟨_,h2⟩|⟨g,cap,t,h1,O,d,aB,_,Z,I⟩
 ·omega
 ·injection h1 with G V W
  refine⟨g,G,O,?_,fun j U=>?_⟩
  ·rcases aGt g w.heap.size with h|h
   ·exact h
   ·rw[aHl h]at d;cases d
  ·have F:j<xs.length:=by simpa using U
   have J:t[j]? = some (encStr xs[j]):=by
    have z:(t.toList.take (n*1))[j]? = (xs.map encStr)[j]?:=by rw[I]
    rw[aIG (by omega),aF5,TT F]at z;simpa using z
   rw[aI1,aH2 xs j F];refine⟨?_,?_⟩
   ·rw[aGn];simp only[World.cell?,d];simpa using J
   ·simp[World.frozen?,d]
theorem ZJ(w:World)(g n:Nat)(xs:List (List UInt8))(os:Array Obj)(B:Nat)(d:B<=g)(h:g<w.heap.size):Go.RowKit.Below B w (grow (putRow encStr (Sort.ahead w n) g 0 xs.toArray) os):=by
 have h1:Go.RowKit.Below B w (putRow encStr (Sort.ahead w n) g 0 xs.toArray):=by
  refine⟨rfl,rfl,rfl,?_,fun k hk=>?_⟩
  ·unfold putRow mapBlock Sort.ahead;simp
  ·unfold putRow mapBlock Sort.ahead;simp only[aIP];rw[sL (by omega)]
 refine h1.trans (GF _ os B ?_);have:(putRow encStr (Sort.ahead w n) g 0 xs.toArray).heap.size=w.heap.size:=by unfold putRow mapBlock Sort.ahead;simp
 omega
theorem WC(l:List (List UInt8))(m:Nat):sX l (m+1)=(sX l m||decide (l[m+1]? = l[m]?)):=by
 unfold sX;rw[aH0,List.any_append];simp
theorem WB(l:List (List UInt8)){m n:Nat}(h:m<=n)(ht:sX l m=true):sX l n=true:=by
 unfold sX at *
 rw[aIp]at *
 obtain⟨x,t,d⟩:=ht;exact⟨x,aGA.2 (by have:=aGA.1 t;omega),d⟩
theorem xL(L:List (aFR × aFM))(A:Option Addr)(cap:Nat)(w:World)(hl:L.length<=1000000)(hs:aFX w w.heap.size A L):
  Calls prog 92 #[.slice A L.length cap] w fun e w'=>e=.returned (.int .i64 (dM (L.map (·.2))))/\Below w.heap.size w w':=by
 obtain⟨i0,hi,dD,dE,dF⟩:=aHx aEI;obtain⟨n,aX⟩:∃ n,L.length=n:=⟨_,rfl⟩;obtain⟨Z,hZ⟩:∃ Z,dM (L.map (·.2))=Z:=⟨_,rfl⟩;rw[hZ];have Hn:=hid aX;have Hs:=hid hs;have HZ:=hid hZ;have V:=hid (show (L.map (·.2)).length=n by rw[aF7];exact aX);rw[aX]at hl ⊢;clear aX hs hZ
 by_cases cW:64<n
 ·have t1:(64:Int)<(n:Int):=by omega
  have J:=hid (show Z=6 by rw[<-HZ.out];unfold dM;rw[FN (by rw[V.out];exact cW)]);go_enter func92,ntmps92;go_wp2
  go_ret
  exact⟨cL J.out.symm,aGj _ _⟩
 ·have t0:¬ (64:Int)<(n:Int):=by omega
  have dS:decide ((64:Int)<(n:Int))=false:=aGm t0;go_enter func92,ntmps92;go_wp2;go_loopw [3,13] (fun o i wr=>∃ (k:Nat) (A':Option Addr) (c:Nat),k<=n/\i=.int .i64 k/\((L.map (·.2)).take k).all (fun s=>decide (s.check=0))=true/\o=.slice A' k c /\
    wr.ownsRow w.heap.size 9 1 (.slice A' k c) k (((L.map (·.2)).take k).map fun (s:aFM)=>Value.string s.name)/\Below w.heap.size w wr) (fun _ i _=>n-(intOf i).toNat)
  case atStart=>exact⟨0,none,0,aG3 _,rfl,rfl,rfl,aHc _ _ _ _,aGj _ _⟩
  case round =>
   obtain⟨k,A',c,hk,rfl,cB,rfl,bG,b6⟩:=hrel;have a1:=hid cB;have bV:=hid bG;have d:=hid b6;have cI:=hid (bO bG);clear cB bG b6
   by_cases hlt:k<n
   ·have t1:(k:Int)<(n:Int):=by omega
    obtain⟨p,hp⟩:=aE (k:=k) Hn.out hlt;have cA:=aGh hp;have bH:(L.map (·.2))[k]? = some p.2:=by rw[aF5,hp];rfl
    obtain⟨b,off,rfl,hb,hc⟩:=DW Hs.out.row hp;have c6:=(Hs.out.fits p cA).below d.out;obtain⟨⟨nm,rate,lp,f,t,a,len,cp⟩,s⟩:=p;obtain⟨⟨e1,e2,e3,e4,e5,e6⟩,h2,h3,vs,h4,h5⟩:=c6;simp only[aFR.cells]at hc h2 h3 h4 h5 e1 e2 e3 e4 e5 e6 bH;have c0:=(d.out.cell (p:=⟨b,off+k*6+0,none⟩) hb).trans (hc 0 _ rfl);have c1:=(d.out.cell (p:=⟨b,off+k*6+1,none⟩) hb).trans (hc 1 _ rfl);have c2:=(d.out.cell (p:=⟨b,off+k*6+2,none⟩) hb).trans (hc 2 _ rfl);have c3:=(d.out.cell (p:=⟨b,off+k*6+3,none⟩) hb).trans (hc 3 _ rfl);have c4:=(d.out.cell (p:=⟨b,off+k*6+4,none⟩) hb).trans (hc 4 _ rfl);have c5:=(d.out.cell (p:=⟨b,off+k*6+5,none⟩) hb).trans (hc 5 _ rfl);rw[Nat.add_zero]at c0;have HQ:=hid (fun W (hW:Below wr.heap.size wr W)=>show Calls prog 137 #[.agg #[.string nm,.int .i64 rate,.bool lp,.int .i64 f,.int .i64 t,.slice a len cp]] W (fun e w'=>e=.returned (.int .i64 s.check)/\Below W.heap.size W w') by
     have b4:=d.out.trans (hW.mono d.out.size);have cT:Row wr w.heap.size a vs:=h4;have cV:RowsAt wr w.heap.size vs s.rows:=h5;have:=aAF nm rate lp f t a cp vs s.rows W ((cT.below (hW.mono d.out.size)).more b4.size) ((cV.below (hW.mono d.out.size)).more b4.size) (by omega);rw[<-e6]at this;have ez:s.check=j2 nm rate lp f t s.rows:=by unfold aFM.check;rw[e1,e2,e3,e4,e5]
     rw[ez];exact this)
    have cK:=hid e1;have aT:=hid bH;obtain⟨z,hz⟩:∃ z,s.check=z:=⟨_,rfl⟩;rw[hz]at HQ;have Hz:=hid hz;clear hc hp cA h4 h5 h2 h3 e1 e2 e3 e4 e5 e6 bH hz
    by_cases aK:z=0
    ·subst aK;go_wp2_with fail
     refine (HQ.out _ (aP _ _)).mono ?_;rintro e G ⟨rfl,O⟩;have dO:=O.cell (p:=⟨wr.heap.size,0,none⟩) (by simp);have dH:=cU (bV.out.alloc _) O;have bP:=hid (d.out.trans (((aP wr _).trans (O.mono (by simp))).mono d.out.size));have dR:w.heap.size<=G.heap.size:=bP.out.size;clear c0 c1 c2 c3 c4 c5 O;go_wp2_with (at_builtin;refine cF _ rfl (.tmp 22) (.tmp 25) 241 rfl w.heap.size 9 i0 _ 1 16 underlying241 hi dD dE dF rfl (by omega) _ k _ rfl (dH.alloc _) (G.heap.size+1) (some ⟨G.heap.size,0,none⟩) 1 1 [.string nm] rfl rfl (Row.new G _ _) (by intro u hu;simp at hu;subst hu;rfl) (by omega) (by omega) (by simp;omega) ?_;intro A2 cc w2 aB c7 dP dQ)
     go_roundw
     case rel =>
      have cY:Below w.heap.size w w2:=(bP.out.alloc (by omega) _).grown c7 (by simp;omega) (fun g h=>cI.out g h);refine⟨k+1,A2,cc,by omega,by go_num,by rw[gC _ aT.out,a1.out,Hz.out];rfl,rfl,?_,cY⟩;have c9:=(aGi.1 aT.out).1;rw[aHG c9,aG2,(aGi.1 aT.out).2];simp only[aHF,aIH];rw[<-cK.out];exact aB
     case measure=>simp[intOf];omega
    ·have t2:(z != 0)=true:=by rw[aHk];exact aK
     have t3:(z == 0)=false:=aG8.2 aK;have bX:=hid aK;clear aK;have J:=hid (show Z=z by
      rw[<-HZ.out];have cZ:=RY aT.out a1.out (by rw[Hz.out];exact bX.out);unfold dM;rw[sL (by rw[V.out];omega),cZ,Hz.out,FN bX.out])
     go_wp2_with fail
     refine (HQ.out _ (aP _ _)).mono ?_;rintro e G ⟨rfl,O⟩;go_wp2_with fail
     go_ret
     exact⟨cL J.out.symm,d.out.trans (((aP wr _).trans (O.mono (by simp))).mono d.out.size)⟩
   ·obtain rfl:k=n:=by omega
    have hall:=gY (fun s:aFM=>decide (s.check=0)) (by rw[V.out];omega) a1.out;have aF:=HZ.out;unfold dM at aF;rw[sL (by rw[V.out];omega),JS hall,sL (by simp)]at aF;have aB:=bV.out;rw[aGW (by rw[V.out];omega)]at aB;have b8:=TU (L.map (·.2));rw[b8]at aB;have aG:((L.map (·.2)).map (fun s:aFM=>s.name.data.toList)).length=k:=by rw[aF7];exact V.out
    have bI:(((L.map (·.2)).map (fun s:aFM=>s.name.data.toList)).mergeSort fun x y=>decide (x<=y))=gX (L.map (·.2)):=rfl;have bJ:=sO (L.map (·.2));rw[V.out]at bJ;unfold WY at aF;rw[V.out]at aF;generalize gX (L.map (·.2))=F at *
    have aV:=hid bJ;have a0:=hid aF;clear hall b8 bJ aF HZ
    by_cases c8:k=0
    ·subst c8;have t2:¬ ((1:Int)<0):=by omega
     have J:=hid (show Z=0 by rw[<-a0.out];rfl);clear aB aG bI;go_wp2_with fail
     refine (qM A' c wr).mono ?_;rintro e w' ⟨rfl,rfl⟩;go_wp2_with fail
     refine aHD 1 ?_;rw[rounds_succ];go_wp2_with fail
     go_ret
     exact⟨cL J.out.symm,d.out⟩
    ·obtain⟨g,hA,cX,hg,hH⟩:=XZ (by omega) aG aB;subst hA;have hQ:=xC g 0 c _ wr hH hg (by rw[aG];omega);rw[aG,bI]at hQ;have HQ:=hid hQ;have bR:=hid (fun I os=>ZJ wr g I F os w.heap.size cX hg);have bS:=hid (fun I os=>holds_grow encStr _ os g 0 F.toArray (by unfold putRow mapBlock Sort.ahead;simp;exact hg) (holds_putRow encStr (Sort.ahead wr I) g 0 _ F.toArray (show Holds encStr (Sort.ahead wr I) g 0 ((L.map (·.2)).map (fun s:aFM=>s.name.data.toList)).toArray from hH) (by rw[aGH,aGH,aV.out,aG])));clear aB aG bI hQ hH;go_wp2_with fail
     refine HQ.out.mono ?_;rintro e G ⟨rfl,I,os,rfl⟩;have O:=bR.out I os;have b3:=bS.out I os;have b9:g<(grow (putRow encStr (Sort.ahead wr I) g 0 F.toArray) os).heap.size:=by
      have h:(putRow encStr (Sort.ahead wr I) g 0 F.toArray).heap.size=wr.heap.size:=by unfold putRow mapBlock Sort.ahead;simp
      simp[h];omega
     generalize grow (putRow encStr (Sort.ahead wr I) g 0 F.toArray) os=G at *
     have aR:=hid (d.out.trans O);have bQ:=hid b3;have aS:=hid b9;clear O b3 b9 bR bS HQ;go_wp2_with fail
     go_loopw [7] (fun i wq=>∃ m:Nat,m+1<=k/\i=.int .i64 ((m:Int)+1)/\sX F m=false/\Below G.heap.size G wq) (fun i _=>k-(intOf i).toNat)
     case atStart=>exact⟨0,by omega,rfl,rfl,aGj _ _⟩
     case round =>
      obtain⟨m,hm,rfl,b5,b7⟩:=hrel;have bU:=hid b5;have U:=hid b7;clear b5 b7
      by_cases dB:m+1<k
      ·have t2:(m:Int)+1<(k:Int):=by omega
       obtain⟨x,hx⟩:=aE (k:=m+1) aV.out dB;obtain⟨y,hy⟩:=aE (k:=m) aV.out (by omega);have dC:=aV.out;have cx:=(bQ.out (m+1) (by simp;omega)).1;have cy:=(bQ.out m (by simp;omega)).1;rw[aI1,aH2 F (m+1) (by omega),(aGi.1 hx).2,aGn]at cx;rw[aI1,aH2 F m (by omega),(aGi.1 hy).2,aGn]at cy;have b0:G.cell? ⟨g,m+1,none⟩=some (.string ⟨x.toArray⟩):=cx;have b1:G.cell? ⟨g,m,none⟩=some (.string ⟨y.toArray⟩):=cy;have HS:=hid (show sX F (m+1)=decide (x=y) by rw[WC,bU.out,hx,hy];simp);have aM:=hid (show ((⟨x.toArray⟩:ByteArray)=⟨y.toArray⟩) ↔ x=y from ⟨fun h=>by injection h with h;exact List.toArray_inj h,fun h=>by rw[h]⟩);have cE:=fun (z:GW wr)=>(z.2.cell (p:=⟨g,m+1,none⟩) (aGM aS.out U.out.size)).trans ((U.out.cell (p:=⟨g,m+1,none⟩) aS.out).trans b0)
       have cG:=fun (z:GW wr)=>(z.2.cell (p:=⟨g,m,none⟩) (aGM aS.out U.out.size)).trans ((U.out.cell (p:=⟨g,m,none⟩) aS.out).trans b1)
       generalize (⟨x.toArray⟩:ByteArray)=X at *
       generalize (⟨y.toArray⟩:ByteArray)=Y at *
       clear cx cy b0 b1 hx hy dC
       by_cases aJ:X=Y
       ·have aN:=hid (aM.out.1 aJ);subst aJ;have J:=hid (show Z=11 by
         rw[<-a0.out,FN];exact WB F (show m+1<=k-1 by omega) (by rw[HS.out];exact aGs aN.out))
        clear aM aN;go_wp2;refine aU (by kernel_rfl) (by kernel_rfl) ?_
        repeat (go_big_quiet_step (fail))
        refine aGv ?_;intro w5 aI;have aH:=aQ aI;have aZ:=hid (aR.out.trans ((U.out.trans (aH.mono U.out.size)).mono aR.out.size));clear aI aH cE cG;go_wp2
        go_ret
        exact⟨cL J.out.symm,aZ.out⟩
       ·have t3:(X.toList == Y.toList)=false:=aG8.2 (fun h=>aJ (ZN h));have aN:=hid (fun h=>aJ (aM.out.2 h));clear aM aJ;go_wp2;refine aU (by kernel_rfl) (by kernel_rfl) ?_
        repeat (go_big_quiet_step (fail))
        refine aGv ?_;intro w5 aI;have aH:=aQ aI;have aZ:=hid (aC U.out aH);clear aI aH cE cG;go_wp2;go_roundw
        case rel=>exact⟨m+1,by omega,by go_num,by rw[HS.out];exact aGm aN.out,aZ.out⟩
        case measure=>simp[intOf];omega
      ·have t2:¬ ((m:Int)+1<(k:Int)):=by omega
       have J:=hid (show Z=0 by
        rw[<-a0.out,sL];rw[show k-1=m by omega,bU.out];simp)
       go_wp2
       go_ret
       exact⟨cL J.out.symm,aR.out.trans (U.out.mono aR.out.size)⟩
end
def dZ(n:Int):Int:=if n<1 then 0 else (n-1) / 16+1
def upZ(n b:Int):Int:=(n+b-1) / b*b
theorem vS(n:Int)(w:World)(h:n<=1000000000000):Calls prog 61 #[.int .i64 n] w fun e w'=>e=.returned (.int .i64 (dZ n))/\w=w':=by
 go_enter func61,ntmps61;go_wp2
 all_goals
  go_ret
  exact⟨cL (by unfold dZ;split <;> omega),rfl⟩
theorem mN(n:Int)(w:World)(d:0<=n)(h:n<=1000000000000):Calls prog 98 #[.int .i64 n] w fun e w'=>e=.returned (.int .i64 (16+n*64+4))/\w=w':=by
 go_enter func98,ntmps98;go_wp2
 go_ret
 exact⟨rfl,rfl⟩
theorem KQ{d:List aFM}(h:dM d=0):∀ s∈d,s.check=0:=by
 unfold dM at h;split at h
 ·cases h
 ·split at h
  ·rename_i h1;exact absurd h h1
  ·rename_i h1
   have hf:iM d=0:=by simpa using h1
   clear h h1
   induction d with
   | nil=>nofun
   | cons x r F =>
    unfold iM at hf;split at hf
    ·rename_i h2;exact absurd hf h2
    ·rename_i h2
     intro s t;rcases aGw.1 t with rfl|t
     ·simpa using h2
     ·exact F (by rename_i z _;simp at z ⊢;omega) hf s t
abbrev OX:Ty:=.pair (.str) 1 (.pair (.int .i64) 1 (.pair (.bool) 1 (.pair (.int .i64) 1 (.pair (.int .i64) 1 (.pair (.slice 1 (.slice 1 (.int .i64))) 1 (.unit))))))
def EL(p:aFR × aFM):Prop:=p.2.name.size<=9223372036854775807
theorem ZB{w:World}{d:List Value}(h:jY w OX d):∃ p:aFR × aFM,d=p.1.cells/\p.1.fits w w.heap.size p.2/\EL p:=by
 obtain⟨J,r1,rfl,⟨nm,rfl,I⟩,O,r2,rfl,⟨rate,rfl,_,_⟩,U,r3,rfl,⟨lp,rfl⟩,V,r4,rfl,⟨f,rfl,_,_⟩,W,r5,rfl,⟨t,rfl,_,_⟩,Z,r6,rfl,G,rfl⟩:=h;obtain⟨a,cap,vs,rows,rfl,h1,h2,z,F,_⟩:=OK G;exact⟨(⟨nm,rate,lp,f,t,a,rows.length,cap⟩,⟨nm,rate,lp,f,t,rows⟩),rfl,⟨⟨rfl,rfl,rfl,rfl,rfl,rfl⟩,h1,h2,vs,z,F⟩,I⟩
theorem UL{w:World}:∀ (t:List (List Value)),(∀ cs∈t,jY w OX cs)->∃ L:List (aFR × aFM),t=L.map (fun p=>p.1.cells)/\(∀ p∈L,p.1.fits w w.heap.size p.2)/\∀ p∈L,EL p
 | [],_=>⟨[],rfl,nofun,nofun⟩
 | cs::r,h=>by
  obtain⟨p,rfl,h1,h2⟩:=ZB (h cs (by simp));obtain⟨L,rfl,z,F⟩:=UL r (fun c G=>h c (by simp[G]));refine⟨p::L,rfl,fun q d=>?_,fun q d=>?_⟩
  ·rcases aGw.1 d with rfl|d
   ·exact h1
   ·exact z q d
  ·rcases aGw.1 d with rfl|d
   ·exact h2
   ·exact F q d
theorem aBV{w:World}{v:Value}(h:Arg w (.slice 6 OX) v):
  ∃ (L:List (aFR × aFM)) (A:Option Addr) (cap:Nat),v=.slice A L.length cap/\L.length<=cap/\cap<=9223372036854775807/\(A=none->cap=0)/\aFX w w.heap.size A L/\∀ p∈L,EL p:=by
 obtain⟨a,len,cap,d,h1,h2,F,G⟩:=h;obtain⟨z,t,_,O,J⟩:=pH G;obtain⟨L,rfl,hf,I⟩:=UL z O;rw[aF7]at t;injection d with d
 subst d t;exact⟨L,a,cap,rfl,h1,h2,fun ha=>(F ha).2,⟨J,hf⟩,I⟩
/-! One sample of one channel. -/
def aBC(nm:ByteArray)(g:Nat):aFR:=⟨nm,1,false,0,0,some ⟨g,0,none⟩,1,1⟩
def aBD(nm:ByteArray)(xs:List Int):aFM:=⟨nm,1,false,0,0,[xs]⟩
theorem aBE(nm:ByteArray)(xs:List Int)(h:(aBD nm xs).check=0):dM [aBD nm xs]=0:=by
 unfold dM iM iM WY sX;simp[h]
theorem aDJ(s:aFM):cV [s]=[s]:=List.perm_singleton.1 (oI [s])
theorem XF{s:aFM}(h:s.small):FT s=s:=by
 obtain⟨h1,h2,d⟩:=h;obtain⟨nm,rate,lp,f,t,rows⟩:=s;simp only at h1 h2 d;unfold FT tB yC;rw[sL (by simp only;omega)];simp only;rw[aGW h2,show rows.map (List.take 150)=rows from (aGZ (g:=fun r=>r) (fun r z=>aGW (d r z))).trans (List.map_id' rows)]
theorem aC3{L:List aFM}(d:L.length<=8)(h:∀ s∈L,s.small):sF L=L:=by
 unfold sF;rw[aGW d];exact (aGZ (g:=fun s=>s) (fun s t=>XF (h s t))).trans (List.map_id' L)
end Go.Proofs.YtbpgfkjhclpbdaaGreatDoor
