/- ToneJ, FitP, FitQ, LapP, QuantA, QuantB, QuantC. Conditions: as each theorem states. -/
import Derived.Deep.WholeRow
import Derived.Test.YtbpgfkjhclpbdaaGreatDoorPw12
set_option maxRecDepth 100000
set_option maxHeartbeats 4000000
namespace Go.Proofs.YtbpgfkjhclpbdaaGreatDoor
abbrev aGT:=@Go.World.setRow_alloc_new
open Tryz
open Go.Lib (hid)
section
open Go.RowKit
theorem jS(b:List Int)(k i:Nat)(v:Int)(hk:k<b.length):bgt (b.set k v) i=if k=i then v else bgt b i:=by
 unfold bgt;rw[aGz,aGz,aHu];split
 ·rename_i h;subst h;simp
 ·rfl
theorem ID(d:List Int)(i:Nat):∀ (t:List Nat) (b:List Int),b.length=16->t.Nodup->(∀ k∈t,k<16)->bgt (dH b (t.map (lR d))) i=if i∈t then bgt b i-bgt d i else bgt b i
 | [],b,_,_,_=>by simp[dH]
 | k::r,b,hb,hn,hk=>by
  rw[List.nodup_cons]at hn;have F:=hk k (by simp);have e:dH b ((k::r).map (lR d))=dH (b.set k (bgt b k-bgt d k)) (r.map (lR d)):=by
   unfold dH;rw[aHF,List.foldl_cons]
   congr 1
   unfold nL lR;simp only;rw[FN (by omega),Int.toNat_natCast]
  rw[e,ID d i r _ (by simp[hb]) hn.2 (fun x z=>hk x (by simp[z])),jS _ _ _ _ (by omega)]
  by_cases h:k=i
  ·subst h;simp[hn.1]
  ·have:i≠k:=fun e=>h e.symm
   simp[h,this]
def aFh(b:List Int):List Nat:=(List.range 16).filter (aFz b)
theorem pS(b:List Int):nX b=(aFh b).map (lR b):=rfl
theorem GJ(b:List Int):(aFh b).Nodup:=List.nodup_range.filter _
theorem DR(b:List Int):∀ k∈aFh b,k<16:=fun _ hk=>aGA.1 (aII.1 hk).1
theorem aC7{b:List Int}(z:BigB b)(hb:b.length=16):∀ t∈nX b,t.big:=by
 intro t ht;rw[pS]at ht;obtain⟨k,hk,rfl⟩:=aGq.1 ht;have h:=DR b k hk;obtain⟨x,d⟩:=aE hb h;have:=z k x d;unfold aFP.big lR;simp only;rw[aD d];omega
theorem aES{b:List Int}(t:BigB b)(hb:b.length=16)(m:Nat):BigB (dH b ((nX b).take m)):=by
 intro i x d;have hi:i<16:=by
  have h1:=(aGi.1 d).1;rw[tO,hb]at h1;exact h1
 have h1:=aD d;rw[pS,<-List.map_take,ID b i _ b hb ((GJ b).sublist (List.take_sublist _ _)) (fun _ hk=>DR b _ (aIJ hk))]at h1;obtain⟨y,h⟩:=aE hb hi;have h2:=t i y h;rw[aD h]at h1;split at h1 <;> omega
end
structure aFJ where
 gains:List Int
 tones:List aFP
 scale:List Int
 width:List Int
 q:List Int
def dL:List Int:=[0,0,0,0]
def gU:List Int:=[0,0,0,0,0,0,0,0,0,0,0,0,0,0,0,0]
def jU(s:List Int):Bool:=s.all fun x=>decide (0<=x)&&decide (x<=23)
def cM(b s:List Int)(m:Nat):List Int:=(List.range 16).map fun k=>if k<m then jI (bgt b k) (bgt s (k / 4)).toNat else bgt b k
def fC(b s:List Int):List Int:=if jU s=true then cM b s 16 else gU
def bN(q s:List Int)(m:Nat):List Int:=(List.range 16).map fun k=>if k<m then bgt q k*2 ^ (bgt s (k / 4)).toNat else bgt q k
def jD(q s:List Int):List Int:=if jU s=true then bN q s 16 else gU
def iG(q:List Int)(m:Nat)(i:Nat):Nat:=(List.range m).foldl (fun w k=>if k / 4=i then max w (cG (bgt q k)) else w) 0
def f9(q:List Int)(m:Nat):List Int:=(List.range 4).map fun i=>(iG q m i:Int)
def kG(q:List Int):List Int:=f9 q 16
theorem lV(q:List Int)(m i:Nat):iG q (m+1) i=if m / 4=i then max (iG q m i) (cG (bgt q m)) else iG q m i:=by
 unfold iG;rw[aH0,aHt];rfl
theorem aI{α:Type}(f:Nat->α){n k:Nat}(h:k<n):((List.range n).map f)[k]? = some (f k):=by
 rw[aF5,aHa h];rfl
theorem cK{α:Type}(f g:Nat->α){n k:Nat}{x:α}(hk:k<n)(h1:g k=x)(h2:∀ i,i≠k->g i=f i):((List.range n).map f).set k x=(List.range n).map g:=by
 apply aGL;intro i;rw[aHu]
 by_cases h:k=i
 ·subst h;rw[FN rfl,FN (by simpa using hk),aI g hk,h1]
 ·rw[sL h,aF5,aF5];rcases aGt i n with hi|hi
  ·rw[aHa hi];simp[h2 i (fun e=>h e.symm)]
  ·rw[aGr (by simpa using hi)];rfl
theorem dV{b:List Int}{n:Nat}(hb:b.length=n):b=(List.range n).map fun k=>bgt b k:=by
 apply aGL;intro i;rw[aF5];rcases aGt i n with hi|hi
 ·obtain⟨x,d⟩:=aE hb hi;rw[aHa hi,d];simp[aD d]
 ·rw[aGr (by omega),aGr (by simpa using hi)];rfl
theorem PC{b:List Int}(s:List Int)(hb:b.length=16):cM b s 0=b:=by
 rw[dV hb];unfold cM;apply aGZ;intro k hk;have:=aGA.1 hk;rw[sL (by omega),<-dV hb]
theorem PB(b s:List Int){m:Nat}(hm:m<16):(cM b s m).set m (jI (bgt b m) (bgt s (m / 4)).toNat)=cM b s (m+1):=by
 refine cK _ (fun k=>if k<m+1 then jI (bgt b k) (bgt s (k / 4)).toNat else bgt b k) hm ?_ (fun i hi=>?_)
 ·rw[FN (by omega)]
 ·by_cases h:i<m
  ·rw[FN h,FN (by omega)]
  ·rw[sL h,sL (by omega)]
theorem vP{b:List Int}(s:List Int)(hb:b.length=16):bN b s 0=b:=by
 rw[dV hb];unfold bN;apply aGZ;intro k hk;have:=aGA.1 hk;rw[sL (by omega),<-dV hb]
theorem vO(b s:List Int){m:Nat}(hm:m<16):(bN b s m).set m (bgt b m*2 ^ (bgt s (m / 4)).toNat)=bN b s (m+1):=by
 refine cK _ (fun k=>if k<m+1 then bgt b k*2 ^ (bgt s (k / 4)).toNat else bgt b k) hm ?_ (fun i hi=>?_)
 ·rw[FN (by omega)]
 ·by_cases h:i<m
  ·rw[FN h,FN (by omega)]
  ·rw[sL h,sL (by omega)]
theorem kX(b s:List Int)(m:Nat):(cM b s m).length=16:=by simp[cM]
theorem lT(b s:List Int)(m:Nat):(bN b s m).length=16:=by simp[bN]
theorem iH(q:List Int)(m:Nat):(f9 q m).length=4:=by simp[f9]
theorem IV(b s:List Int):(fC b s).length=16:=by unfold fC;split <;> simp[cM,gU]
theorem DB(b s:List Int):(jD b s).length=16:=by unfold jD;split <;> simp[bN,gU]
theorem UX(b s:List Int){m k:Nat}(hk:k<16)(hm:m<=k){x:Int}(d:b[k]? = some x):(cM b s m)[k]? = some x:=by
 unfold cM;rw[aI _ hk,sL (by omega),aD d]
theorem zI(b s:List Int){m k:Nat}(hk:k<16)(hm:m<=k){x:Int}(d:b[k]? = some x):(bN b s m)[k]? = some x:=by
 unfold bN;rw[aI _ hk,sL (by omega),aD d]
theorem zJ(q:List Int)(m:Nat){i:Nat}(hi:i<4):(f9 q m)[i]? = some (iG q m i:Int):=aI _ hi
theorem J1(q:List Int)(m:Nat)(hm:m<16):(f9 q m).set (m / 4) (max (iG q m (m / 4)) (cG (bgt q m)):Nat)=f9 q (m+1):=by
 refine cK _ (fun i=>((iG q (m+1) i:Nat):Int)) (by omega) ?_ (fun i hi=>?_)
 ·rw[lV,FN rfl]
 ·rw[lV,sL (fun e=>hi e.symm)]
theorem xJ(q:List Int)(B:Nat)(h:∀ k,k<16->cG (bgt q k)<=B)(i:Nat):∀ m,m<=16->iG q m i<=B
 | 0,_=>aG3 _
 | m+1,hm=>by
  rw[lV];have h1:=xJ q B h i m (by omega);have h2:=h m (by omega);split <;> omega
theorem I8(q:List Int)(i:Nat):∀ m k,k<m->k / 4=i->cG (bgt q k)<=iG q m i
 | 0,_,h,_=>by omega
 | m+1,k,h,hk=>by
  rw[lV]
  by_cases d:k=m
  ·subst d;rw[FN hk];omega
  ·have:=I8 q i m k (by omega) hk;split <;> omega
def mY(b:List Int):List Int:=(List.range 4).map fun i=>(cG (dF ((b.drop (i*4)).take 4)):Int)
def cX(w s m:List Int):Nat->Int
 | 0=>-1
 | k+1=>let d:=cX w s m k
  if 0<bgt w k/\bgt s k<23/\(d<0\/bgt m d.toNat-bgt s d.toNat<bgt m k-bgt s k) then (k:Int) else d
theorem nQ(w s m:List Int):∀ k,-1<=cX w s m k/\cX w s m k<(k:Int)
 | 0=>by unfold cX;omega
 | k+1=>by
  have:=nQ w s m k;unfold cX;simp only;split <;> omega
theorem qC(w s m:List Int):∀ k,0<=cX w s m k->0<bgt w (cX w s m k).toNat/\bgt s (cX w s m k).toNat<23
 | 0,h=>by unfold cX at h;omega
 | k+1,h=>by
  unfold cX at h ⊢;simp only at h ⊢;split
  ·rename_i h1
   rw[Int.toNat_natCast];exact⟨h1.1,h1.2.1⟩
  ·rename_i h1
   rw[sL h1]at h;exact qC w s m k h
theorem CJ(w s m:List Int):∀ k,cX w s m k<0->∀ i,i<k->¬ (0<bgt w i/\bgt s i<23)
 | 0,_,i,hi=>by omega
 | k+1,h,i,hi=>by
  unfold cX at h;simp only at h;split at h
  ·omega
  ·rename_i h1
   by_cases d:i=k
   ·subst d;intro h2;exact h1 ⟨h2.1,h2.2,.inl h⟩
   ·exact CJ w s m k h i (by omega)
def dK(b g s:List Int)(l:List aFP):aFJ:=⟨g,l,s,kG (fC (dH b l) s),fC (dH b l) s⟩
def gH(f:aFJ):Int:=52+28*(f.tones.length:Int)+4*(bgt f.width 0+bgt f.width 1+bgt f.width 2+bgt f.width 3)
def UY(s:List Int):Int:=bgt s 0+bgt s 1+bgt s 2+bgt s 3
def eE(b g:List Int)(room:Int)(l:List aFP)(d:List Int):Nat->List Int->Nat->aFJ × Nat
 | 0,s,n=>(dK b g s l,n)
 | fuel+1,s,n =>
  let f:=dK b g s l
  let i:=cX f.width s d 4
  if gH f<=room\/i<0 then (f,n) else eE b g room l d fuel (s.set i.toNat (bgt s i.toNat+1)) (n+1)
def cQ(b:List Int)(tones:Bool):List aFP:=if tones=true then nX b else []
def kE(b g:List Int)(room:Int)(tones:Bool):aFJ × Nat:=eE b g room (cQ b tones) (mY (dH b (cQ b tones))) 92 dL 0
theorem KF:∀ (l:List aFP),(∀ t∈l,t.big)->∃ ts:List aFU,ts.map aFU.t=l
 | [],_=>⟨[],rfl⟩
 | t::r,h=>by
  obtain⟨ts,d⟩:=KF r (fun x z=>h x (by simp[z]));exact⟨⟨t,h t (by simp)⟩::ts,by simp[d]⟩
theorem XJ{b:List Int}(hb:b.length=16)(z:BigB b):(nX b).length<=2:=by
 obtain⟨ts,F⟩:=KF (jC b 16) (by
  intro t ht;unfold jC at ht;obtain⟨k,hk,rfl⟩:=aGq.1 ht;have h:=aGA.1 (aII.1 hk).1;obtain⟨x,d⟩:=aE hb h;have:=z k x d;unfold aFP.big lR;simp only;rw[aD d];omega)
 rw[<-zC b ts F,aF7,qO (ltOf lZ) zG,aGB];omega
theorem TV{v:Int}(h:0<=v)(p:Nat):0<=jI v p/\jI v p<=v:=by
 unfold jI;split
 ·omega
 ·rename_i I
  obtain⟨k,rfl⟩:∃ k,p=k+1:=⟨p-1,by omega⟩;have G:(0:Int)<2 ^ k:=aHP (by decide);have e:(2:Int) ^ (k+1)=2*2 ^ k:=by rw[aI0];omega
  rw[Int.tdiv_eq_ediv_of_nonneg h,Int.tmod_eq_emod_of_nonneg h,aIL,e];generalize (2:Int) ^ k=d at *
  have h1:=Int.mul_ediv_add_emod v (2*d);have h2:=aJI v (b:=2*d) (by omega);have z:=Int.emod_lt_of_pos v (b:=2*d) (by omega);have t:0<=v / (2*d):=Int.ediv_nonneg h (by omega);generalize v / (2*d)=q at *
  generalize v % (2*d)=r at *
  have F:2*q<=2*d*q:=aH7 (by omega) t;split
  ·omega
  ·split <;> omega
theorem aDz(v:Int)(p:Nat):jI (-v) p = -jI v p:=by
 unfold jI;split
 ·rfl
 ·have h:(0:Int)<2 ^ (p-1):=aHP (by decide);rw[Int.neg_tdiv,Int.neg_tmod];generalize (2:Int) ^ (p-1)=d at *
  generalize v.tdiv (2 ^ p)=q at *
  generalize v.tmod (2 ^ p)=r at *
  repeat' split
  all_goals omega
theorem OL{v B:Int}(h1:-B<=v)(h2:v<=B)(p:Nat):-B<=jI v p/\jI v p<=B:=by
 rcases aIg v 0 with h|h
 ·have:=TV (v:=-v) (by omega) p;rw[aDz]at this;omega
 ·have:=TV h p;omega
theorem aDA{v:Int}{p:Nat}(h1:-(2 ^ p)<v)(h2:v<2 ^ p)(d:p≠0):-1<=jI v p/\jI v p<=1:=by
 unfold jI;rw[sL d];have e:v.tdiv (2 ^ p)=0:=by
  rcases aIg v 0 with h|h
  ·have:(-v).tdiv (2 ^ p)=0:=aJ6 (by omega) (by omega);rw[Int.neg_tdiv]at this;omega
  ·exact aJ6 h h2
 rw[e]
 repeat' split
 all_goals omega
theorem aBe(b:List Int):(nX b).Pairwise fun x y=>x.idx<y.idx:=by
 rw[pS,aIu];refine ((MH 16).filter _).imp fun {a c} h=>?_
 show (a:Int)<(c:Int);omega
theorem pC(b s:List Int){m k:Nat}(hk:k<16):bgt (cM b s m) k=if k<m then jI (bgt b k) (bgt s (k / 4)).toNat else bgt b k:=aD (aI _ hk)
theorem rZ(b s:List Int){m k:Nat}(hk:k<16):bgt (bN b s m) k=if k<m then bgt b k*2 ^ (bgt s (k / 4)).toNat else bgt b k:=aD (aI _ hk)
theorem sB(q:List Int){i:Nat}(hi:i<4):bgt (kG q) i=(iG q 16 i:Int):=aD (zJ q 16 hi)
def ScB(s:List Int):Prop:=s.length=4/\∀ i,i<4->0<=bgt s i/\bgt s i<=23
theorem ScB.ok{s:List Int}(h:ScB s):jU s=true:=by
 unfold jU;rw[aGD];intro x d;obtain⟨i,hi,rfl⟩:=aHz.1 d;have:=h.2 i (by have:=h.1;omega);rw[aD (TT hi)]at this;simp;omega
theorem ScB.zero:ScB dL:=⟨rfl,fun i hi=>by
 match i,hi with
 | 0,_|1,_|2,_|3,_=>simp[bgt,dL]⟩
theorem ScB.inc{s:List Int}(h:ScB s){i:Nat}(hi:i<4)(h2:bgt s i<23):ScB (s.set i (bgt s i+1)):=by
 refine⟨by simp[h.1],fun k hk=>?_⟩;rw[jS _ _ _ _ (by have:=h.1;omega)];have d:=h.2 i hi;have t:=h.2 k hk;split <;> omega
theorem UZ{s:List Int}(h:ScB s){i:Nat}(hi:i<4)(v:Int):UY (s.set i v)=UY s+v-bgt s i:=by
 unfold UY;have d:=h.1;rw[jS _ _ _ _ (by omega),jS _ _ _ _ (by omega),jS _ _ _ _ (by omega),jS _ _ _ _ (by omega)]
 match i,hi with
 | 0,_|1,_|2,_|3,_=>simp <;> omega
theorem ZD(b g:List Int)(room:Int)(l:List aFP)(d:List Int):∀ (fuel:Nat) (s:List Int) (n:Nat),ScB s->UY s+(fuel:Int)=92 ->
  ∃ s' J,eE b g room l d fuel s n=(dK b g s' l,J)/\ScB s'/\(gH (dK b g s' l)<=room\/cX (dK b g s' l).width s' d 4<0):=by
 intro fuel
 induction fuel with
 | zero =>
  intro s n t G;refine⟨s,n,rfl,t,.inr ?_⟩;rcases aIg (cX (dK b g s l).width s d 4) 0 with h|h
  ·exact h
  ·have h1:=qC (dK b g s l).width s d 4 h;have h2:=nQ (dK b g s l).width s d 4;generalize cX (dK b g s l).width s d 4=x at *
   obtain⟨k,rfl⟩:=aGF h;rw[Int.toNat_natCast]at h1;have z:k<4:=by omega
   unfold UY at G;have a0:=t.2 0 (by omega);have O:=t.2 1 (by omega);have U:=t.2 2 (by omega);have V:=t.2 3 (by omega)
   match k,z,h1 with
   | 0,_,h1|1,_,h1|2,_,h1|3,_,h1=>omega
 | succ fuel I =>
  intro s n t G;unfold eE;simp only;split
  ·rename_i h
   exact⟨s,n,rfl,t,h⟩
  ·rename_i h
   have F:0<=cX (dK b g s l).width s d 4:=by omega
   have h1:=qC (dK b g s l).width s d 4 F;have h2:=nQ (dK b g s l).width s d 4;generalize cX (dK b g s l).width s d 4=x at *
   obtain⟨k,rfl⟩:=aGF F;rw[Int.toNat_natCast]at h1 ⊢;have z:k<4:=by omega
   exact I _ _ (t.inc z h1.2) (by rw[UZ t z];omega)
theorem tS(b g:List Int)(room:Int)(tones:Bool):∃ s' d,kE b g room tones=(dK b g s' (cQ b tones),d)/\ScB s' /\
  (gH (dK b g s' (cQ b tones))<=room\/cX (dK b g s' (cQ b tones)).width s' (mY (dH b (cQ b tones))) 4<0) :=
 ZD b g room _ _ 92 dL 0 ScB.zero rfl
def Low23(b:List Int):Prop:=∀ k,k<16->-8388608<bgt b k/\bgt b k<8388608
structure aFQ(f:aFJ):Prop where
 gains:f.gains.length=4/\∀ i,i<4->0<=bgt f.gains i/\bgt f.gains i<=3
 tlen:f.tones.length<=2
 tidx:∀ t∈f.tones,0<=t.idx/\t.idx<16/\-8388608<=t.val/\t.val<8388608
 tinc:f.tones.Pairwise fun x y=>x.idx<y.idx
 scale:ScB f.scale
 wlen:f.width.length=4
 width:∀ i,i<4->0<=bgt f.width i/\bgt f.width i<=24
 qlen:f.q.length=16
 q:∀ k,k<16->(cG (bgt f.q k):Int)<=bgt f.width (k / 4)
theorem aEc{v:Int}(h1:-8388608<v)(h2:v<8388608):cG v<=24:=kY (k:=23) (by omega) (by omega)
theorem I0{b g s:List Int}{l:List aFP}(F:g.length=4/\∀ i,i<4->0<=bgt g i/\bgt g i<=3)(h1:l.length<=2)(h2:∀ t∈l,0<=t.idx/\t.idx<16/\-8388608<=t.val/\t.val<8388608)
 (z:l.Pairwise fun x y=>x.idx<y.idx)(d:ScB s)(G:Low23 (dH b l)):aFQ (dK b g s l):=by
 have I:∀ k,k<16->cG (bgt (fC (dH b l) s) k)<=24:=by
  intro k hk;unfold fC;rw[FN d.ok,pC _ _ hk,FN hk];have h:=G k hk;have J:=OL (v:=bgt (dH b l) k) (B:=8388607) (by omega) (by omega) (bgt s (k / 4)).toNat;exact aEc (by omega) (by omega)
 refine⟨F,h1,h2,z,d,iH _ _,fun i hi=>?_,IV _ _,fun k hk=>?_⟩
 ·show 0<=bgt (kG _) i/\bgt (kG _) i<=24;rw[sB _ hi];have:=xJ (fC (dH b l) s) 24 I i 16 (by omega);omega
 ·show (cG (bgt (fC (dH b l) s) k):Int)<=bgt (kG (fC (dH b l) s)) (k / 4);rw[sB _ (by omega)];have:=I8 (fC (dH b l) s) (k / 4) 16 k hk rfl;omega
theorem aCf{b g s:List Int}{l:List aFP}{U:List Int}(h1:l.length<=2)(h:ScB s)(G:Low23 (dH b l))(J:cX (dK b g s l).width s U 4<0):gH (dK b g s l)<=192:=by
 have d:∀ i,i<4->bgt (dK b g s l).width i<=2:=by
  intro i hi;have h2:=CJ _ _ _ 4 J i hi;have W:=h.2 i hi;show bgt (kG (fC (dH b l) s)) i<=2;have t:¬ (0<bgt (kG (fC (dH b l) s)) i/\bgt s i<23):=h2;rw[sB _ hi]at t ⊢
  by_cases V:iG (fC (dH b l) s) 16 i=0
  ·omega
  ·have z:bgt s i=23:=by omega
   have:∀ m,m<=16->iG (fC (dH b l) s) m i<=2:=by
    intro m
    induction m with
    | zero=>intro _;exact aG3 _
    | succ m O =>
     intro hm;rw[lV];have F:=O (by omega);split
     ·rename_i I
      have Z:cG (bgt (fC (dH b l) s) m)<=2:=by
       unfold fC;rw[FN h.ok,pC _ _ (by omega),FN (by omega),I,z];have h6:=G m (by omega);have h7:=aDA (v:=bgt (dH b l) m) (p:=(23:Int).toNat) (by show -(2 ^ 23:Int)<_;omega) (by show _<(2 ^ 23:Int);omega) (by decide);exact kY (k:=1) (by omega) (by omega)
      omega
     ·exact F
   have:=this 16 (by omega);omega
 have w0:=d 0 (by omega);have w1:=d 1 (by omega);have w2:=d 2 (by omega);have w3:=d 3 (by omega);have aC:(dK b g s l).tones.length<=2:=h1;unfold gH;omega
theorem gZ{a b:List Int}{n:Nat}(ha:a.length=n)(hb:b.length=n)(h:∀ j,j<n->bgt a j=bgt b j):a=b:=by
 refine (dV ha).trans (aHH ?_ (dV hb).symm);apply aGZ;intro j d;exact h j (aGA.1 d)
def j5(r j:Nat):Nat:=if j / 2 ^ r % 2=0 then j else j-2 ^ r
def qB(b:List Int)(r m:Nat):List Int:=(List.range 16).map fun j =>
 if j5 r j<m then (if j / 2 ^ r % 2=0 then dQ (bgt b j) (bgt b (j+2 ^ r)) (aT j r) else eK (bgt b (j-2 ^ r)) (bgt b j) (aT (j-2 ^ r) r)) else bgt b j
def nV(b:List Int)(r m:Nat):List Int:=(List.range 16).map fun j =>
 if j5 r j<m then (if j / 2 ^ r % 2=0 then unA (bgt b j) (bgt b (j+2 ^ r)) (aT j r) else unB (bgt b (j-2 ^ r)) (bgt b j) (aT (j-2 ^ r) r)) else bgt b j
def G8(b:List Int)(r:Nat):List Int:=qB b r 16
def EU(b:List Int)(r:Nat):List Int:=nV b r 16
def oO(b:List Int):List Int:=G8 (G8 (G8 (G8 b 0) 1) 2) 3
def gI(b:List Int):List Int:=EU (EU (EU (EU b 3) 2) 1) 0
theorem mD(b:List Int)(r m:Nat):(qB b r m).length=16:=by simp[qB]
theorem lY(b:List Int)(r m:Nat):(nV b r m).length=16:=by simp[nV]
theorem eZ(b:List Int)(r m:Nat){j:Nat}(hj:j<16):bgt (qB b r m) j =
  if j5 r j<m then (if j / 2 ^ r % 2=0 then dQ (bgt b j) (bgt b (j+2 ^ r)) (aT j r) else eK (bgt b (j-2 ^ r)) (bgt b j) (aT (j-2 ^ r) r)) else bgt b j:=aD (aI _ hj)
theorem iP(b:List Int)(r m:Nat){j:Nat}(hj:j<16):bgt (nV b r m) j =
  if j5 r j<m then (if j / 2 ^ r % 2=0 then unA (bgt b j) (bgt b (j+2 ^ r)) (aT j r) else unB (bgt b (j-2 ^ r)) (bgt b j) (aT (j-2 ^ r) r)) else bgt b j:=aD (aI _ hj)
theorem mZ(b:List Int)(r:Nat):(G8 b r).length=16:=mD _ _ _
theorem sZ(b:List Int)(r:Nat):(EU b r).length=16:=lY _ _ _
theorem aFx:∀ (r:Fin 4) (j:Fin 16),j5 r.1 j.1<16/\(j.1 / 2 ^ r.1 % 2=0->j.1+2 ^ r.1<16/\(j.1+2 ^ r.1) / 2 ^ r.1 % 2=1/\j5 r.1 (j.1+2 ^ r.1)=j.1/\j5 r.1 j.1=j.1/\j.1+2 ^ r.1-2 ^ r.1=j.1) /\
  (¬ j.1 / 2 ^ r.1 % 2=0->(j.1-2 ^ r.1) / 2 ^ r.1 % 2=0/\j.1-2 ^ r.1+2 ^ r.1=j.1/\j5 r.1 (j.1-2 ^ r.1)=j.1-2 ^ r.1):=by decide +kernel
theorem YG(r:Nat)(hr:r<4)(j:Nat)(hj:j<16):j5 r j<16/\(j / 2 ^ r % 2=0->j+2 ^ r<16/\(j+2 ^ r) / 2 ^ r % 2=1/\j5 r (j+2 ^ r)=j/\j5 r j=j/\j+2 ^ r-2 ^ r=j) /\
  (¬ j / 2 ^ r % 2=0->(j-2 ^ r) / 2 ^ r % 2=0/\j-2 ^ r+2 ^ r=j/\j5 r (j-2 ^ r)=j-2 ^ r):=aFx ⟨r,hr⟩ ⟨j,hj⟩
theorem DO(b:List Int){r:Nat}(O:r<4)(hb:b.length=16):EU (G8 b r) r=b:=by
 rw[dV hb];unfold EU nV;apply aGZ;intro j J;have d:=aGA.1 J;rw[<-dV hb];obtain⟨t,U,V⟩:=YG r O j d;rw[FN t]
 by_cases h:j / 2 ^ r % 2=0
 ·obtain⟨z,I,F,Z,W⟩:=U h;rw[FN h];unfold G8;rw[eZ b r 16 d,eZ b r 16 z,FN t,FN h,FN (by rw[F];exact d),sL (by omega),W];exact (uB _ _ _).1
 ·obtain⟨z,I,F⟩:=V h;rw[sL h];unfold G8;have G:j-2 ^ r<16:=aI5 (Nat.sub_le _ _) d;rw[eZ b r 16 d,eZ b r 16 G,FN t,sL h,FN (by rw[F];exact G),FN z,I];exact (uB _ _ _).2
theorem aEJ(b:List Int)(hb:b.length=16):gI (oO b)=b:=by
 unfold gI oO;rw[DO _ (by omega) (mZ _ _),DO _ (by omega) (mZ _ _),DO _ (by omega) (mZ _ _),DO _ (by omega) hb]
def Within(M:Int)(b:List Int):Prop:=∀ k,k<16->-M<=bgt b k/\bgt b k<=M
theorem qA{M N:Int}{b:List Int}(h:Within M b)(J:3*M+8<=2*N){r:Nat}(z:r<4):Within N (G8 b r):=by
 intro j t;unfold G8;rw[eZ b r 16 t];obtain⟨F,G,O⟩:=YG r z j t;have d:=h j t;rw[FN F];split
 ·rename_i h1
  obtain⟨I,_⟩:=G h1;have h2:=h _ I;have:=(EH ((3*j+5*r) % 8) (by omega) (bgt b j) (bgt b (j+2 ^ r)) M d.1 d.2 h2.1 h2.2).1;unfold aT;omega
 ·rename_i h1
  have h2:=h (j-2 ^ r) (aI5 (Nat.sub_le _ _) t);have:=(EH ((3*(j-2 ^ r)+5*r) % 8) (by omega) (bgt b (j-2 ^ r)) (bgt b j) M h2.1 h2.2 d.1 d.2).2;unfold aT;omega
theorem pO{M N:Int}{b:List Int}(h:Within M b)(J:3*M+8<=2*N){r:Nat}(z:r<4):Within N (EU b r):=by
 intro j t;unfold EU;rw[iP b r 16 t];obtain⟨F,G,O⟩:=YG r z j t;have d:=h j t;rw[FN F];split
 ·rename_i h1
  obtain⟨I,_⟩:=G h1;have h2:=h _ I;have:=(uA ((3*j+5*r) % 8) (by omega) (bgt b j) (bgt b (j+2 ^ r)) M d.1 d.2 h2.1 h2.2).1;unfold aT;omega
 ·rename_i h1
  have h2:=h (j-2 ^ r) (aI5 (Nat.sub_le _ _) t);have:=(uA ((3*(j-2 ^ r)+5*r) % 8) (by omega) (bgt b (j-2 ^ r)) (bgt b j) M h2.1 h2.2 d.1 d.2).2;unfold aT;omega
section
open Go.RowKit
theorem b9:(prog.info? 40).map (·.size)=some 4:=by kernel_rfl
theorem n6:(prog.info? 263).map (·.size)=some 4:=by kernel_rfl
def inB(hi:Int)(x:Int):Bool:=decide (0<=x)&&decide (x<=hi)
theorem ZC(s:List Int):jU s=s.all (inB 23):=rfl
theorem kD(s:List Int)(w:World)(z:s.length=4):
  Calls prog 156 #[aR s] w fun e w'=>e=.returned (.bool (jU s))/\Below w.heap.size w w':=by
 unfold aR;rw[ZC];have U:=hid (fun (k:Nat) (x:Int) (h:s[k]? = some x)=>fG h);have O:(s.map (Value.int .i64)).toArray.size=4:=by simp[z]
 generalize (s.map (Value.int .i64)).toArray=t at *
 have V:=hid (show (prog.info? 263).map (·.size)=some t.size by rw[O];exact n6);have I:=hid z;have hB:=hid (LT w (.cells t 263));clear z O;go_enter func156,ntmps156;go_wp2_with (refine aB rfl 263 (.tmp 1) rfl w.heap.size rfl _ t _ _ hB.out underlying263 rfl V.out ?_)
 go_loop [6] (fun k=>∃ m:Nat,m<=4/\(s.take m).all (inB 23)=true/\k=.int .i64 m) (fun k=>(4-(intOf k)).toNat)
 case atStart=>exact⟨0,by omega,rfl,rfl⟩
 case round =>
  obtain⟨m,hm,hall,rfl⟩:=hrel;have F:=hid hall;clear hall
  by_cases hlt:m<4
  ·have t1:(m:Int)<4:=by omega
   obtain⟨x,d⟩:=aE (k:=m) I.out (by omega);have aG:=cA (P:=prog) underlying263 hlt (fun W=>by kernel_rfl) (fun W=>by kernel_rfl) (U.out _ _ d);have Z:=hid (gC (inB 23) d);have G:=hid (fun h=>jR (inB 23) d h);clear d
   by_cases J:x<0
   ·have d0:decide (x<0)=true:=aGs J;have hf:=hid (G.out (by unfold inB;rw[aGm (by omega)];rfl));go_wp2
    go_ret
    exact⟨dU hf.out.symm,aP _ _⟩
   ·have d0:decide (x<0)=false:=aGm J
    by_cases h1:23<x
    ·have d1:decide (23<x)=true:=aGs h1;have hf:=hid (G.out (by unfold inB;rw[aGm (show ¬ x<=23 by omega),aJa]));go_wp2
     go_ret
     exact⟨dU hf.out.symm,aP _ _⟩
    ·have d1:decide (23<x)=false:=aGm h1;have hf:=hid (show inB 23 x=true by unfold inB;rw[aGs (show 0<=x by omega),aGs (show x<=23 by omega)];rfl);go_wp2
     go_round
     case rel=>exact⟨m+1,by omega,by rw[Z.out,F.out,hf.out];rfl,by go_num⟩
     case measure=>simp[intOf];omega
  ·have t1:¬ ((m:Int)<4):=by omega
   have hf:=hid (gY (inB 23) (l:=s) (k:=m) (by rw[I.out];omega) F.out);go_wp2
   go_ret
   exact⟨dU hf.out.symm,aP _ _⟩
def iW(g:List Int):Bool:=g.all (inB 3)
theorem pG(s:List Int)(w:World)(z:s.length=4):
  Calls prog 154 #[aR s] w fun e w'=>e=.returned (.bool (iW s))/\Below w.heap.size w w':=by
 unfold aR iW;have U:=hid (fun (k:Nat) (x:Int) (h:s[k]? = some x)=>fG h);have O:(s.map (Value.int .i64)).toArray.size=4:=by simp[z]
 generalize (s.map (Value.int .i64)).toArray=t at *
 have V:=hid (show (prog.info? 40).map (·.size)=some t.size by rw[O];exact b9);have I:=hid z;have hB:=hid (LT w (.cells t 40));clear z O;go_enter func154,ntmps154;go_wp2_with (refine aB rfl 40 (.tmp 1) rfl w.heap.size rfl _ t _ _ hB.out underlying40 rfl V.out ?_)
 go_loop [6] (fun k=>∃ m:Nat,m<=4/\(s.take m).all (inB 3)=true/\k=.int .i64 m) (fun k=>(4-(intOf k)).toNat)
 case atStart=>exact⟨0,by omega,rfl,rfl⟩
 case round =>
  obtain⟨m,hm,hall,rfl⟩:=hrel;have F:=hid hall;clear hall
  by_cases hlt:m<4
  ·have t1:(m:Int)<4:=by omega
   obtain⟨x,d⟩:=aE (k:=m) I.out (by omega);have aG:=cA (P:=prog) underlying40 hlt (fun W=>by kernel_rfl) (fun W=>by kernel_rfl) (U.out _ _ d);have Z:=hid (gC (inB 3) d);have G:=hid (fun h=>jR (inB 3) d h);clear d
   by_cases J:x<0
   ·have d0:decide (x<0)=true:=aGs J;have hf:=hid (G.out (by unfold inB;rw[aGm (by omega)];rfl));go_wp2
    go_ret
    exact⟨dU hf.out.symm,aP _ _⟩
   ·have d0:decide (x<0)=false:=aGm J
    by_cases h1:3<x
    ·have d1:decide (3<x)=true:=aGs h1;have hf:=hid (G.out (by unfold inB;rw[aGm (show ¬ x<=3 by omega),aJa]));go_wp2
     go_ret
     exact⟨dU hf.out.symm,aP _ _⟩
    ·have d1:decide (3<x)=false:=aGm h1;have hf:=hid (show inB 3 x=true by unfold inB;rw[aGs (show 0<=x by omega),aGs (show x<=3 by omega)];rfl);go_wp2
     go_round
     case rel=>exact⟨m+1,by omega,by rw[Z.out,F.out,hf.out];rfl,by go_num⟩
     case measure=>simp[intOf];omega
  ·have t1:¬ ((m:Int)<4):=by omega
   have hf:=hid (gY (inB 3) (l:=s) (k:=m) (by rw[I.out];omega) F.out);go_wp2
   go_ret
   exact⟨dU hf.out.symm,aP _ _⟩
theorem aCH(k:Nat)(w:World)(hk:k<=23):
  Calls prog 185 #[.int .i64 k] w fun e w'=>e=.returned (.int .i64 (2 ^ k))/\w=w':=by
 have h:(2:Int) ^ k<=8388608:=by
  rw[show (2:Int) ^ k=((2 ^ k:Nat):Int) by rw[Int.natCast_pow];rfl];exact aID.2 (aHR (by decide) hk)
 have d:(0:Int)<2 ^ k:=aHP (by decide);have t:IntKind.i64.wrap (2 ^ k)=2 ^ k:=aGl _ (by omega);have z:decide ((k:Int)<0)=false:=aGm (by omega);have F:decide (23<(k:Int))=false:=aGm (by omega);clear h d;go_enter func185,ntmps185;go_wp2
 go_ret
 exact⟨rfl,rfl⟩
end
section
open Go.RowKit
theorem VV(v:Int)(p:Nat)(w:World)(h1:-4611686018427387904<=v)(h2:v<=4611686018427387904)(h:p<=61):
  Calls prog 257 #[.int .i64 v,.int .i64 p] w fun e w'=>e=.returned (.int .i64 (jI v p))/\Below w.heap.size w w' :=
 (aCB v p w h1 h2 h).mono fun e w' ⟨he,n,d⟩=>⟨he,by rw[d];exact aHY (aGj _ _) n⟩
theorem BigB.get{b:List Int}(h:BigB b){k:Nat}{x:Int}(d:b[k]? = some x):-4611686018427387904<=x/\x<=4611686018427387904:=h k x d
theorem aAQ(b s:List Int)(w:World)(hb:b.length=16)(U:s.length=4)(hr:BigB b)(I:jU s=true):
  Calls prog 246 #[aR b,aR s] w fun e w'=>e=.returned (aR (cM b s 16))/\Below w.heap.size w w':=by
 have HR:=hid (fun W=>kD s W U);have HQ:=hid (fun (k:Nat) (x:Int) (F:s[k]? = some x)=>(show 0<=x/\x<=23 by
  unfold jU at I;rw[aGD]at I;have:=I x (aGh F);simp at this;exact this))
 rw[I]at HR;clear I;unfold aR at *
 have HC:=hid (fun (k:Nat) (x:Int) (h:s[k]? = some x)=>fG h);have V:(s.map (Value.int .i64)).toArray.size=4:=by simp[U]
 generalize (s.map (Value.int .i64)).toArray=d at *
 have HF:=hid (show (prog.info? 263).map (·.size)=some d.size by rw[V];exact n6);have Hs:=hid U;have Hb:=hid hb;have Hr:=hid hr;have aS:=hid (Blk.new w 43 (b.map (Value.int .i64)));have G:=hid (LT (w.alloc (.cells (b.map (Value.int .i64)).toArray 43)) (.cells d 263));have aV:=hid (((aP w (.cells (b.map (Value.int .i64)).toArray 43)).alloc (by simp) (.cells d 263)).alloc (by simp;omega) (.cells (List.replicate 16 (Value.int .i64 0)).toArray 43));rw[aG5]at G;clear U V hb hr;go_enter func246,ntmps246;go_wp2_with (first|(go_at_call 156;fail)|(refine aB rfl 263 (.tmp 3) rfl (w.heap.size+1) rfl _ d _ _ (by exact (aHg _ _ (by simp)).trans G.out) underlying263 rfl HF.out ?_))
 refine (HR.out _).mono ?_;rintro e w1 ⟨rfl,z⟩;have a4:=aC aV.out z;have aX:=((aS.out.alloc (.cells d 263)).alloc (.cells (List.replicate 16 (Value.int .i64 0)).toArray 43)).below z (by simp;omega);have a0:=(z.block (w.heap.size+1) (by simp)).trans ((aHg _ (.cells (List.replicate 16 (Value.int .i64 0)).toArray 43) (by simp)).trans G.out);have aL:=(Blk.new ((w.alloc (.cells (b.map (Value.int .i64)).toArray 43)).alloc (.cells d 263)) 43 (List.replicate 16 (.int .i64 0))).below z (by simp);simp only[aG5]at aL;have b1:=z.size;simp at b1;have bR:=hid a4;have bD:=hid aX;have bP:=hid aL;have G:=hid a0;clear z a4 aX a0 aL aS aV;go_wp2_with fail
 go_loopw [10] (fun i wr=>∃ (m:Nat),m<=16/\i=.int .i64 m/\Blk wr w.heap.size 43 ((cM b s m).map (Value.int .i64))/\wr.heap[w.heap.size+1]? = some (.cells d 263 (0,0))/\Blk wr (w.heap.size+1+1) 43 (List.replicate 16 (.int .i64 0))/\Below w.heap.size w wr/\w.heap.size+3<=wr.heap.size) (fun i _=>16-(intOf i).toNat)
 case atStart=>exact⟨0,by omega,rfl,by rw[PC s Hb.out];exact bD.out,G.out,bP.out,bR.out,by omega⟩
 case round =>
  obtain⟨m,hm,rfl,hB,hS,hZ,a5,V⟩:=hrel;have HB:=hid hB;have HS:=hid hS;have HZ:=hid hZ;have aW:=hid a5
  by_cases hlt:m<16
  ·obtain⟨x,F⟩:=aE (k:=m) Hb.out hlt;obtain⟨q,hq⟩:∃ q,m / 4=q:=⟨_,rfl⟩;have b0:q<4:=by omega
   obtain⟨p,O⟩:=aE (k:=q) Hs.out b0;have bZ:=HQ.out q p O;obtain⟨a6,b9⟩:=bZ;obtain⟨k,rfl⟩:=aGF a6;have bF:=hid (show ∀ W,Calls prog 115 #[.int .i64 m] W fun e w'=>e=.returned (.int .i64 (q:Int))/\W=w' from fun W=>(pJ m W hlt).mono fun e w' ⟨he,hw⟩=>⟨he.trans (cL (by omega)),hw⟩);have bB:=Hr.out.get F;have bK:=hid (fun W=>VV x k W bB.1 bB.2 (by omega));have bO:=hid (show (cM b s m).set m (jI x k)=cM b s (m+1) by
    rw[<-PB b s hlt,aD F,hq,aD O,Int.toNat_natCast])
   have b8:=HC.out q _ O;have bW:((cM b s m).map (Value.int .i64))[m]? = some (.int .i64 x):=by rw[aF5,UX b s hlt (LE m) F];rfl
   have t1:(m:Int)<16:=by omega
   have b3:=iX hB;have b4:=dR hS;clear F hq O a6 hB hS hZ a5;generalize jI x k=y at *
   go_wp2_with fail
   refine aJ 10 (by kernel_rfl) (by kernel_rfl) ?_;simp only[List.take_succ_cons,List.take_zero,aGO,aGR]
   repeat (go_big_quiet_step ((first|(go_at_call 115;exact dA (bF.out _))|(go_at_call 257;exact bY (bK.out _)))))
   refine aGv ?_;intro w5 a9;have t:=aQ a9;have J:=HB.out.below t HB.out.lt;have a3:=HZ.out.below t HZ.out.lt;have a1:=(t.block (w.heap.size+1) (by omega)).trans HS.out;have bE:=hid J;have bQ:=hid a3;have bN:=hid a1;have bS:=hid (aC aW.out t);have cA:=aGE V t.size;have ce:w5.cell? ⟨w.heap.size,m,none⟩=some (.int .i64 x):=by rw[J.cell];exact bW
   have fz:=J.frozen m;clear a9 t b3 b4 J a3 a1;go_wp2;go_roundw
   case rel =>
    refine⟨m+1,by omega,by go_num,?_,(aHm w5 ⟨w.heap.size,m,none⟩ _ (w.heap.size+1) (by simp)).trans bN.out,bQ.out.far (by simp;omega) _,bS.out.setCell (by simp) _,by simp;omega⟩;rw[<-bO.out,aG0];exact bE.out.set_ m _
   case measure=>simp[intOf];omega
  ·have bX:m=16:=by omega
   subst bX;have t1:¬ (((16:Nat):Int)<16):=by omega
   have hH:=hid (show wr.heap[w.heap.size]? = some (.cells ((cM b s 16).map (Value.int .i64)).toArray 43 (0,0)) from HB.out);have aZ:=hid (show wr.heap[w.heap.size+1+1]? = some (.cells (List.replicate 16 (Value.int .i64 0)).toArray 43 (0,0)) from HZ.out);have H1:=hid (fE (cM b s 16));have Z:((cM b s 16).map (Value.int .i64)).toArray.size=16:=by simp[kX]
   obtain⟨xs,aM⟩:∃ xs,((cM b s 16).map (Value.int .i64)).toArray=xs:=⟨_,rfl⟩;rw[aM]at hH H1 Z;have HE:=hid aM;clear aM;have aG:=hid (show (prog.info? 43).map (·.size)=some xs.size by rw[Z];exact bJ);have bV:=hid Z;clear Z;go_wp2_with (first|(refine aB rfl 43 (.tmp 2) rfl w.heap.size rfl _ xs _ _ hH.out underlying43 rfl aG.out ?_)|(refine aA rfl 43 (.tmp 4) (.tmp 24) rfl (w.heap.size+1+1) rfl _ _ xs rfl aZ.out aG.out (by rw[bV.out];simp) H1.out ?_))
   refine aGk (v:=.agg xs) (aG9 results246 _ _ (w.heap.size+1+1) 43 xs (0,0) _ rfl (bA wr _ _ _ xs aZ.out) underlying43 rfl aG.out) rfl ?_;exact⟨by rw[<-HE.out],aO aW.out _ (by omega) _⟩
end
section
open Go.RowKit
theorem aCa{x:Int}{k:Nat}(h:-68719476736<=x/\x<=68719476736)(hk:k<=23):IntKind.i64.wrap (x*2 ^ k)=x*2 ^ k:=by
 have h1:(2:Int) ^ k<=8388608:=by
  rw[show (2:Int) ^ k=((2 ^ k:Nat):Int) by rw[Int.natCast_pow];rfl];exact aID.2 (aHR (by decide) hk)
 have z:(0:Int)<2 ^ k:=aHP (by decide);generalize (2:Int) ^ k=s at *
 have d:x*s<=68719476736*s:=aH7 h.2 (by omega);have t:-68719476736*s<=x*s:=aH7 h.1 (by omega);exact aGl _ (by omega)
theorem V6(b s:List Int)(w:World)(hb:b.length=16)(U:s.length=4)(hr:∀ (k:Nat) (x:Int),b[k]? = some x->-68719476736<=x/\x<=68719476736)(I:jU s=true):
  Calls prog 162 #[aR b,aR s] w fun e w'=>e=.returned (aR (bN b s 16))/\Below w.heap.size w w':=by
 have HR:=hid (fun W=>kD s W U);have HQ:=hid (fun (k:Nat) (x:Int) (F:s[k]? = some x)=>(show 0<=x/\x<=23 by
  unfold jU at I;rw[aGD]at I;have:=I x (aGh F);simp at this;exact this))
 rw[I]at HR;clear I;unfold aR at *
 have HC:=hid (fun (k:Nat) (x:Int) (h:s[k]? = some x)=>fG h);have V:(s.map (Value.int .i64)).toArray.size=4:=by simp[U]
 generalize (s.map (Value.int .i64)).toArray=d at *
 have HF:=hid (show (prog.info? 263).map (·.size)=some d.size by rw[V];exact n6);have Hs:=hid U;have Hb:=hid hb;have Hr:=hid hr;have aS:=hid (Blk.new w 43 (b.map (Value.int .i64)));have G:=hid (LT (w.alloc (.cells (b.map (Value.int .i64)).toArray 43)) (.cells d 263));have aX:=hid (((aP w (.cells (b.map (Value.int .i64)).toArray 43)).alloc (by simp) (.cells d 263)).alloc (by simp;omega) (.cells (List.replicate 16 (Value.int .i64 0)).toArray 43));rw[aG5]at G;clear U V hb hr;go_enter func162,ntmps162;go_wp2_with (first|(go_at_call 156;fail)|(refine aB rfl 263 (.tmp 3) rfl (w.heap.size+1) rfl _ d _ _ (by exact (aHg _ _ (by simp)).trans G.out) underlying263 rfl HF.out ?_))
 refine (HR.out _).mono ?_;rintro e w1 ⟨rfl,z⟩;have a6:=aC aX.out z;have aZ:=((aS.out.alloc (.cells d 263)).alloc (.cells (List.replicate 16 (Value.int .i64 0)).toArray 43)).below z (by simp;omega);have a2:=(z.block (w.heap.size+1) (by simp)).trans ((aHg _ (.cells (List.replicate 16 (Value.int .i64 0)).toArray 43) (by simp)).trans G.out);have aL:=(Blk.new ((w.alloc (.cells (b.map (Value.int .i64)).toArray 43)).alloc (.cells d 263)) 43 (List.replicate 16 (.int .i64 0))).below z (by simp);simp only[aG5]at aL;have b2:=z.size;simp at b2;have bT:=hid a6;have bG:=hid aZ;have bR:=hid aL;have G:=hid a2;clear z a6 aZ a2 aL aS aX;go_wp2_with fail
 go_loopw [10] (fun i wr=>∃ (m:Nat),m<=16/\i=.int .i64 m/\Blk wr w.heap.size 43 ((bN b s m).map (Value.int .i64))/\wr.heap[w.heap.size+1]? = some (.cells d 263 (0,0))/\Blk wr (w.heap.size+1+1) 43 (List.replicate 16 (.int .i64 0))/\Below w.heap.size w wr/\w.heap.size+3<=wr.heap.size) (fun i _=>16-(intOf i).toNat)
 case atStart=>exact⟨0,by omega,rfl,by rw[vP s Hb.out];exact bG.out,G.out,bR.out,bT.out,by omega⟩
 case round =>
  obtain⟨m,hm,rfl,hB,hS,hZ,a7,V⟩:=hrel;have HB:=hid hB;have HS:=hid hS;have HZ:=hid hZ;have aY:=hid a7
  by_cases hlt:m<16
  ·obtain⟨x,F⟩:=aE (k:=m) Hb.out hlt;obtain⟨q,hq⟩:∃ q,m / 4=q:=⟨_,rfl⟩;have b1:q<4:=by omega
   obtain⟨p,O⟩:=aE (k:=q) Hs.out b1;have b0:=HQ.out q p O;obtain⟨a8,cB⟩:=b0;obtain⟨k,rfl⟩:=aGF a8;have bI:=hid (show ∀ W,Calls prog 115 #[.int .i64 m] W fun e w'=>e=.returned (.int .i64 (q:Int))/\W=w' from fun W=>(pJ m W hlt).mono fun e w' ⟨he,hw⟩=>⟨he.trans (cL (by omega)),hw⟩);have aT:=hid (fun W=>aCH k W (by omega));have b4:=aCa (Hr.out m x F) (show k<=23 by omega);have aV:=hid (show (bN b s m).set m (x*2 ^ k)=bN b s (m+1) by
    rw[<-vO b s hlt,aD F,hq,aD O,Int.toNat_natCast])
   have cA:=HC.out q _ O;have bY:((bN b s m).map (Value.int .i64))[m]? = some (.int .i64 x):=by rw[aF5,zI b s hlt (LE m) F];rfl
   have t1:(m:Int)<16:=by omega
   have b5:=iX hB;have b6:=dR hS;clear F hq O a8 hB hS hZ a7;obtain⟨s2,bC⟩:∃ s2:Int,(2:Int) ^ k=s2:=⟨_,rfl⟩;rw[bC]at aT aV b4;clear bC;go_wp2_with fail
   refine aJ 10 (by kernel_rfl) (by kernel_rfl) ?_;simp only[List.take_succ_cons,List.take_zero,aGO,aGR]
   repeat (go_big_quiet_step ((first|(go_at_call 115;exact dA (bI.out _))|(go_at_call 185;exact dA (aT.out _)))))
   refine aGv ?_;intro w5 bD;have t:=aQ bD;have J:=HB.out.below t HB.out.lt;have a5:=HZ.out.below t HZ.out.lt;have a3:=(t.block (w.heap.size+1) (by omega)).trans HS.out;have bH:=hid J;have bS:=hid a5;have bQ:=hid a3;have bU:=hid (aC aY.out t);have cC:=aGE V t.size;have ce:w5.cell? ⟨w.heap.size,m,none⟩=some (.int .i64 x):=by rw[J.cell];exact bY
   have fz:=J.frozen m;clear bD t b5 b6 J a5 a3;go_wp2;go_roundw
   case rel =>
    refine⟨m+1,by omega,by go_num,?_,(aHm w5 ⟨w.heap.size,m,none⟩ _ (w.heap.size+1) (by simp)).trans bQ.out,bS.out.far (by simp;omega) _,bU.out.setCell (by simp) _,by simp;omega⟩;rw[<-aV.out,aG0];exact bH.out.set_ m _
   case measure=>simp[intOf];omega
  ·have bZ:m=16:=by omega
   subst bZ;have t1:¬ (((16:Nat):Int)<16):=by omega
   have hH:=hid (show wr.heap[w.heap.size]? = some (.cells ((bN b s 16).map (Value.int .i64)).toArray 43 (0,0)) from HB.out);have a1:=hid (show wr.heap[w.heap.size+1+1]? = some (.cells (List.replicate 16 (Value.int .i64 0)).toArray 43 (0,0)) from HZ.out);have H1:=hid (fE (bN b s 16));have Z:((bN b s 16).map (Value.int .i64)).toArray.size=16:=by simp[lT]
   obtain⟨xs,aM⟩:∃ xs,((bN b s 16).map (Value.int .i64)).toArray=xs:=⟨_,rfl⟩;rw[aM]at hH H1 Z;have HE:=hid aM;clear aM;have aG:=hid (show (prog.info? 43).map (·.size)=some xs.size by rw[Z];exact bJ);have bX:=hid Z;clear Z;go_wp2_with (first|(refine aB rfl 43 (.tmp 2) rfl w.heap.size rfl _ xs _ _ hH.out underlying43 rfl aG.out ?_)|(refine aA rfl 43 (.tmp 4) (.tmp 24) rfl (w.heap.size+1+1) rfl _ _ xs rfl a1.out aG.out (by rw[bX.out];simp) H1.out ?_))
   refine aGk (v:=.agg xs) (aG9 results162 _ _ (w.heap.size+1+1) 43 xs (0,0) _ rfl (bA wr _ _ _ xs a1.out) underlying43 rfl aG.out) rfl ?_;exact⟨by rw[<-HE.out],aO aY.out _ (by omega) _⟩
theorem WA(b:List Int)(w:World)(hb:b.length=16)(hr:BigB b):
  Calls prog 247 #[aR b] w fun e w'=>e=.returned (aR (kG b))/\Below w.heap.size w w':=by
 unfold aR;have HC:=hid (fun (k:Nat) (x:Int) (h:b[k]? = some x)=>fG h);have F:(b.map (Value.int .i64)).toArray.size=16:=by simp[hb]
 generalize (b.map (Value.int .i64)).toArray=d at *
 have HF:=hid (show (prog.info? 43).map (·.size)=some d.size by rw[F];exact bJ);have Hb:=hid hb;have Hr:=hid hr;have aZ:=hid (LT w (.cells d 43));clear F hb hr;go_enter func247,ntmps247;go_wp2_with (refine aB rfl 43 (.tmp 1) rfl w.heap.size rfl _ d _ _ (by exact (aHg _ _ (by simp only[aG5];omega)).trans ((aHg _ _ (by simp only[aG5];omega)).trans aZ.out)) underlying43 rfl HF.out ?_)
 go_loopw [7] (fun i wr=>∃ (m:Nat),m<=16/\i=.int .i64 m/\Blk wr (w.heap.size+1) 40 (List.replicate 4 (.int .i64 0))/\Blk wr (w.heap.size+1+1) 40 ((f9 b m).map (Value.int .i64))/\Below w.heap.size w wr/\w.heap.size+3<=wr.heap.size) (fun i _=>16-(intOf i).toNat)
 case atStart =>
  refine⟨0,by omega,rfl,?_,?_,((aP _ _).alloc (by simp only[aG5];omega) _).alloc (by simp only[aG5];omega) _,by simp only[aG5];omega⟩
  ·have:=(Blk.new (w.alloc (.cells d 43)) 40 (List.replicate 4 (.int .i64 0))).alloc (.cells (List.replicate 4 (.int .i64 0)).toArray 40);rw[aG5]at this;exact this
  ·have:=Blk.new ((w.alloc (.cells d 43)).alloc (.cells (List.replicate 4 (.int .i64 0)).toArray 40)) 40 (List.replicate 4 (.int .i64 0));rw[aG5,aG5]at this;exact this
 case round =>
  obtain⟨m,hm,rfl,hZ,hB,aV,F⟩:=hrel;have J:=hid hB;have HZ:=hid hZ;have aM:=hid aV
  by_cases hlt:m<16
  ·obtain⟨x,I⟩:=aE (k:=m) Hb.out hlt;obtain⟨q,hq⟩:∃ q,m / 4=q:=⟨_,rfl⟩;have bD:q<4:=by omega
   have a1:=hid (show ∀ W,Calls prog 115 #[.int .i64 m] W fun e w'=>e=.returned (.int .i64 (q:Int))/\W=w' from fun W=>(pJ m W hlt).mono fun e w' ⟨he,hw⟩=>⟨he.trans (cL (by omega)),hw⟩);have bO:=Hr.out.get I;have aL:=hid (fun W=>zQ x W (by omega) (by omega));have Z:=hid (show (f9 b m).set q (max (iG b m q) (cG x):Nat)=f9 b (m+1) by
    rw[<-J1 b m hlt,aD I,hq])
   obtain⟨V,hV⟩:∃ V:Nat,cG x=V:=⟨_,rfl⟩;obtain⟨U,hU⟩:∃ U:Nat,iG b m q=U:=⟨_,rfl⟩;rw[hV]at aL Z;rw[hU]at Z;have bB:((f9 b m).map (Value.int .i64))[q]? = some (.int .i64 (U:Int)):=by rw[aF5,zJ b m bD,hU];rfl
   have bL:=cA (P:=prog) underlying43 hlt (fun W=>by kernel_rfl) (fun W=>by kernel_rfl) (HC.out _ _ I);have bM:max (U:Int) (V:Int)=((max U V:Nat):Int):=by omega
   have t1:(m:Int)<16:=by omega
   have bF:=iX hB;clear I hq hB hZ aV hV hU;generalize max U V=M at *
   go_wp2_with fail
   refine aJ 10 (by kernel_rfl) (by kernel_rfl) ?_;simp only[List.take_succ_cons,List.take_zero,aGO,aGR]
   repeat (go_big_quiet_step ((first|(go_at_call 115;exact dA (a1.out _))|(go_at_call 208;exact dA (aL.out _)))))
   refine aGv ?_;intro w5 aY;have t:=aQ aY;have z:=J.out.below t J.out.lt;have aU:=HZ.out.below t HZ.out.lt;have a0:=hid z;have a5:=hid aU;have a7:=hid (aC aM.out t);have bN:=aGE F t.size;have ce:w5.cell? ⟨w.heap.size+1+1,q,none⟩=some (.int .i64 (U:Int)):=by rw[z.cell];exact bB
   have fz:=z.frozen q;clear aY t bF z aU;go_wp2;go_roundw
   case rel =>
    refine⟨m+1,by omega,by go_num,a5.out.far (by simp) _,?_,a7.out.setCell (by simp;omega) _,by simp;omega⟩;rw[<-Z.out,aG0];exact a0.out.set_ q _
   case measure=>simp[intOf];omega
  ·have bC:m=16:=by omega
   subst bC;have t1:¬ (((16:Nat):Int)<16):=by omega
   have hH:=hid (show wr.heap[w.heap.size+1+1]? = some (.cells ((f9 b 16).map (Value.int .i64)).toArray 40 (0,0)) from J.out);have aS:=hid (show wr.heap[w.heap.size+1]? = some (.cells (List.replicate 4 (Value.int .i64 0)).toArray 40 (0,0)) from HZ.out);have H1:=hid (fE (f9 b 16));have G:((f9 b 16).map (Value.int .i64)).toArray.size=4:=by simp[iH]
   obtain⟨xs,aI⟩:∃ xs,((f9 b 16).map (Value.int .i64)).toArray=xs:=⟨_,rfl⟩;rw[aI]at hH H1 G;have HE:=hid aI;clear aI;have O:=hid (show (prog.info? 40).map (·.size)=some xs.size by rw[G];exact b9);have a9:=hid G;clear G;go_wp2_with (first|(refine aB rfl 40 (.tmp 3) rfl (w.heap.size+1+1) rfl _ xs _ _ hH.out underlying40 rfl O.out ?_)|(refine aA rfl 40 (.tmp 2) (.tmp 22) rfl (w.heap.size+1) rfl _ _ xs rfl aS.out O.out (by rw[a9.out];simp) H1.out ?_))
   refine aGk (v:=.agg xs) (aG9 results247 _ _ (w.heap.size+1) 40 xs (0,0) _ rfl (bA wr _ _ _ xs aS.out) underlying40 rfl O.out) rfl ?_;exact⟨by rw[<-HE.out];rfl,aO aM.out _ (by omega) _⟩
def kK(w:List Int):Nat->Int
 | 0=>0
 | m+1=>kK w m+4*bgt w m
theorem aCr(d:List Int)(w:World)(hb:d.length=4)(G:∀ (k:Nat) (x:Int),d[k]? = some x->0<=x/\x<=1000):
  Calls prog 248 #[aR d] w fun e w'=>e=.returned (.int .i64 (4*(bgt d 0+bgt d 1+bgt d 2+bgt d 3)))/\Below w.heap.size w w':=by
 unfold aR;have O:=hid (fun (k:Nat) (x:Int) (h:d[k]? = some x)=>fG h);have I:(d.map (Value.int .i64)).toArray.size=4:=by simp[hb]
 generalize (d.map (Value.int .i64)).toArray=F at *
 have V:=hid (show (prog.info? 40).map (·.size)=some F.size by rw[I];exact b9);have Z:=hid hb;have Hr:=hid G;have J:=hid (LT w (.cells F 40));clear I hb G;go_enter func248,ntmps248;go_wp2_with (refine aB rfl 40 (.tmp 1) rfl w.heap.size rfl _ F _ _ J.out underlying40 rfl V.out ?_)
 go_loop [3,7] (fun n i=>∃ (m:Nat),m<=4/\i=.int .i64 m/\n=.int .i64 (kK d m)/\0<=kK d m/\kK d m<=4000*(m:Int)) (fun _ i=>4-(intOf i).toNat)
 case atStart=>exact⟨0,by omega,rfl,rfl,by simp[kK],by simp[kK]⟩
 case round =>
  obtain⟨m,hm,rfl,rfl,h0,h1⟩:=hrel
  by_cases hlt:m<4
  ·obtain⟨x,t⟩:=aE (k:=m) Z.out hlt;have aI:=Hr.out m x t;have z:=hid (show kK d (m+1)=kK d m+4*x by rw[<-aD t];rfl);have aH:=cA (P:=prog) underlying40 hlt (fun W=>by kernel_rfl) (fun W=>by kernel_rfl) (O.out _ _ t);have t1:(m:Int)<4:=by omega
   generalize kK d m=C at *
   clear t;go_wp2
   go_round
   case rel=>exact⟨m+1,by omega,by go_num,jX (by rw[z.out]),by rw[z.out];omega,by rw[z.out];omega⟩
   case measure=>simp[intOf];omega
  ·have aC:m=4:=by omega
   subst aC;have t1:¬ (((4:Nat):Int)<4):=by omega
   have U:=hid (show kK d 4=4*(bgt d 0+bgt d 1+bgt d 2+bgt d 3) by unfold kK kK kK kK kK;omega);go_wp2
   go_ret
   exact⟨cL U.out,aP _ _⟩
end
end Go.Proofs.YtbpgfkjhclpbdaaGreatDoor
