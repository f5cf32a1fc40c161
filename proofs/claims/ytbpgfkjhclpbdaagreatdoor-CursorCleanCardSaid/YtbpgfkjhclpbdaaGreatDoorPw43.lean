/- ParP, ParQ, ParA, ParG, ParH. Conditions: as each theorem states. -/
import Derived.Lib.TrimByte
import Derived.Lib.SlBy2
import Derived.Test.YtbpgfkjhclpbdaaGreatDoorPw42
namespace Go.Proofs.YtbpgfkjhclpbdaaGreatDoor
open Tryz
open Go.RowKit Go.Lib
theorem yV{bs xs:List Nat}{o:Nat}(h:o+xs.length<=bs.length)(i:Nat):(aW bs o xs).getD i 0=if o<=i/\i<o+xs.length then xs.getD (i-o) 0 else bs.getD i 0:=by
 rw[aGz,mF h];split
 ·rw[aGz]
 ·rw[aGz]
def fP:List (Nat × List Nat)->Nat->Nat->Nat
 | [],_,v=>v
 | p::r,i,v=>fP r i (if p.1<=i/\i<p.1+p.2.length then p.2.getD (i-p.1) 0 else v)
theorem yR{i:Nat}:∀ {l:List (Nat × List Nat)} {bs:List Nat},oQ bs.length l->(lays bs l).getD i 0=fP l i (bs.getD i 0)
 | [],_,_=>rfl
 | p::r,bs,hf=>by
  have h1:=hf p (by simp);show (lays (aW bs p.1 p.2) r).getD i 0=_;rw[yR (l:=r) (by rw[dG h1];exact fun q d=>hf q (by simp[d])),yV h1]
  rfl
theorem tJ(a b:List (Nat × List Nat))(i v:Nat):fP (a++b) i v=fP b i (fP a i v):=by
 induction a generalizing v with
 | nil=>rfl
 | cons p r d=>exact d _
def aFE(i:Nat)(l:List (Nat × List Nat)):Prop:=∀ p∈l,i<p.1\/p.1+p.2.length<=i
theorem mX{i:Nat}:∀ {l:List (Nat × List Nat)} {v:Nat},aFE i l->fP l i v=v
 | [],_,_=>rfl
 | p::r,v,hi=>by
  show fP r i _=v;rw[sL (by have:=hi p (by simp);omega)];exact mX (l:=r) (fun q d=>hi q (by simp[d]))
def bU(bs:List Nat)(a:Nat):Nat->Nat
 | 0=>0
 | m+1=>bU bs a m*256+bs.getD (a+m) 0
theorem yX{X Y:List Nat}{a b:Nat}:∀ (m:Nat),(∀ j,j<m->X.getD (a+j) 0=Y.getD (b+j) 0)->bU X a m=bU Y b m
 | 0,_=>rfl
 | m+1,h=>by
  unfold bU;rw[yX m (fun j d=>h j (by omega)),h m (by omega)]
theorem qJ{X:List Nat}(d:∀ x∈X,x<256)(a:Nat):∀ m,bU X a m<256 ^ m
 | 0=>by unfold bU;decide
 | m+1=>by
  have t:=qJ d a m;have hb:X.getD (a+m) 0<256:=by
   rw[aGz];cases h:X[a+m]? with
   | none=>exact (by decide:(0:Nat)<256)
   | some y=>exact d y (aGh h)
  unfold bU;rw[Nat.pow_succ];generalize bU X a m=r at *
  generalize X.getD (a+m) 0=y at *
  generalize 256 ^ m=P at *
  omega
theorem uK{size v j:Nat}(h:j<size):(cY size v).getD j 0=v / 2 ^ (8*(size-1-j)) % 256:=by rw[aGz,T0 h];rfl
theorem f4{X:List Nat}{a v:Nat}(h:∀ j,j<4->X.getD (a+j) 0=(cY 4 v).getD j 0)(G:v<4294967296):bU X a 4=v:=by
 have d:=(h 0 (by omega)).trans (uK (by omega));have t:=(h 1 (by omega)).trans (uK (by omega));have z:=(h 2 (by omega)).trans (uK (by omega));have F:=(h 3 (by omega)).trans (uK (by omega));show (((0*256+X.getD (a+0) 0)*256+X.getD (a+1) 0)*256+X.getD (a+2) 0)*256+X.getD (a+3) 0=v;rw[d,t,z,F];simp only[Nat.reduceMul,Nat.reduceSub,Nat.reducePow,Nat.sub_zero,aJv,Nat.mul_zero,Nat.pow_zero];omega
theorem UJ{X:List Nat}{a v:Nat}(h:∀ j,j<2->X.getD (a+j) 0=(cY 2 v).getD j 0)(z:v<65536):bU X a 2=v:=by
 have d:=(h 0 (by omega)).trans (uK (by omega));have t:=(h 1 (by omega)).trans (uK (by omega));show (0*256+X.getD (a+0) 0)*256+X.getD (a+1) 0=v;rw[d,t];simp only[Nat.reduceMul,Nat.reduceSub,Nat.reducePow,Nat.sub_zero,aJv,Nat.mul_zero,Nat.pow_zero];omega
/-! Names. -/
def cC(bs:List Nat)(o n:Nat):List Nat:=(List.range n).map fun j=>bs.getD (o+j) 0
theorem eM(bs:List Nat)(o n:Nat):(cC bs o n).length=n:=by simp[cC]
theorem gR{bs:List Nat}{o n j:Nat}(h:j<n):(cC bs o n)[j]? = some (bs.getD (o+j) 0):=by
 unfold cC;rw[aF5,aHa h];rfl
theorem aCd{bs:List Nat}{o n:Nat}(h:o+n<=bs.length):(bs.drop o).take n=cC bs o n:=by
 refine aGL fun j=>?_
 by_cases d:j<n
 ·rw[gR d,aIG d,aHp,aGz,TT (by omega)]
  rfl
 ·rw[aGr (by rw[aGB];omega),aGr (by rw[eM];omega)]
theorem IW{X Y:List Nat}{a b n:Nat}(h:∀ j,j<n->X.getD (a+j) 0=Y.getD (b+j) 0):cC X a n=cC Y b n:=by
 unfold cC;exact aGZ fun j d=>h j (aGA.1 d)
def pD(l:List Nat):List UInt8:=l.map UInt8.ofNat
def wQ(bs:List Nat)(o:Nat):ByteArray:=⟨(trimRightB (pD (cC bs o 32)) 0).toArray⟩
theorem WX(k:Nat)(l:List UInt8)(h:∀ x,l.head? = some x->x≠0):(List.replicate k (0:UInt8)++l).dropWhile (· == 0)=l:=by
 induction k with
 | zero =>
  cases l with
  | nil=>rfl
  | cons x r =>
   have:=h x rfl;show List.dropWhile (· == 0) (x::r)=_;rw[List.dropWhile_cons,sL (by simpa using this)]
 | succ k d =>
  show List.dropWhile (· == 0) ((0:UInt8)::(List.replicate k 0++l))=l;rw[List.dropWhile_cons,FN (by decide),d]
theorem ZQ(l:List UInt8)(k:Nat)(h:∀ x∈l,x≠0):trimRightB (l++List.replicate k 0) 0=l:=by
 unfold trimRightB;rw[List.reverse_append,List.reverse_replicate,WX k l.reverse (fun x d=>h x (by
  have:=List.mem_of_mem_head? (by rw[d];rfl);simpa using this)),List.reverse_reverse]
theorem ZM(s:ByteArray):pD (j1 s)=s.data.toList:=by
 unfold pD j1;rw[aHj];exact (aGZ fun x _=>by simp).trans (List.map_id _)
theorem TS{s:ByteArray}(h:dY s=true):∀ x∈s.data.toList,x≠0:=by
 unfold dY at h;simp only[aGu,aGD]at h;intro x d t;have:=h.2 x d;subst t;revert this
 decide
theorem p9{s:ByteArray}(h:dY s=true):s.size<=32:=by
 unfold dY at h;simp only[aGu,aGy]at h;exact h.1.2
theorem aBy{X:List Nat}{o:Nat}{s:ByteArray}(t:dY s=true)(h:∀ j,j<32->X.getD (o+j) 0=(j1 s).getD j 0):wQ X o=s:=by
 have F:=p9 t;have e:cC X o 32=j1 s++List.replicate (32-s.size) 0:=by
  refine aGL fun j=>?_
  by_cases d:j<32
  ·rw[gR d,h j d,aGz]
   by_cases hk:j<s.size
   ·rw[aGU (by rw[eY];exact hk),TT (by rw[eY];exact hk)];rfl
   ·rw[aGr (by rw[eY];omega),aGP (by rw[eY];omega),aHE,FN (by rw[eY];omega)];rfl
  ·rw[aGr (by rw[eM];omega),aGr (by rw[aGG,eY,aHQ];omega)]
 unfold wQ;rw[e];have z:pD (j1 s++List.replicate (32-s.size) 0)=s.data.toList++List.replicate (32-s.size) 0:=by
  have:=ZM s;unfold pD at *
  rw[aG2,this,aJm]
  rfl
 rw[z,ZQ _ _ (TS t)]
/-! Entries. -/
def fU(bs:List Nat)(o:Nat):aFK:=⟨wQ bs o,bU bs (o+32) 4,bU bs (o+36) 4,(bs.getD (o+56) 0:Nat),decide (bs.getD (o+57) 0=1),bU bs (o+40) 4,bU bs (o+44) 4,bU bs (o+48) 4,bU bs (o+52) 4⟩
def rW(bs:List Nat)(o:Nat):Bool:=(cC bs (o+58) 6).all fun x=>decide (x=0)
def sE(bs:List Nat)(o:Nat):Bool:=rW bs o&&(decide (bs.getD (o+57) 0<=1)&&(fU bs o).right)
def eT(bs:List Nat)(n:Nat):List aFK:=(List.range n).map fun i=>fU bs (16+i*64)
def lE(bs:List Nat):Nat->Bool
 | 0=>true
 | m+1=>lE bs m&&sE bs (16+m*64)&&(decide (m=0)||cB (fU bs (16+(m-1)*64)).name (fU bs (16+m*64)).name)
def iV(bs:List Nat):Nat:=bU bs 8 2
def lP(bs:List Nat):Nat:=bs.getD 10 0
def kC(bs:List Nat):Bool:=decide (cC bs 0 4≠[67,65,76,49])||(decide (bU bs 11 4≠0)||decide (bs.getD 15 0≠0))
def kF(bs:List Nat):Bool:=decide (lP bs<24)||(decide (96<lP bs)||(decide (64<iV bs)||decide (bU bs 4 4≠bs.length)))
def rV(bs:List Nat):Bool:=decide (l6 (bs.take (16+iV bs*64))≠(bU bs (16+iV bs*64) 4:Nat))
def aFK.same(x y:aFK):Bool:=x.name.toList == y.name.toList&&(x.length == y.length&&(x.rate == y.rate&&(x.channels == y.channels&&(x.loop == y.loop&&(x.from_ == y.from_&&(x.to_ == y.to_&&(x.sums == y.sums&&x.first == y.first)))))))
theorem aFK.same_self(x:aFK):x.same x=true:=by unfold aFK.same;simp
theorem aFK.same_eq{x y:aFK}(h:x.same y=true):x=y:=by
 obtain⟨n1,t,F,I,O,V,f1,Z,h1⟩:=x;obtain⟨n2,z,G,J,U,W,f2,g2,h2⟩:=y;unfold aFK.same at h;simp only[aGu,aIl]at h;obtain⟨d,rfl,rfl,rfl,rfl,rfl,rfl,rfl,rfl⟩:=h;rw[aIa,aIa]at d;rw[E0 d]
theorem EQ:∀ (L:List aFK),allEq aFK.same L L=true
 | []=>rfl
 | x::r=>by
  show (x.same x&&allEq aFK.same r r)=true;rw[aFK.same_self,EQ r];rfl
theorem QM:∀ {L M:List aFK},allEq aFK.same L M=true->L=M
 | [],[],_=>rfl
 | [],_::_,h=>by cases h
 | _::_,[],h=>by cases h
 | x::r,y::s,h=>by
  have d:(x.same y&&allEq aFK.same r s)=true:=h;rw[aGu]at d;rw[aFK.same_eq d.1,QM d.2]
def qI(bs:List Nat):Bool:=decide (upZ (bX (lP bs) (eT bs (iV bs)) (iV bs)) 64≠bs.length)||(decide (4194304<bs.length)||!allEq aFK.same (dI (lP bs) (eT bs (iV bs)) (iV bs)) (eT bs (iV bs)))
def fB(bs:List Nat):Int :=
 if bs.length<20 then 2 else if kC bs=true then 4 else if kF bs=true then 12 else if bs.length<20+iV bs*64 then 2
 else if rV bs=true then 9 else if lE bs (iV bs)=false then 4 else if qI bs=true then 12 else 0
section
set_option linter.unusedVariables false
structure aGd(x:aFK):Prop where
 name:dY x.name=true
 len:0<=x.length/\x.length<4294967296
 rate:0<=x.rate/\x.rate<4294967296
 ch:0<=x.channels/\x.channels<=255
 f:0<=x.from_/\x.from_<4294967296
 t:0<=x.to_/\x.to_<4294967296
 sums:0<=x.sums/\x.sums<4294967296
 first:0<=x.first/\x.first<4294967296
theorem g9(o:Nat)(x:aFK)(i v:Nat)(hi:i≠o+57):fP (d9 o x) i v=fP [(o,j1 x.name),(o+32,cY 4 x.length.toNat),(o+36,cY 4 x.rate.toNat),(o+40,cY 4 x.from_.toNat),(o+44,cY 4 x.to_.toNat),(o+48,cY 4 x.sums.toNat),(o+52,cY 4 x.first.toNat),(o+56,[x.channels.toNat])] i v:=by
 unfold d9;rw[tJ];refine mX fun p d=>?_
 split at d
 ·rw[aGx]at d;subst d;simp only[List.length_cons,List.length_nil];omega
 ·simp at d
theorem aBb{o:Nat}{x:aFK}(h:x.name.size<=32){j:Nat}(d:j<32):fP (d9 o x) (o+j) 0=(j1 x.name).getD j 0:=by
 rw[g9 _ _ _ _ (by omega)];simp only[fP]
 iterate 7 rw[sL (by simp only[bG,List.length_cons,List.length_nil];omega)]
 by_cases hk:j<x.name.size
 ·rw[FN (by rw[eY];omega)]
  congr 1;omega
 ·rw[sL (by rw[eY];omega),aGz,aGr (by rw[eY];omega)]
  rfl
theorem aEo{o:Nat}{x:aFK}(h:x.name.size<=32){j:Nat}(d:j<4):fP (d9 o x) (o+32+j) 0=(cY 4 x.length.toNat).getD j 0:=by
 rw[g9 _ _ _ _ (by omega)];simp only[fP]
 iterate 6 rw[sL (by simp only[bG,List.length_cons,List.length_nil];omega)]
 rw[FN (by rw[bG];omega)]
 congr 1;omega
theorem aEp{o:Nat}{x:aFK}(h:x.name.size<=32){j:Nat}(d:j<4):fP (d9 o x) (o+36+j) 0=(cY 4 x.rate.toNat).getD j 0:=by
 rw[g9 _ _ _ _ (by omega)];simp only[fP]
 iterate 5 rw[sL (by simp only[bG,List.length_cons,List.length_nil];omega)]
 rw[FN (by rw[bG];omega)]
 congr 1;omega
theorem aEq{o:Nat}{x:aFK}(h:x.name.size<=32){j:Nat}(d:j<4):fP (d9 o x) (o+40+j) 0=(cY 4 x.from_.toNat).getD j 0:=by
 rw[g9 _ _ _ _ (by omega)];simp only[fP]
 iterate 4 rw[sL (by simp only[bG,List.length_cons,List.length_nil];omega)]
 rw[FN (by rw[bG];omega)]
 congr 1;omega
theorem aEr{o:Nat}{x:aFK}(h:x.name.size<=32){j:Nat}(d:j<4):fP (d9 o x) (o+44+j) 0=(cY 4 x.to_.toNat).getD j 0:=by
 rw[g9 _ _ _ _ (by omega)];simp only[fP]
 iterate 3 rw[sL (by simp only[bG,List.length_cons,List.length_nil];omega)]
 rw[FN (by rw[bG];omega)]
 congr 1;omega
theorem aEs{o:Nat}{x:aFK}(h:x.name.size<=32){j:Nat}(d:j<4):fP (d9 o x) (o+48+j) 0=(cY 4 x.sums.toNat).getD j 0:=by
 rw[g9 _ _ _ _ (by omega)];simp only[fP]
 iterate 2 rw[sL (by simp only[bG,List.length_cons,List.length_nil];omega)]
 rw[FN (by rw[bG];omega)]
 congr 1;omega
theorem aEt{o:Nat}{x:aFK}(h:x.name.size<=32){j:Nat}(d:j<4):fP (d9 o x) (o+52+j) 0=(cY 4 x.first.toNat).getD j 0:=by
 rw[g9 _ _ _ _ (by omega)];simp only[fP];rw[sL (by simp only[List.length_cons,List.length_nil];omega)];rw[FN (by rw[bG];omega)]
 congr 1;omega
theorem aEu{o:Nat}{x:aFK}:fP (d9 o x) (o+56) 0=x.channels.toNat:=by
 rw[g9 _ _ _ _ (by omega)];simp only[fP];rw[FN (by simp only[List.length_cons,List.length_nil];omega)];rw[show o+56-(o+56)=0 by omega]
 rfl
theorem aEv{o:Nat}{x:aFK}(h:x.name.size<=32):fP (d9 o x) (o+57) 0=if x.loop=true then 1 else 0:=by
 unfold d9;rw[tJ];have d:fP [(o,j1 x.name),(o+32,cY 4 x.length.toNat),(o+36,cY 4 x.rate.toNat),(o+40,cY 4 x.from_.toNat),(o+44,cY 4 x.to_.toNat),(o+48,cY 4 x.sums.toNat),(o+52,cY 4 x.first.toNat),(o+56,[x.channels.toNat])] (o+57) 0=0:=by
  simp only[fP]
  iterate 7 rw[sL (by simp only[bG,List.length_cons,List.length_nil];omega)]
  rw[sL (by rw[eY];omega)]
 rw[d];split
 ·simp only[fP];rw[FN (by simp only[List.length_cons,List.length_nil];omega),show o+57-(o+57)=0 by omega]
  rfl
 ·rfl
theorem aEw{o:Nat}{x:aFK}(h:x.name.size<=32){j:Nat}(d:58<=j):fP (d9 o x) (o+j) 0=0:=by
 rw[g9 _ _ _ _ (by omega)];simp only[fP]
 iterate 7 rw[sL (by simp only[bG,List.length_cons,List.length_nil];omega)]
 rw[sL (by rw[eY];omega)]
theorem RR{X:List Nat}{o:Nat}{x:aFK}(F:aGd x)(I:∀ j,j<64->X.getD (o+j) 0=fP (d9 o x) (o+j) 0):fU X o=x/\rW X o=true/\X.getD (o+57) 0<=1:=by
 have z:=p9 F.name;have G:∀ k j,k+j<64->X.getD (o+k+j) 0=fP (d9 o x) (o+k+j) 0:=fun k j h=>by
  rw[aG4];exact I (k+j) h
 have U:=aBy F.name (X:=X) (o:=o) (fun j d=>(I j (by omega)).trans (aBb z d));have V:=f4 (X:=X) (a:=o+32) (v:=x.length.toNat) (fun j d=>(G 32 j (by omega)).trans (aEo z d)) (by have:=F.len;omega);have W:=f4 (X:=X) (a:=o+36) (v:=x.rate.toNat) (fun j d=>(G 36 j (by omega)).trans (aEp z d)) (by have:=F.rate;omega);have Z:=f4 (X:=X) (a:=o+40) (v:=x.from_.toNat) (fun j d=>(G 40 j (by omega)).trans (aEq z d)) (by have:=F.f;omega);have e4:=f4 (X:=X) (a:=o+44) (v:=x.to_.toNat) (fun j d=>(G 44 j (by omega)).trans (aEr z d)) (by have:=F.t;omega);have e5:=f4 (X:=X) (a:=o+48) (v:=x.sums.toNat) (fun j d=>(G 48 j (by omega)).trans (aEs z d)) (by have:=F.sums;omega);have e6:=f4 (X:=X) (a:=o+52) (v:=x.first.toNat) (fun j d=>(G 52 j (by omega)).trans (aEt z d)) (by have:=F.first;omega);have e7:=(I 56 (by omega)).trans aEu;have J:=(I 57 (by omega)).trans (aEv z);refine⟨?_,?_,?_⟩
 ·unfold fU;rw[U,V,W,Z,e4,e5,e6,e7,J];obtain⟨_,hl,hr,hc,hf,ht,hs,hi⟩:=F;obtain⟨nm,len,rate,ch,lp,f,t,sums,first⟩:=x;simp only at *
  rw[aHT hl.1,aHT hr.1,aHT hc.1,aHT hf.1,aHT ht.1,aHT hs.1,aHT hi.1];cases lp <;> rfl
 ·unfold rW;rw[aGD];intro y O;unfold cC at O;obtain⟨j,d,rfl⟩:=aGq.1 O;have aI:=aGA.1 d;rw[aG4,I (58+j) (by omega),aEw z (by omega)]
  rfl
 ·rw[J];split <;> omega
/-! A head. -/
theorem KV(L:List aFK):∀ m,∀ p∈cZ L m,16<=p.1
 | 0=>fun p d=>by simp[cZ]at d
 | m+1=>fun p d=>by
  unfold cZ at d;rcases aGJ.1 d with h1|h1
  ·exact KV L m p h1
  ·cases h:L[m]? with
   | none=>rw[h]at h1;simp at h1
   | some x =>
    rw[h]at h1;simp only at h1;unfold d9 at h1;split at h1
    ·simp only[aGJ,aGw,aGV,aGS]at h1;rcases h1 with (rfl|rfl|rfl|rfl|rfl|rfl|rfl|rfl)|rfl <;> simp only <;> omega
    ·simp only[aGJ,aGw,aGV,aGS]at h1;rcases h1 with rfl|rfl|rfl|rfl|rfl|rfl|rfl|rfl <;> simp only <;> omega
theorem aC0{o i:Nat}{x:aFK}(h:x.name.size<=32)(hi:i<o\/o+58<=i)(v:Nat):fP (d9 o x) i v=v:=by
 refine mX fun p d=>?_
 have h2:=BO (off:=o) (n:=o+58) h (LE _) p d;have h1:o<=p.1:=by
  unfold d9 at d;split at d
  ·simp only[aGJ,aGw,aGV,aGS]at d;rcases d with (rfl|rfl|rfl|rfl|rfl|rfl|rfl|rfl)|rfl <;> simp only <;> omega
  ·simp only[aGJ,aGw,aGV,aGS]at d;rcases d with rfl|rfl|rfl|rfl|rfl|rfl|rfl|rfl <;> simp only <;> omega
 omega
theorem aAj{L:List aFK}(hL:∀ x∈L,x.name.size<=32){m j:Nat}{x:aFK}(t:L[m]? = some x)(z:j<64)(v:Nat):∀ k,k<=L.length->fP (cZ L k) (16+m*64+j) v=if m<k then fP (d9 (16+m*64) x) (16+m*64+j) v else v
 | 0,_=>by rw[sL (by omega)];rfl
 | k+1,hk=>by
  obtain⟨y,d⟩:∃ y,L[k]? = some y:=⟨_,TT (by omega)⟩;rw[BP d,tJ,aAj hL t z v k (by omega)]
  by_cases F:m=k
  ·subst F;rw[t]at d;injection d with d
   subst d;rw[sL (by omega),FN (by omega)]
  ·rw[aC0 (hL y (aGh d)) (by omega)]
   by_cases h:m<k
   ·rw[FN h,FN (by omega)]
   ·rw[sL h,sL (by omega)]
section
variable {bs : List Nat} {L : List aFK} {size N n : Nat}
structure aFW(bs:List Nat)(L:List aFK)(size N n:Nat):Prop where
 len:bs.length=N
 cnt:L.length=n
 room:20+n*64<=N
 zero:∀ i,i<16+n*64->bs.getD i 0=0
 good:∀ x∈L,aGd x
theorem aFW.fits(h:aFW bs L size N n):oQ bs.length (fI N n size++cZ L n):=by
 intro p d;rw[h.len];have:=h.room;rcases aGJ.1 d with h1|h1
 ·exact rJ (n:=N) (N:=N) (by omega) p h1
 ·exact oT (fun x t=>p9 (h.good x t).name) n (by omega) p h1
theorem aFW.mid_len(h:aFW bs L size N n):(lays bs (fI N n size++cZ L n)).length=N:=n7 h.len (by have:=h.fits;rwa [h.len]at this)
theorem aFW.eq(h:aFW bs L size N n):bF bs L size=aW (lays bs (fI N n size++cZ L n)) (16+n*64) (cY 4 (l6 ((lays bs (fI N n size++cZ L n)).take (16+n*64))).toNat):=by
 unfold bF;rw[h.len,h.cnt]
theorem aFW.out_len(h:aFW bs L size N n):(bF bs L size).length=N:=by
 rw[h.eq,dG (by rw[bG,h.mid_len];have:=h.room;omega),h.mid_len]
theorem aFW.gd(h:aFW bs L size N n){i:Nat}(hi:i<16+n*64):(bF bs L size).getD i 0=fP (fI N n size++cZ L n) i 0:=by
 rw[h.eq,yV (by rw[bG,h.mid_len];have:=h.room;omega),sL (by omega),yR h.fits,h.zero i hi]
theorem aFW.far(h:aFW bs L size N n){i:Nat}(hi:20+n*64<=i):(bF bs L size).getD i 0=bs.getD i 0:=by
 rw[h.eq,yV (by rw[bG,h.mid_len];have:=h.room;omega),sL (by rw[bG];omega),yR h.fits];refine mX fun p t=>.inr ?_
 have d:oQ (16+n*64) (fI N n size++cZ L n):=by
  intro q z;rcases aGJ.1 z with h1|h1
  ·exact rJ (n:=N) (by omega) q h1
  ·exact oT (fun x F=>p9 (h.good x F).name) n (by omega) q h1
 have:=d p t;omega
theorem aFW.low(h:aFW bs L size N n){i:Nat}(hi:i<16):(bF bs L size).getD i 0=fP (fI N n size) i 0:=by
 rw[h.gd (by omega),tJ];exact mX fun p d=>.inl (by have:=KV L n p d;omega)
theorem aFW.ent(h:aFW bs L size N n){m j:Nat}{x:aFK}(d:L[m]? = some x)(t:j<64):(bF bs L size).getD (16+m*64+j) 0=fP (d9 (16+m*64) x) (16+m*64+j) 0:=by
 have hm:=(aGi.1 d).1;rw[h.cnt]at hm;rw[h.gd (by omega),tJ,mX (l:=fI N n size) (fun p z=>.inr (by have:=rJ (n:=N) (N:=16) (c:=n) (size:=size) (by omega) p z;omega))];have:=aAj (fun y F=>p9 (h.good y F).name) d t 0 n (by rw[h.cnt];exact LE _);rw[this,FN hm]
theorem aFW.sum(h:aFW bs L size N n):bU (bF bs L size) (16+n*64) 4=(l6 ((bF bs L size).take (16+n*64))).toNat:=by
 have ht:(bF bs L size).take (16+n*64)=(lays bs (fI N n size++cZ L n)).take (16+n*64):=by
  rw[h.eq];unfold aW;rw[aHU,aJX (by rw[aGB,h.mid_len];have:=h.room;omega),aJY,Nat.min_self]
 rw[ht];refine f4 (fun j d=>?_) (by have:=uD ((lays bs (fI N n size++cZ L n)).take (16+n*64));omega);rw[h.eq,yV (by rw[bG,h.mid_len];have:=h.room;omega),FN (by rw[bG];omega)]
 congr 1
 omega
theorem aFW.cntZ_(h:aFW bs L size N n)(t:n<=64):iV (bF bs L size)=n:=by
 unfold iV;refine UJ (fun j d=>?_) (by omega);rw[h.low (by omega)];unfold fI;simp only[fP];rw[sL (by simp only[List.length_cons,List.length_nil];omega),FN (by rw[bG];omega)]
 congr 1;omega
theorem aFW.len_(h:aFW bs L size N n)(d:N<4294967296):bU (bF bs L size) 4 4=N:=by
 refine f4 (fun j t=>?_) d;rw[h.low (by omega)];unfold fI;simp only[fP]
 iterate 2 rw[sL (by simp only[bG,List.length_cons,List.length_nil];omega)]
 rw[FN (by rw[bG];omega)]
 congr 1;omega
theorem aFW.sizeZ_(h:aFW bs L size N n):lP (bF bs L size)=size:=by
 unfold lP;rw[h.low (by omega)];unfold fI;simp only[fP];rw[FN (by simp only[List.length_cons,List.length_nil];omega)]
 rfl
theorem aFW.nought(h:aFW bs L size N n){i:Nat}(h1:11<=i)(h2:i<16):(bF bs L size).getD i 0=0:=by
 rw[h.low h2];unfold fI;simp only[fP]
 iterate 4 rw[sL (by simp only[bG,List.length_cons,List.length_nil];omega)]
theorem aFW.sign(h:aFW bs L size N n):kC (bF bs L size)=false:=by
 have d:cC (bF bs L size) 0 4=[67,65,76,49]:=by
  have g:∀ i,i<4->(bF bs L size).getD (0+i) 0=[67,65,76,49].getD i 0:=fun i hi=>by
   rw[h.low (by omega)];unfold fI;simp only[fP]
   iterate 3 rw[sL (by simp only[bG,List.length_cons,List.length_nil];omega)]
   rw[FN (by simp only[List.length_cons,List.length_nil];omega)]
   congr 1;omega
  have e:cC (bF bs L size) 0 4=[(bF bs L size).getD (0+0) 0,(bF bs L size).getD (0+1) 0,(bF bs L size).getD (0+2) 0,(bF bs L size).getD (0+3) 0]:=rfl;rw[e,g 0 (by omega),g 1 (by omega),g 2 (by omega),g 3 (by omega)]
  rfl
 have t:bU (bF bs L size) 11 4=0:=by
  show (((0*256+(bF bs L size).getD (11+0) 0)*256+(bF bs L size).getD (11+1) 0)*256+(bF bs L size).getD (11+2) 0)*256+(bF bs L size).getD (11+3) 0=0;rw[h.nought (by omega) (by omega),h.nought (by omega) (by omega),h.nought (by omega) (by omega),h.nought (by omega) (by omega)]
 have z:(bF bs L size).getD 15 0=0:=h.nought (by omega) (by omega);unfold kC;rw[d,t,z]
 decide
theorem aFW.dirAt(h:aFW bs L size N n){m:Nat}{x:aFK}(d:L[m]? = some x):fU (bF bs L size) (16+m*64)=x:=(RR (h.good x (aGh d)) (fun j t=>h.ent d t)).1
theorem aFW.dirZ_(h:aFW bs L size N n):eT (bF bs L size) n=L:=by
 refine aGL fun m=>?_
 unfold eT;rw[aF5]
 by_cases hm:m<n
 ·obtain⟨x,d⟩:∃ x,L[m]? = some x:=⟨_,TT (by rw[h.cnt];exact hm)⟩;rw[aHa hm,d];exact aGp some (h.dirAt d)
 ·rw[aGr (by simp;omega),aGr (by rw[h.cnt];omega)]
  rfl
theorem aFW.dirTo_(h:aFW bs L size N n)(z:∀ x∈L,x.right=true)(F:∀ m x y,L[m]? = some x->L[m+1]? = some y->cB x.name y.name=true):∀ m,m<=n->lE (bF bs L size) m=true
 | 0,_=>rfl
 | m+1,hm=>by
  obtain⟨x,d⟩:∃ x,L[m]? = some x:=⟨_,TT (by rw[h.cnt];omega)⟩;have W:=h.dirTo_ z F m (by omega);have G:=aGh d;obtain⟨t,J,O⟩:=RR (h.good x G) (fun j U=>h.ent d U);have V:(decide (m=0)||cB (fU (bF bs L size) (16+(m-1)*64)).name (fU (bF bs L size) (16+m*64)).name)=true:=by
   cases m with
   | zero=>rfl
   | succ k =>
    obtain⟨y,I⟩:∃ y,L[k]? = some y:=⟨_,TT (by rw[h.cnt];omega)⟩;rw[t,show k+1-1=k by omega,h.dirAt I,F k y x I d];simp
  unfold lE;rw[W,V];unfold sE;rw[t,J,z x G,aGs O]
  rfl
theorem aFW.parse(h:aFW bs L size N n)(h1:24<=size)(h2:size<=96)(d:n<=64)(U:N<=4194304)(I:∀ x∈L,x.right=true)(J:∀ m x y,L[m]? = some x->L[m+1]? = some y->cB x.name y.name=true)
 (O:upZ (bX size L n) 64=N)(hm:dI size L n=L):fB (bF bs L size)=0:=by
 have t:=h.out_len;have V:=h.room;unfold fB;rw[sL (by omega),sL (by rw[h.sign];decide)];have z:kF (bF bs L size)=false:=by
  unfold kF;rw[h.sizeZ_,h.cntZ_ d,h.len_ (by omega),t];simp only[aJC,aI8];omega
 rw[sL (by rw[z];decide),h.cntZ_ d,sL (by omega)];have F:rV (bF bs L size)=false:=by
  unfold rV;rw[h.cntZ_ d,h.sum];have:=uD ((bF bs L size).take (16+n*64));simp only[aI8,ne_eq,Decidable.not_not];omega
 have G:qI (bF bs L size)=false:=by
  unfold qI;rw[h.cntZ_ d,h.sizeZ_,h.dirZ_,hm,O,t,EQ];simp only[aJC,aI8,aJB,and_true];omega
 rw[sL (by rw[F];decide),sL (by rw[h.dirTo_ I J n (LE _)];decide),sL (by rw[G];decide)]
end
end
theorem aFp{V y:Nat}(hV:V<4294967296)(t:y<256):bits .or .i64 ((V:Int)*256) (y:Int)=(V:Int)*256+(y:Int):=by
 have d:(V:Int)*256=((V*256:Nat):Int):=by omega
 rw[d];have h1:bits .or .i64 ((V*256:Nat):Int) (y:Int)=((V*256 ||| y:Nat):Int):=by
  have h:V*256 ||| y<2 ^ 62:=Nat.or_lt_two_pow (by omega) (by omega)
  show IntKind.i64.wrap ((BitVec.ofInt 64 ((V*256:Nat):Int) ||| BitVec.ofInt 64 (y:Int)).toNat:Int)=_;rw[BitVec.toNat_or,ofInt_u64 _ (by omega),ofInt_u64 _ (by omega)];exact aGl _ (by omega)
 rw[h1];have h2:V*256 ||| y=V*256+y:=by
  have:=aKb (i:=8) (b:=y) (by omega) V;rw[show V*256=2 ^ 8*V by omega];exact this.symm
 rw[h2];omega
set_option maxRecDepth 100000 in
set_option maxHeartbeats 4000000 in
theorem IM(bs:List Nat)(A:Option Addr)(n cap at_ size:Nat)(w:World)(z:bs.length=n)(F:Row w w.heap.size A (u8s bs))(hb:∀ x∈bs,x<256)(ha:at_+size<=n)(hl:n<=1000000000)(hs:size<=4):
  Calls prog 62 #[.slice A n cap,.int .i64 at_,.int .i64 size] w fun e w'=>e=.returned (.int .i64 (bU bs at_ size:Nat))/\w=w':=by
 have I:=aGC (fun m (h:m<=size)=>(show bU bs at_ m<4294967296 from aGM (qJ hb at_ m) (by
  have:256 ^ m<=256 ^ 4:=aHR (by decide) (by omega);exact this)))
 have J:=aGC (fun m=>(show bU bs at_ (m+1)=bU bs at_ m*256+bs.getD (at_+m) 0 from rfl));have W:=aGC F;have O:=aGC hb;have U:=aGC z;clear F hb z;go_enter func62,ntmps62;go_wp2;go_loopw [7,10] (fun v i wr=>∃ m:Nat,m<=size/\i=.int .i64 m/\v=.int .i64 (bU bs at_ m:Nat)/\w=wr) (fun _ i _=>size-(intOf i).toNat)
 case atStart=>exact⟨0,by omega,rfl,rfl,rfl⟩
 case round =>
  obtain⟨m,hm,rfl,rfl,rfl⟩:=hrel
  by_cases hlt:m<size
  ·have t1:(m:Int)<(size:Int):=by omega
   have t2:(0:Int)<=(m:Int):=by omega
   obtain⟨y,d⟩:=aE (k:=at_+m) U.out (by omega);have aD:=O.out y (aGh d);have G:bs.getD (at_+m) 0=y:=by rw[aGz,d];rfl
   have t:=J.out m;rw[G]at t;obtain⟨b,off,rfl,aB,hc⟩:=W.out (at_+m) (.int .u8 y) (eL d);have aA:=I.out m hm;generalize bU bs at_ m=V at *
   have Z:=aGC t;have aI:=aFp aA aD;have aK:IntKind.i64.wrap ((V:Int)*256)=(V:Int)*256:=aGl _ (by omega);clear d G t aB;go_wp2;go_roundw
   case rel=>exact⟨m+1,by omega,by go_num,by rw[Z.out];push_cast;rfl,trivial⟩
   case measure=>simp[intOf];omega
  ·have aC:m=size:=by omega
   subst aC;have t1:¬ ((m:Int)<(m:Int)):=by omega
   go_wp2
   go_ret
   exact⟨rfl,rfl⟩
section
theorem QX{B first sums size ch k:Nat}{fs:List aFJ}(h1:B<=first)(h2:B<=sums):∀ i,∀ p∈gM first sums size ch k fs i,B<=p.1
 | 0=>fun p d=>by simp[gM]at d
 | i+1=>fun p d=>by
  unfold gM at d;rcases aGJ.1 d with h|h
  ·exact QX h1 h2 i p h
  ·cases t:fs[i]? with
   | none=>rw[t]at h;simp at h
   | some x =>
    rw[t]at h;simp only[nY,aGw,aGV,aGS]at h;rcases h with rfl|rfl <;> simp only <;> omega
theorem TD{B first sums size:Nat}{rows:List (List Int)}(h1:B<=first)(h2:B<=sums):∀ k,∀ p∈fJ first sums size rows k,B<=p.1
 | 0=>fun p t=>by simp[fJ]at t
 | k+1=>fun p t=>by
  unfold fJ at t;rcases aGJ.1 t with h|h
  ·exact TD h1 h2 k p h
  ·cases z:rows[k]? with
   | none=>rw[z]at h;simp at h
   | some d=>rw[z]at h;exact QX h1 h2 _ p h
theorem vX{size:Int}{L M:List aFK}(z:L.length=M.length)(h:∀ (i:Nat) x y,L[i]? = some x->M[i]? = some y->bE x=bE y):∀ m,bX size L m=bX size M m
 | 0=>by unfold bX;rw[z]
 | m+1=>by
  have F:=vX (size:=size) z h m;cases d:L[m]? with
  | none =>
   have t:M[m]? = none:=by
    rw[aJ9]at d ⊢;omega
   have G:bX size L (m+1)=bX size L m:=by
    show (match L[m]? with|some x=>_|none=>_)=_;rw[d]
   have I:bX size M (m+1)=bX size M m:=by
    show (match M[m]? with|some x=>_|none=>_)=_;rw[t]
   rw[G,I,F]
  | some x =>
   have hm:=(aGi.1 d).1;obtain⟨y,t⟩:∃ y,M[m]? = some y:=⟨_,TT (by omega)⟩;rw[gL d,gL t,F,h m x y d t]
theorem TN(size:Int)(L:List aFK):dI size (dI size L L.length) L.length=dI size L L.length:=by
 have h:=mC size L L.length;refine aGL fun i=>?_
 by_cases hi:i<L.length
 ·obtain⟨x,t⟩:∃ x,L[i]? = some x:=⟨_,TT hi⟩;have h1:=iR (size:=size) t L.length;rw[FN hi]at h1;rw[iR h1 L.length,FN hi,h1];have ha:=vX (size:=size) (L:=dI size L L.length) (M:=L) h (fun j a b h2 d=>by
   rw[iR d L.length]at h2;split at h2
   ·injection h2 with h2;rw[<-h2];rfl
   ·injection h2 with h2;rw[h2]) i
  unfold plc;simp only[ha]
  rfl
 ·rw[aGr (by rw[mC];omega),aGr (by omega)]
section
variable {size : Nat} {SS : List aFM}
structure aFY(size:Nat)(SS:List aFM):Prop where
 lo:24<=size
 hi:size<=96
 many:SS.length<=8
 fine:∀ s∈SS,aGf s
 right:∀ s∈SS,(aN s).right=true
 asc:∀ m x y,SS[m]? = some x->SS[m+1]? = some y->cB x.name y.name=true
theorem aFY.few(h:aFY size SS):∀ x∈SS.map aN,MX x:=fun x t=>by
 obtain⟨s,d,rfl⟩:=aGq.1 t;exact wM (h.fine s d)
theorem aFY.bd(h:aFY size SS)(m:Nat)(hm:m<=SS.length):0<=bX size (SS.map aN) m/\bX size (SS.map aN) m<=20000:=by
 have:=xT (size:=(size:Int)) (by have:=h.lo;omega) (by have:=h.hi;omega) h.few m;rw[aF7]at this;have:=h.many;omega
theorem aFY.len_eq(h:aFY size SS):(b6 size SS:Int)=upZ (bX size (SS.map aN) SS.length) 64:=by
 unfold b6;have hb:=h.bd SS.length (LE _);have d:=tW (n:=bX (size:Int) (SS.map aN) SS.length) (b:=64) (by omega) (.inr rfl);rw[aHT (by omega)]
theorem aFY.base(h:aFY size SS)(m:Nat):20+64*(SS.length:Int)<=bX size (SS.map aN) m:=by
 have h1:=tZ (size:=(size:Int)) (by have:=h.lo;omega) h.few (aG3 m);have d:bX (size:Int) (SS.map aN) 0=16+(SS.length:Int)*64+4:=by show 16+((SS.map aN).length:Int)*64+4=_;rw[aF7]
 rw[d]at h1;omega
theorem aFY.len_bd(h:aFY size SS):20+SS.length*64<=b6 size SS/\b6 size SS<=30000:=by
 have he:=h.len_eq;have hb:=h.bd SS.length (LE _);have d:=h.base SS.length;have t:=tW (n:=bX (size:Int) (SS.map aN) SS.length) (b:=64) (by omega) (.inr rfl);have z:upZ (bX (size:Int) (SS.map aN) SS.length) 64<=30000:=by
  unfold upZ;generalize bX (size:Int) (SS.map aN) SS.length=a at *
  omega
 omega
def aG(size:Nat)(SS:List aFM):List aFK:=dI size (SS.map aN) SS.length
theorem dJ(size:Nat)(SS:List aFM):(aG size SS).length=SS.length:=by unfold aG;rw[mC,aF7]
theorem fZ{m:Nat}{s:aFM}(d:SS[m]? = some s):(aG size SS)[m]? = some (plc size (SS.map aN) m (aN s)):=by
 have hm:=(aGi.1 d).1;have h:(SS.map aN)[m]? = some (aN s):=by rw[aF5,d];rfl
 unfold aG;rw[iR h,FN hm]
theorem UH{x:aFK}(d:x∈aG size SS):∃ m s,SS[m]? = some s/\x=plc size (SS.map aN) m (aN s):=by
 obtain⟨m,hm,rfl⟩:=aHz.1 d;rw[dJ]at hm;refine⟨m,SS[m],TT hm,?_⟩;have h1:=fZ (size:=size) (TT hm);rw[TT (by rw[dJ];exact hm)]at h1;exact aG7 h1
theorem Y7{x:aFK}(h:x.right=true):dY x.name=true:=by
 unfold aFK.right at h;simp only[aGu]at h;exact h.1.1.1.1.1.1
theorem qK{x:aFK}(h:x.right=true):(1<=x.length/\x.length<=1048576)/\(1<=x.rate/\x.rate<=192000)/\(1<=x.channels/\x.channels<=2)/\(0<=x.from_/\x.from_<=1048576)/\(0<=x.to_/\x.to_<=1048576):=by
 unfold aFK.right at h;simp only[aGu,aHw,aGy]at h;obtain⟨⟨⟨⟨⟨⟨h1,h2⟩,t⟩,z⟩,F⟩,G⟩,d⟩:=h;have hf:(0<=x.from_/\x.from_<=1048576)/\(0<=x.to_/\x.to_<=1048576):=by
  unfold lK at d;split at d <;> simp only[aGu,aGy]at d <;> omega
 exact⟨by omega,by omega,by omega,hf.1,hf.2⟩
theorem aDd{x:aFK}(h:x.right=true)(d:0<=x.sums/\x.sums<4294967296)(hf:0<=x.first/\x.first<4294967296):aGd x:=by
 obtain⟨h1,h2,t,z,F⟩:=qK h;exact⟨Y7 h,by omega,by omega,by omega,by omega,by omega,d,hf⟩
theorem aFY.goodE(h:aFY size SS):∀ x∈aG size SS,aGd x/\x.right=true:=fun x G=>by
 obtain⟨m,s,t,rfl⟩:=UH G;have hm:=(aGi.1 t).1;have z:=aGh t;have d:(plc size (SS.map aN) m (aN s)).right=true:=h.right s z;have hb:=h.bd m (by omega);have hF:=l9 (h.few _ (aGq.2 ⟨s,z,rfl⟩));refine⟨aDd d ⟨hb.1,by show bX size (SS.map aN) m<_;omega⟩ ?_,d⟩;show 0<=upZ (bX size (SS.map aN) m+4*bE (aN s)) 16/\upZ (bX size (SS.map aN) m+4*bE (aN s)) 16<_;unfold upZ;generalize bX (size:Int) (SS.map aN) m=a at *
 generalize bE (aN s)=F at *
 omega
theorem aFY.head(h:aFY size SS):aFW (lays (List.replicate (b6 size SS) 0) (cT size SS (aG size SS) SS.length)) (aG size SS) size (b6 size SS) SS.length:=by
 have F:oQ (b6 size SS) (cT size SS (aG size SS) SS.length):=o4 h.lo h.hi h.fine h.len_eq SS.length;have I:=h.len_bd;refine⟨n7 (by simp) F,dJ size SS,I.1,fun i hi=>?_,fun x J=>(h.goodE x J).1⟩;rw[yR (by rw[aHQ];exact F)];have G:(List.replicate (b6 size SS) 0).getD i 0=0:=by
  rw[aGz,aHE];split <;> rfl
 rw[G];refine mX fun p t=>.inl ?_
 have U:∀ m,∀ p∈cT size SS (aG size SS) m,20+64*SS.length<=p.1:=by
  intro m
  induction m with
  | zero=>intro p t;simp[cT]at t
  | succ m O =>
   intro p t;unfold cT at t;rcases aGJ.1 t with d|d
   ·exact O p d
   ·cases z:SS[m]? with
    | none=>rw[z]at d;simp at d
    | some s =>
     rw[z,fZ z]at d;have hb:=h.base m;have hF:=l9 (h.few _ (aGq.2 ⟨s,aGh z,rfl⟩));have V:=tW (n:=bX size (SS.map aN) m+4*bE (aN s)) (b:=16) (by omega) (.inl rfl);refine TD ?_ ?_ _ p d
     ·show 20+64*SS.length<=(upZ (bX size (SS.map aN) m+4*bE (aN s)) 16).toNat;omega
     ·show 20+64*SS.length<=(bX size (SS.map aN) m).toNat;omega
 have:=U _ p t;omega
theorem oF(size:Nat)(SS:List aFM):bC size SS=bF (lays (List.replicate (b6 size SS) 0) (cT size SS (aG size SS) SS.length)) (aG size SS) size:=rfl
theorem kS(h:aFY size SS):(bC size SS).length=b6 size SS:=by rw[oF];exact h.head.out_len
theorem IH(h:aFY size SS):lP (bC size SS)=size:=by rw[oF];exact h.head.sizeZ_
theorem LW(h:aFY size SS):iV (bC size SS)=SS.length:=by rw[oF];exact h.head.cntZ_ (by have:=h.many;omega)
theorem LY(h:aFY size SS):eT (bC size SS) SS.length=aG size SS:=by rw[oF];exact h.head.dirZ_
theorem CT(h:aFY size SS):fB (bC size SS)=0:=by
 rw[oF];have I:bX (size:Int) (aG size SS) SS.length=bX size (SS.map aN) SS.length:=vX (by rw[dJ,aF7]) (fun j a b h2 G=>by
  unfold aG at h2;rw[iR G]at h2;split at h2
  ·injection h2 with h2;rw[<-h2];rfl
  ·injection h2 with h2;rw[h2]) _
 refine h.head.parse h.lo h.hi (by have:=h.many;omega) (by have:=h.len_bd;omega) (fun x d=>(h.goodE x d).2) (fun m x y d t=>?_) (by rw[I];exact h.len_eq.symm) ?_
 ·have hm:=(aGi.1 t).1;rw[dJ]at hm;have z:SS[m]? = some SS[m]:=TT (by omega);have F:SS[m+1]? = some SS[m+1]:=TT hm;rw[fZ z]at d;rw[fZ F]at t;injection d with d
  injection t with t
  rw[<-d,<-t];exact h.asc m _ _ z F
 ·have:=TN (size:Int) (SS.map aN);rw[aF7]at this;exact this
end
end
section
open Go.RowKit Go.Lib Go.Sort
def nlB(x y:List UInt8):Bool:=decide (compareBytes x y<0)
theorem aDD:∀ (x y:List UInt8),decide (x<y)=nlB x y
 | [],[]=>by simp[nlB,compareBytes]
 | [],_::_=>by simp[nlB,compareBytes]
 | _::_,[]=>by simp[nlB,compareBytes]
 | u::r,v::s=>by
  have h:=aDD r s;unfold nlB at *
  unfold compareBytes;simp only[List.cons_lt_cons_iff]
  by_cases h1:u<v
  ·simp[h1]
  ·by_cases h2:v<u
   ·have d:u≠v:=fun e=>by subst e;exact h1 h2
    simp[h1,h2,d]
   ·have d:u=v:=VF (aJt (tV h2) (tV h1));subst d;simp[h1,<-h]
theorem H7(x y:List UInt8):decide (x<=y) = !nlB y x:=by
 rw[<-aDD];have:(x<=y) = ¬ (y<x):=rfl;simp only[this]
 by_cases h:y<x <;> simp[h]
theorem IA(x y:List UInt8):nlB x y=cB ⟨x.toArray⟩ ⟨y.toArray⟩:=rfl
theorem aDC{x y:List UInt8}(h1:nlB x y=false)(h2:nlB y x=false):x=y:=by
 have:=AL (a:=⟨x.toArray⟩) (b:=⟨y.toArray⟩) h1 h2;have h:=aGp (fun b:ByteArray=>b.data.toList) this;simpa using h
theorem zA{d:List aFM}(h:WY d=false):(d.map (·.name.data.toList)).Nodup:=by
 have I:(gX d).Perm (d.map (·.name.data.toList)):=List.mergeSort_perm _ _;refine I.nodup_iff.1 ?_;have t:(gX d).Pairwise fun x y=>decide (x<=y)=true:=by
  refine List.pairwise_mergeSort (fun a b c h1 h2=>?_) (fun a b=>?_) _
  ·rw[H7]at *
   simp only[aIQ,IA]at *
   exact oC h2 h1
  ·rw[H7,H7];cases h1:nlB b a
   ·rfl
   ·have:=wO (a:=⟨b.toArray⟩) (b:=⟨a.toArray⟩) h1;rw[IA,this]
    rfl
 have O:=sO d;unfold WY sX at h;generalize gX d=l at *
 rw[aIt]at t;unfold List.Nodup;rw[aIt];intro i j hi F J he;rw[List.any_eq_false]at h;have G:=h i (aGA.2 (by omega));have h1:l[i]=l[i+1]'(by omega):=by
  refine aDC ?_ ?_
  ·by_cases z:i+1=j
   ·subst z;rw[<-he,IA];exact wP _
   ·have h2:=t (i+1) j (by omega) F (by omega);rw[H7,<-he]at h2;simpa using h2
  ·have h2:=t i (i+1) hi (by omega) (by omega);rw[H7]at h2;simpa using h2
 apply G;rw[TT hi,TT (by omega),h1];simp
theorem aB3{d:List aFM}(h:WY d=false):(cV d).Pairwise fun x y=>cB x.name y.name=true:=by
 have I:=aAD d 0;obtain⟨O,J⟩:=rU (fun x:Int × aFM=>(x.1,x.2.name)) (d.zipIdx.map fun p=>((p.2:Int),p.1)) I;have hnd:=zA h;have t:((cV d).map (·.name.data.toList)).Nodup:=((oI d).map _).nodup_iff.2 hnd;have G:(cV d).Pairwise fun x y=>cB y.name x.name=false:=by
  unfold cV;rw[aIu];refine J.imp fun {x y} z=>?_
  rw[AP]at z;rcases z with h1|⟨h1,_⟩
  ·exact wO h1
  ·exact h1
 unfold List.Nodup at t;rw[aIu]at t;refine (G.and t).imp fun {x y} ⟨h1,h2⟩=>?_
 cases F:cB x.name y.name
 ·exact absurd (aGp (fun b:ByteArray=>b.data.toList) (AL F h1)) h2
 ·rfl
theorem NN{d:List aFM}(h:dM d=0):WY d=false:=by
 unfold dM at h;split at h
 ·cases h
 ·split at h
  ·rename_i h1;exact absurd h h1
  ·split at h
   ·cases h
   ·rename_i h2;simpa using h2
theorem aEk{size:Nat}{t:List aFM}(h1:24<=size)(h2:size<=96)(J:t.length<=8)(O:∀ s∈t,s.small)(h:dM t=0):aFY size (cV t):=by
 have I:=KQ h;have z:=oI t;refine⟨h1,h2,by rw[z.length_eq];exact J,fun s F=>vB (I s (z.subset F)) (O s (z.subset F)),fun s F=>tQ (I s (z.subset F)),fun m x y G d=>?_⟩;have hm:=(aGi.1 d).1;have:=aIt.1 (aB3 (NN h)) m (m+1) (by omega) hm (by omega);rw[TT (by omega)]at G;rw[TT hm]at d;injection G with G
 injection d with d
 rw[<-G,<-d];exact this
end
end Go.Proofs.YtbpgfkjhclpbdaaGreatDoor
