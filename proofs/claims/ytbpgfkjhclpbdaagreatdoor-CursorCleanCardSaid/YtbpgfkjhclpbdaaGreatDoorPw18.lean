/- CodeI, CodeP, CodeJ, CodeQ, CodeK. Conditions: as each theorem states. -/
import Derived.Test.YtbpgfkjhclpbdaaGreatDoorPw16
import Derived.Test.YtbpgfkjhclpbdaaGreatDoorPw17
namespace Go.Proofs.YtbpgfkjhclpbdaaGreatDoor
open Tryz
open Go.RowKit
def aK(p:List Int)(i:Nat):List Int:=(p.drop (i*16)).take 16
theorem bM{p:List Int}{c i:Nat}(d:p.length=c*16)(hi:i<c):(aK p i).length=16:=by
 unfold aK;rw[aGB,aHV,d];omega
def bI(sz c:Nat)(f:Nat->List Int)(m:Nat):List Int:=((List.range c).map fun i=>if i<m then f i else List.replicate sz 0).flatten
theorem rS{sz c:Nat}{f:Nat->List Int}(hf:∀ i,(f i).length=sz){m i j:Nat}(hi:i<c)(I:j<sz):(bI sz c f m)[i*sz+j]? = if i<m then (f i)[j]? else some 0:=by
 unfold bI;have J:∀ z∈(List.range c).map (fun i=>if i<m then f i else List.replicate sz 0),z.length=sz:=by
  intro z G;obtain⟨k,_,rfl⟩:=aGq.1 G;split
  ·exact hf k
  ·simp
 have V:∀ (t:List (List Int)),(∀ z∈t,z.length=sz)->∀ i,t.flatten[i*sz+j]? = t[i]?.bind (·[j]?):=by
  intro t
  induction t with
  | nil=>intro _ i;simp
  | cons d r U =>
   intro h i;have F:=h d (by simp);cases i with
   | zero=>rw[List.flatten_cons,aIk,aGn,aGU (by omega)];rfl
   | succ i =>
    rw[List.flatten_cons,aGP (by rw[F,aHb];omega),F,show (i+1)*sz+j-sz=i*sz+j by rw[aHb];omega,U (fun x O=>h x (by simp[O]))]
    rfl
 rw[V _ J,aI _ hi];simp only[Option.bind_some];split
 ·rfl
 ·rw[aHE,FN I]
theorem eP{sz c:Nat}{f:Nat->List Int}(hf:∀ i,(f i).length=sz)(m:Nat):(bI sz c f m).length=c*sz:=by
 unfold bI;rw[List.length_flatten,aHj];have:(List.range c).map (List.length ∘ fun i=>if i<m then f i else List.replicate sz 0)=List.replicate c sz:=by
  apply aGL;intro i;rw[aF5,aHE];rcases aGt i c with hi|hi
  ·rw[aHa hi,FN hi];simp only[Option.map_some,Function.comp];split
   ·rw[hf]
   ·simp
  ·rw[aGr (by simpa using hi),sL (by omega)];rfl
 rw[this,aKa]
theorem o7{sz c:Nat}{f:Nat->List Int}(hf:∀ i,(f i).length=sz)(F:0<sz){m:Nat}(hm:m<c):aW (bI sz c f m) (m*sz) (f m)=bI sz c f (m+1):=by
 have G:m*sz+(f m).length<=(bI sz c f m).length:=by
  rw[hf,eP hf,<-Nat.succ_mul];exact aHq sz hm
 apply aGL;intro t;rw[mF G,hf];rcases aGt t (c*sz) with ht|ht
 ·obtain⟨i,j,z,hi,e⟩:∃ i j,j<sz/\i<c/\t=i*sz+j:=⟨t / sz,t % sz,aG6 _ F,(aJs F).2 ht,by rw[aH1];exact (aI3 t sz).symm⟩;subst e;rw[rS hf hi z,rS hf hi z]
  by_cases d:i=m
  ·subst d;rw[FN ⟨by omega,by omega⟩,FN (by omega)]
   congr 1
   omega
  ·have I:¬ (m*sz<=i*sz+j/\i*sz+j<m*sz+sz):=by
    intro ⟨h1,h2⟩;rcases Nat.lt_or_gt_of_ne d with h|h
    ·have:=aHq sz (show i+1<=m from h);rw[aHb]at this;omega
    ·have:=aHq sz (show m+1<=i from h);rw[aHb]at this;omega
   rw[sL I]
   by_cases h:i<m
   ·rw[FN h,FN (by omega)]
   ·rw[sL h,sL (by omega)]
 ·have h1:c*sz<=t:=ht;have h2:=aHq sz (show m+1<=c from hm);rw[aHb]at h2;rw[sL (by omega),aGr (by rw[eP hf];exact h1),aGr (by rw[eP hf];exact h1)]
section
theorem j9(l:List Int)(j:Nat):bgt l j=l[j]?.getD 0:=by unfold bgt;rw[aGz]
theorem rI{l:List Int}{j:Nat}(h:j<l.length):l[j]? = some (bgt l j):=by
 rw[j9,TT h];rfl
theorem aBS{l:List Int}{off:Nat}{xs:List Int}(h:off+xs.length<=l.length)(j:Nat):bgt (aW l off xs) j=if off<=j/\j<off+xs.length then bgt xs (j-off) else bgt l j:=by
 rw[j9,mF h];split
 ·rw[j9]
 ·rw[j9]
theorem KZ(l:List Int){n k:Nat}(hk:k<n):bgt (lW l n) k=bgt l (n-1-k):=aD (aI _ hk)
theorem NV(l:List Int)(off n:Nat){k:Nat}(hk:k<n):bgt ((l.drop off).take n) k=bgt l (off+k):=by
 rw[j9,aHe,FN hk,aHp,j9]
def jM(d h:Int->Int->aF1->Int)(p:List Int)(m:Nat):List Int:=(List.range p.length).map fun j =>
 if 1<=(j+8) / 16/\(j+8) / 16<m then (if j<(j+8) / 16*16 then d (bgt p j) (bgt p ((j+8) / 16*32-1-j)) (bD ((j+8) / 16*16-1-j)) else h (bgt p ((j+8) / 16*32-1-j)) (bgt p j) (bD (j-(j+8) / 16*16))) else bgt p j
def e9(p:List Int)(m:Nat):List Int:=jM dQ eK p m
def eO(p:List Int)(m:Nat):List Int:=jM unA unB p m
theorem eD(d h:Int->Int->aF1->Int)(p:List Int)(m:Nat):(jM d h p m).length=p.length:=by simp[jM]
theorem fA(fa fb:Int->Int->aF1->Int)(p:List Int)(m:Nat){j:Nat}(hj:j<p.length):bgt (jM fa fb p m) j =
  if 1<=(j+8) / 16/\(j+8) / 16<m then (if j<(j+8) / 16*16 then fa (bgt p j) (bgt p ((j+8) / 16*32-1-j)) (bD ((j+8) / 16*16-1-j)) else fb (bgt p ((j+8) / 16*32-1-j)) (bgt p j) (bD (j-(j+8) / 16*16))) else bgt p j:=aD (aI _ hj)
theorem II(d h:Int->Int->aF1->Int)(p:List Int){m:Nat}(hm:m<=1):jM d h p m=p:=by
 refine gZ (eD _ _ _ _) rfl (fun j t=>?_);rw[fA _ _ _ _ t,sL (by omega)]
def gA(d:Int->Int->aF1->Int)(xs h:List Int)(o k:Nat):List Int:=(List.range 8).map fun j=>if j<k then d (bgt xs j) (bgt h (o+j)) (bD j) else bgt xs j
def gB(h:Int->Int->aF1->Int)(xs d:List Int)(o k:Nat):List Int:=(List.range d.length).map fun j=>if o<=j/\j<o+k then h (bgt xs (j-o)) (bgt d j) (bD (j-o)) else bgt d j
theorem aDa(d:Int->Int->aF1->Int)(xs h:List Int)(o k:Nat):(gA d xs h o k).length=8:=by simp[gA]
theorem OA(h:Int->Int->aF1->Int)(xs d:List Int)(o k:Nat):(gB h xs d o k).length=d.length:=by simp[gB]
theorem aFf(d:Int->Int->aF1->Int)(xs t:List Int)(o:Nat){j:Nat}(h:j<8):bgt (gA d xs t o 8) j=d (bgt xs j) (bgt t (o+j)) (bD j):=by
 unfold gA;rw[aD (aI _ h),FN h]
theorem aFg(h:Int->Int->aF1->Int)(xs d:List Int)(o:Nat){j:Nat}(t:j<d.length):bgt (gB h xs d o 8) j=if o<=j/\j<o+8 then h (bgt xs (j-o)) (bgt d j) (bD (j-o)) else bgt d j:=aD (aI _ t)
def fS(p:List Int)(o:Nat):List Int:=lW ((p.drop (o-8)).take 8) 8
theorem RQ(p:List Int)(o:Nat):(fS p o).length=8:=nP _ _
theorem yB(p:List Int){o k:Nat}(d:8<=o)(hk:k<8):bgt (fS p o) k=bgt p (o-1-k):=by
 unfold fS;rw[KZ _ hk,NV _ _ _ (by omega),show o-8+(8-1-k)=o-1-k by omega]
def yS(d h:Int->Int->aF1->Int)(p:List Int)(o:Nat):List Int:=aW (gB h (fS p o) p o 8) (o-8) (lW (gA d (fS p o) p o 8) 8)
theorem LN(d t:Int->Int->aF1->Int){p:List Int}{c i:Nat}(O:p.length=c*16)(h1:1<=i)(hi:i<c):yS d t (jM d t p i) (i*16)=jM d t p (i+1):=by
 have G:=eD d t p i;have J:i*16-8+(lW (gA d (fS (jM d t p i) (i*16)) (jM d t p i) (i*16) 8) 8).length<=(gB t (fS (jM d t p i) (i*16)) (jM d t p i) (i*16) 8).length:=by
  rw[nP,OA,G,O];omega
 have wK:∀ j,j<p.length->i<=(j+8) / 16->bgt (jM d t p i) j=bgt p j:=fun j z h=>by rw[fA _ _ _ _ z,sL (by omega)]
 refine gZ (n:=p.length) ?_ (eD _ _ _ _) (fun j z=>?_)
 ·unfold yS;rw[dG J,OA,G]
 ·unfold yS;rw[aBS J,nP,fA _ _ _ _ z]
  by_cases ha:i*16-8<=j/\j<i*16-8+8
  ·have F:(j+8) / 16=i:=by omega
   rw[FN ha,F,FN (by omega),FN (by omega),KZ _ (by omega),aFf _ _ _ _ (by omega),yB _ (by omega) (by omega),show i*16-1-(8-1-(j-(i*16-8)))=j by omega,
    show i*16+(8-1-(j-(i*16-8)))=i*32-1-j by omega,show 8-1-(j-(i*16-8))=i*16-1-j by omega,wK j z (by omega),wK (i*32-1-j) (by omega) (by omega)]
  ·rw[sL ha,aFg _ _ _ _ (by rw[G];exact z)]
   by_cases hb:i*16<=j/\j<i*16+8
   ·have F:(j+8) / 16=i:=by omega
    rw[FN hb,F,FN (by omega),sL (by omega),yB _ (by omega) (by omega),show i*16-1-(j-i*16)=i*32-1-j by omega,wK j z (by omega),wK (i*32-1-j) (by omega) (by omega)]
   ·rw[sL hb,fA _ _ _ _ z];have U:(j+8) / 16≠i:=by omega
    by_cases I:1<=(j+8) / 16/\(j+8) / 16<i
    ·rw[FN I,FN (show 1<=(j+8) / 16/\(j+8) / 16<i+1 by omega)]
    ·rw[sL I,sL (show ¬ (1<=(j+8) / 16/\(j+8) / 16<i+1) by omega)]
theorem aBN{p:List Int}{c:Nat}(G:p.length=c*16):eO (e9 p c) c=p:=by
 unfold eO e9;refine gZ (n:=p.length) (by rw[eD,eD]) rfl (fun j t=>?_);rw[fA _ _ _ _ (by rw[eD];exact t)]
 by_cases h:1<=(j+8) / 16/\(j+8) / 16<c
 ·rw[FN h];obtain⟨o,z⟩:∃ o,(j+8) / 16=o:=⟨_,rfl⟩;rw[z]at h ⊢;have hk:o*32-1-j<p.length:=by omega
  have F:(o*32-1-j+8) / 16=o:=by omega
  rw[fA _ _ _ _ t,fA _ _ _ _ hk,z,F,FN h,FN h]
  by_cases d:j<o*16
  ·rw[FN d,FN d,sL (by omega),show o*32-1-(o*32-1-j)=j by omega,show o*32-1-j-o*16=o*16-1-j by omega];exact (uB _ _ _).1
  ·rw[sL d,sL d,FN (by omega),show o*32-1-(o*32-1-j)=j by omega,show o*16-1-(o*32-1-j)=j-o*16 by omega];exact (uB _ _ _).2
 ·rw[sL h,fA _ _ _ _ t,sL h]
def BdL(M:Int)(p:List Int):Prop:=∀ j,j<p.length->-M<=bgt p j/\bgt p j<=M
theorem BdL.mono{M N:Int}{p:List Int}(h:BdL M p)(t:M<=N):BdL N p:=fun j d=>by have:=h j d;omega
theorem BdL.turnB{M:Int}{p:List Int}(h:BdL M p)(t:M<=1099511627776):TurnB p:=fun k x d=>by
 have:=h k (aGi.1 d).1;rw[aD d]at this;omega
theorem BdL.mem{M:Int}{p:List Int}(h:BdL M p):∀ x∈p,-M<=x/\x<=M:=fun x t=>by
 obtain⟨j,d⟩:=aJT.1 t;have:=h j (aGi.1 d).1;rw[aD d]at this;exact this
theorem BdL.within{M:Int}{b:List Int}(h:BdL M b)(hb:b.length=16):Within M b:=fun k hk=>h k (by omega)
theorem JA{M:Int}{b:List Int}(h:Within M b)(hb:b.length=16):BdL M b:=fun j d=>h j (by omega)
theorem LZ{fa fb : Int → Int → aF1 → Int}(hf : ∀ (k : Nat), k < 8 → ∀ (a b M : Int), -M ≤ a → a ≤ M → -M ≤ b → b ≤ M →
      (-(3 * M + 8) ≤ 2 * fa a b (bD k) ∧ 2 * fa a b (bD k) ≤ 3 * M + 8) ∧ (-(3 * M + 8) ≤ 2 * fb a b (bD k) ∧ 2 * fb a b (bD k) ≤ 3 * M + 8))
   {M N : Int}{p : List Int}{c m : Nat}(hp : p.length = c * 16)(hm : m ≤ c)(h : BdL M p)(hN : 3 * M + 8 ≤ 2 * N)(hMN : M ≤ N): BdL N (jM fa fb p m) := by
  intro j hj
  rw [eD] at hj
  rw [fA _ _ _ _ hj]
  have h0 := h j hj
  split
  · rename_i h1
    have h2 := h ((j + 8) / 16 * 32 - 1 - j) (by omega)
    split
    · have := (hf ((j + 8) / 16 * 16 - 1 - j) (by omega) _ _ M h0.1 h0.2 h2.1 h2.2).1
      omega
    · have := (hf (j - (j + 8) / 16 * 16) (by omega) _ _ M h2.1 h2.2 h0.1 h0.2).2
      omega
  · omega
theorem AF{M N:Int}{p:List Int}{c m:Nat}(z:p.length=c*16)(hm:m<=c)(h:BdL M p)(t:3*M+8<=2*N)(d:M<=N):BdL N (e9 p m):=LZ EH z hm h t d
theorem L7{M N:Int}{p:List Int}{c m:Nat}(z:p.length=c*16)(hm:m<=c)(h:BdL M p)(t:3*M+8<=2*N)(d:M<=N):BdL N (eO p m):=LZ uA z hm h t d
/-! Rows of blocks. -/
def lF(c:Nat)(R:Nat->List Int):List Int:=((List.range c).map R).flatten
theorem pU{sz c:Nat}{R:Nat->List Int}(hR:∀ i,i<c->(R i).length=sz){i j:Nat}(hi:i<c)(V:j<sz):(lF c R)[i*sz+j]? = (R i)[j]?:=by
 unfold lF;have I:∀ z∈(List.range c).map R,z.length=sz:=by
  intro z G;obtain⟨k,hk,rfl⟩:=aGq.1 G;exact hR k (aGA.1 hk)
 have U:∀ (t:List (List Int)),(∀ z∈t,z.length=sz)->∀ i,t.flatten[i*sz+j]? = t[i]?.bind (·[j]?):=by
  intro t
  induction t with
  | nil=>intro _ i;simp
  | cons d r O =>
   intro h i;have F:=h d (by simp);cases i with
   | zero=>rw[List.flatten_cons,aIk,aGn,aGU (by omega)];rfl
   | succ i =>
    rw[List.flatten_cons,aGP (by rw[F,aHb];omega),F,show (i+1)*sz+j-sz=i*sz+j by rw[aHb];omega,O (fun x J=>h x (by simp[J]))]
    rfl
 rw[U _ I,aI _ hi]
 rfl
theorem kP{sz c:Nat}{R:Nat->List Int}(hR:∀ i,i<c->(R i).length=sz):(lF c R).length=c*sz:=by
 unfold lF;rw[List.length_flatten,aHj];have:(List.range c).map (List.length ∘ R)=List.replicate c sz:=by
  apply aGL;intro i;rw[aF5,aHE];rcases aGt i c with hi|hi
  ·rw[aHa hi,FN hi];simp only[Option.map_some,Function.comp,hR i hi]
  ·rw[aGr (by simpa using hi),sL (by omega)];rfl
 rw[this,aKa]
theorem aAx{sz c:Nat}{a b:List Int}(d:0<sz)(ha:a.length=c*sz)(hb:b.length=c*sz)(h:∀ i j,i<c->j<sz->a[i*sz+j]? = b[i*sz+j]?):a=b:=by
 apply aGL;intro t;rcases aGt t (c*sz) with ht|ht
 ·obtain⟨i,j,z,hi,e⟩:∃ i j,j<sz/\i<c/\t=i*sz+j:=⟨t / sz,t % sz,aG6 _ d,(aJs d).2 ht,by rw[aH1];exact (aI3 t sz).symm⟩;subst e;exact h i j hi z
 ·rw[aGr (by omega),aGr (by omega)]
def eJ(sz:Nat)(p:List Int)(i:Nat):List Int:=(p.drop (i*sz)).take sz
theorem uN{sz:Nat}(p:List Int)(i:Nat){j:Nat}(d:j<sz):(eJ sz p i)[j]? = p[i*sz+j]?:=by
 unfold eJ;rw[aHe,FN d,aHp]
theorem mK{sz c i:Nat}(hi:i<c):i*sz+sz<=c*sz:=by
 have:=aHq sz (show i+1<=c from hi)
 rwa [aHb]at this
theorem qL{sz:Nat}{p:List Int}{c i:Nat}(d:p.length=c*sz)(hi:i<c):(eJ sz p i).length=sz:=by
 have:=mK (sz:=sz) hi;unfold eJ;rw[aGB,aHV,d];omega
theorem tR{sz c:Nat}{R:Nat->List Int}(hR:∀ i,i<c->(R i).length=sz){i:Nat}(hi:i<c):eJ sz (lF c R) i=R i:=by
 apply aGL;intro j;rcases aGt j sz with d|d
 ·rw[uN _ _ d,pU hR hi d]
 ·rw[aGr (by rw[qL (kP hR) hi];exact d),aGr (by rw[hR i hi];exact d)]
theorem rD{sz c:Nat}{p:List Int}(t:0<sz)(d:p.length=c*sz):lF c (eJ sz p)=p :=
 aAx t (kP fun i hi=>qL d hi) d fun i j hi h=>by rw[pU (fun i hi=>qL d hi) hi h,uN _ _ h]
theorem mT{c:Nat}{R S:Nat->List Int}(h:∀ i,i<c->R i=S i):lF c R=lF c S:=by
 unfold lF
 congr 1
 apply aGZ;intro i hi;exact h i (aGA.1 hi)
theorem aBk{sz c:Nat}{R:Nat->List Int}(J:0<sz)(hR:∀ i,i<c->(R i).length=sz){m:Nat}(hm:m<c){x:List Int}(t:x.length=sz):aW (lF c R) (m*sz) x=lF c (fun i=>if i=m then x else R i):=by
 have z:∀ i,i<c->((fun i=>if i=m then x else R i) i).length=sz:=fun i hi=>by
  show (if i=m then x else R i).length=sz;split
  ·exact t
  ·exact hR i hi
 have F:m*sz+x.length<=(lF c R).length:=by rw[t,kP hR];exact mK hm
 refine aAx J (by rw[dG F,kP hR]) (kP z) (fun i j hi G=>?_);rw[mF F,t,pU z hi G,pU hR hi G];show _=(if i=m then x else R i)[j]?
 by_cases d:i=m
 ·subst d;rw[FN ⟨by omega,by omega⟩,FN rfl]
  congr 1
  omega
 ·have I:¬ (m*sz<=i*sz+j/\i*sz+j<m*sz+sz):=by
   intro ⟨h1,h2⟩;rcases Nat.lt_or_gt_of_ne d with h|h
   ·have:=aHq sz (show i+1<=m from h);rw[aHb]at this;omega
   ·have:=aHq sz (show m+1<=i from h);rw[aHb]at this;omega
  rw[sL I,sL d]
def dE(f:Nat->List Int->List Int)(p:List Int)(c m:Nat):List Int:=lF c fun i=>if i<m then f i (aK p i) else aK p i
section
variable {f : Nat → List Int → List Int} {p : List Int} {c : Nat}
theorem rB(hf:∀ i b,i<c->b.length=16->(f i b).length=16)(d:p.length=c*16)(m:Nat):∀ i,i<c->(if i<m then f i (aK p i) else aK p i).length=16:=fun i hi=>by
 split
 ·exact hf i _ hi (bM d hi)
 ·exact bM d hi
theorem kO(hf:∀ i b,i<c->b.length=16->(f i b).length=16)(d:p.length=c*16)(m:Nat):(dE f p c m).length=c*16:=kP (rB hf d m)
theorem vZ(d:p.length=c*16):dE f p c 0=p:=by
 refine aHH ?_ (rD (by decide) d);exact mT fun i _=>sL (by omega)
theorem s8(hf:∀ i b,i<c->b.length=16->(f i b).length=16)(d:p.length=c*16)(m:Nat){i:Nat}(hi:i<c):aK (dE f p c m) i=if i<m then f i (aK p i) else aK p i:=tR (sz:=16) (rB hf d m) hi
theorem WL(hf:∀ i b,i<c->b.length=16->(f i b).length=16)(d:p.length=c*16){m:Nat}(hm:m<c):aW (dE f p c m) (m*16) (f m (aK p m))=dE f p c (m+1):=by
 unfold dE;rw[aBk (by decide) (rB hf d m) hm (hf m _ hm (bM d hm))];apply mT;intro i hi
 by_cases h:i=m
 ·subst h;rw[FN rfl,FN (by omega)]
 ·rw[sL h]
  by_cases h2:i<m
  ·rw[FN h2,FN (by omega)]
  ·rw[sL h2,sL (by omega)]
end
theorem kI{M:Int}{p:List Int}{c i:Nat}(d:p.length=c*16)(hi:i<c)(h:BdL M p):BdL M (aK p i):=fun j t=>by
 have hb:=bM d hi;rw[show aK p i=(p.drop (i*16)).take 16 from rfl,NV _ _ _ (by omega)];exact h _ (by omega)
theorem RZ{M:Int}{c:Nat}{R:Nat->List Int}(hR:∀ i,i<c->(R i).length=16)(h:∀ i,i<c->BdL M (R i)):BdL M (lF c R):=fun t ht=>by
 rw[kP hR]at ht;obtain⟨i,j,d,hi,e⟩:∃ i j,j<16/\i<c/\t=i*16+j:=⟨t / 16,t % 16,by omega,by omega,by omega⟩;subst e;have z:bgt (lF c R) (i*16+j)=bgt (R i) j:=by rw[j9,pU hR hi d,j9]
 rw[z];exact h i hi j (by rw[hR i hi];exact d)
theorem EX{M N:Int}{f:Nat->List Int->List Int}{p:List Int}{c m:Nat}(hf:∀ i b,i<c->b.length=16->(f i b).length=16)(d:p.length=c*16)(h:BdL M p)(t:M<=N)
 (hb:∀ i b,i<c->b.length=16->BdL M b->BdL N (f i b)):BdL N (dE f p c m):=by
 refine RZ (rB hf d m) (fun i hi=>?_);split
 ·exact hb i _ hi (bM d hi) (kI d hi h)
 ·exact (kI d hi h).mono t
theorem F8(b:List Int):(oO b).length=16:=mZ _ _
theorem tI(b:List Int):(gI b).length=16:=sZ _ _
theorem aEz{M N:Int}{b:List Int}(hb:b.length=16)(h:BdL M b)(z:0<=M)(F:6*M+60<=N):BdL N (oO b):=by
 have h1:=qA (N:=(3*M+9) / 2) (h.within hb) (by omega) (r:=0) (by omega);have h2:=qA (N:=(9*M+56) / 4) h1 (by omega) (r:=1) (by omega);have d:=qA (N:=(27*M+238) / 8) h2 (by omega) (r:=2) (by omega);have t:=qA (N:=N) d (by omega) (r:=3) (by omega);exact JA t (F8 b)
theorem aAo{M N:Int}{b:List Int}(hb:b.length=16)(h:BdL M b)(z:0<=M)(F:6*M+60<=N):BdL N (gI b):=by
 have h1:=pO (N:=(3*M+9) / 2) (h.within hb) (by omega) (r:=3) (by omega);have h2:=pO (N:=(9*M+56) / 4) h1 (by omega) (r:=2) (by omega);have d:=pO (N:=(27*M+238) / 8) h2 (by omega) (r:=1) (by omega);have t:=pO (N:=N) d (by omega) (r:=0) (by omega);exact JA t (tI b)
end
section
open Go.Lib (hid)
open Go.RowKit
theorem o8(sz c:Nat)(f:Nat->List Int):(bI sz c f 0).map (Value.int .i64)=List.replicate (c*sz) (.int .i64 0):=by
 have:bI sz c f 0=List.replicate (c*sz) 0:=by
  unfold bI;have:(List.range c).map (fun i=>if i<0 then f i else List.replicate sz (0:Int))=List.replicate c (List.replicate sz 0):=by
   apply aGL;intro i;rw[aF5,aHE];rcases aGt i c with hi|hi
   ·rw[aHa hi,FN hi];simp
   ·rw[aGr (by simpa using hi),sL (by omega)];rfl
  rw[this,List.flatten_replicate_replicate]
 rw[this,aJm]
def kA(l:List Int):Nat->List Int:=fun i=>ofZ (aK (fQ l) i)
def gN(l:List Int)(size:Int):List Int:=bI 4 (aS l.length) (kA l) (if 55<=size then 0 else aS l.length)
theorem lN(l:List Int):(fQ l).length=aS l.length*16:=by simp[fQ]
theorem aBL{l:List Int}(h:TurnB l)(i:Nat):TurnB (aK (fQ l) i):=by
 intro k x z;have t:x∈fQ l:=jO x (aGh z);unfold fQ at t;obtain⟨j,_,rfl⟩:=aGq.1 t;rcases aGt j l.length with d|d
 ·have:=h j _ (TT d);rw[aD (TT d)];exact this
 ·rw[NF d];omega
theorem aE9:(prog.info? 40).map (fun i=>(i.zero,i.size,i.bytes))=some (some (.agg (List.replicate 4 (Value.int .i64 0)).toArray),4,32):=by kernel_rfl
def QC(W:World)(c:Nat)(xs:List Int)(e:Ending)(w':World):Prop :=
 ∃ g,e=.returned (.slice (some ⟨g,0,none⟩) c c)/\W.heap.size<=g/\Blk w' g 40 (xs.map (.int .i64))/\Below W.heap.size W w'
set_option maxRecDepth 100000 in
set_option maxHeartbeats 4000000 in
theorem aAK(gc:Nat)(size:Int)(l:List Int)(A:Option Addr)(cap:Nat)(w:World)(hg:CoderAt w gc size)(hl:l.length<=1000000)(hr:Row w w.heap.size A (l.map (.int .i64)))(ht:TurnB l):
  Calls prog 175 #[.pointer (some ⟨gc,0,none⟩),.slice A l.length cap] w (QC w (aS l.length) (gN l size)):=by
 unfold QC gN;have Hr:=hid hr;have Z:=hid (fun W=>pK l.length W (by omega));have a3:=hid (fun W (hW:Below w.heap.size w W)=>EI l A cap W (by omega) (hr.later hW));have a8:=hid (fun i W (hi:i<aS l.length)=>aFb (aK (fQ l) i) W (bM (lN l) hi) (aBL ht i));have aE:=hid (fun i=>(show (kA l i).length=4 from m9 _ 4));have a2:=hid (fun i (hi:i<aS l.length)=>bM (lN l) hi);have b7:aS l.length<=1000000:=by unfold aS;omega
 have b0:=hid (lN l);obtain⟨n,hn⟩:∃ n,l.length=n:=⟨_,rfl⟩;rw[hn]at hl b7 Z a3 a8 a2 b0 ⊢;generalize aS n=c at *
 obtain⟨i0,hi,bS,bT,bU⟩:∃ i,prog.info? 40=some i/\i.zero=some (.agg (List.replicate 4 (Value.int .i64 0)).toArray)/\i.size=4/\i.bytes=32:=by
  have:=aE9;cases h:prog.info? 40 with
  | none=>rw[h]at this;cases this
  | some i =>
   rw[h]at this;simp only[Option.map_some,aIN,aI7]at this;exact⟨i,rfl,this.1,this.2.1,this.2.2⟩
 have aH:=hid (show (madeCells (Value.agg (List.replicate 4 (Value.int .i64 0)).toArray).cells (c*4)).toList=List.replicate (c*4) (.int .i64 0) from fV _ _ (by decide) (fun j hj=>by
  have cG:j<4:=hj;have hk:j=0\/j=1\/j=2\/j=3:=by omega
  rcases hk with rfl|rfl|rfl|rfl <;> rfl) _)
 obtain⟨G,F⟩:∃ G,madeCells (Value.agg (List.replicate 4 (Value.int .i64 0)).toArray).cells (c*4)=G:=⟨_,rfl⟩;rw[F]at aH;have bO:G=((bI 4 c (kA l) 0).map (Value.int .i64)).toArray:=by
  apply aHX.1;rw[aH.out,o8]
 have I:=hid (show Blk (w.alloc (.cells G 40)) w.heap.size 40 ((bI 4 c (kA l) 0).map (.int .i64)) by rw[bO];exact Blk.new w _ _);have d:=hid (VQ gc size (w.alloc (.cells G 40)) (aF hg (aP w _)));clear hr hn bO aH hg ht
 by_cases O:55<=size
 ·rw[FN O];have e1:decide (55<=size)=true:=aGs O;rw[e1]at d;go_enter func175,ntmps175;go_wp2_with (first|(go_at_call 61;refine (Z.out _).mono ?_;rintro e w1 ⟨rfl,rfl⟩)|(refine dX w rfl (.tmp 10) (.tmp 10) 233 rfl 40 i0 (.agg (List.replicate 4 (Value.int .i64 0)).toArray) 4 underlying233 hi bS bT .i64 .i64 c rfl rfl (by rw[bU];omega) (by omega) ?_;rw[F])|(go_at_call 202;refine d.out.mono ?_;rintro e w1 ⟨rfl,rfl⟩))
  go_ret
  exact⟨w.heap.size,rfl,LE _,I.out,aP w _⟩
 ·rw[sL O];have e1:decide (55<=size)=false:=aGm O;rw[e1]at d;go_enter func175,ntmps175;go_wp2_with (first|(go_at_call 61;refine (Z.out _).mono ?_;rintro e w1 ⟨rfl,rfl⟩)|(refine dX w rfl (.tmp 10) (.tmp 10) 233 rfl 40 i0 (.agg (List.replicate 4 (Value.int .i64 0)).toArray) 4 underlying233 hi bS bT .i64 .i64 c rfl rfl (by rw[bU];omega) (by omega) ?_;rw[F])|(go_at_call 202;refine d.out.mono ?_;rintro e w1 ⟨rfl,rfl⟩)|(go_at_call 203;fail))
  refine (a3.out _ (aP w _)).mono ?_;rintro e w2 ⟨z,rfl,aQ,bH,aN⟩;have a5:=hid (I.out.below aN I.out.lt);have a9:=hid bH;have a1:=hid (aC (aP w _) aN);have cI:z≠w.heap.size:=by simp at aQ;omega
  have cF:w.heap.size<z:=by simp at aQ;omega
  clear aN bH aQ I d;go_wp2;go_loopw [18] (fun i wr=>∃ m:Nat,m<=c/\i=.int .i64 m/\Blk wr w.heap.size 40 ((bI 4 c (kA l) m).map (.int .i64))/\Blk wr z 43 ((fQ l).map (.int .i64))/\Below w.heap.size w wr) (fun i _=>c-(intOf i).toNat)
  case atStart=>exact⟨0,by omega,rfl,a5.out,a9.out,a1.out⟩
  case round =>
   obtain⟨m,hm,rfl,hG,hP,bK⟩:=hrel;have HG:=hid hG;have HP:=hid hP;have bC:=hid bK;clear a5 a9 a1 hG hP bK
   by_cases aU:m<c
   ·have t1:(m:Int)<(c:Int):=by omega
    have HO:=hid (fun W=>a8.out m W aU);have J:=hid (o7 aE.out (by omega) aU);have bL:=a2.out m aU;have aT:=aE.out m;have bQ:=eP aE.out (sz:=4) (c:=c) m;have d:=hid (fun (j:Nat) (v:Value) (t:((aK (fQ l) m).map (Value.int .i64))[j]? = some v)=>(show wr.cell? ⟨z,m*16+j,none⟩=some v by
     rw[HP.out.cell,List.getElem?_map];rw[List.getElem?_map]at t;unfold aK at t;rw[List.getElem?_take]at t;split at t
     ·rw[List.getElem?_drop]at t;exact t
     ·cases t))
    have a6:=hid (show kA l m=ofZ (aK (fQ l) m) from rfl);rw[a6.out]at J aT;obtain⟨R1,aM⟩:∃ R1,bI 4 c (kA l) (m+1)=R1:=⟨_,rfl⟩;have bZ:=hid aM;rw[aM]at J;clear aM;generalize bI 4 c (kA l) m=R0 at *
    unfold aR at HO;have b4:=hid (fun u (hu:u∈(ofZ (aK (fQ l) m)).map (Value.int .i64))=>(show u.oneCell'=true by
     obtain⟨y,_,rfl⟩:=List.mem_map.1 hu
     rfl))
    have bB:=hid (show (aW R0 (m*4) (ofZ (aK (fQ l) m))).map (Value.int .i64)=R1.map (.int .i64) by rw[J.out]);rw[kU]at bB;have V:((aK (fQ l) m).map (Value.int .i64)).length=16:=by rw[List.length_map,bL]
    have aX:((ofZ (aK (fQ l) m)).map (Value.int .i64)).length=4:=by rw[List.length_map,aT]
    have bR:=fE (aK (fQ l) m);generalize (aK (fQ l) m).map (Value.int .i64)=xs at *
    generalize (ofZ (aK (fQ l) m)).map (Value.int .i64)=ys at *
    have bW:=hid (show (prog.info? 43).map (·.size)=some xs.length by rw[V];exact bJ);have a4:=hid (show (prog.info? 43).map (·.size)=some xs.toArray.size by rw[List.size_toArray,V];exact bJ);have bX:=hid (show (prog.info? 40).map (·.size)=some ys.length by rw[aX];exact b9);have b3:=hid V;have b2:=hid bR;have b1:=hid (show m*4+ys.length<=(R0.map (Value.int .i64)).length by rw[aX,List.length_map,bQ];omega);clear V aX bR bL aT bQ J a6;have HN:=hid (LT wr (.cells xs.toArray 43));go_wp2_with (first|(go_at_call 204;fail)|(refine aL rfl 43 (.tmp 21) rfl z (m*16) rfl xs _ d.out underlying43 rfl bW.out ?_)|(refine aA rfl 43 (.tmp 7) (.tmp 22) rfl wr.heap.size rfl _ _ xs.toArray rfl (LT wr _) a4.out (by show (16:Nat)=_;rw[List.size_toArray,b3.out]) b2.out ?_;rw[aGT])|(refine aB rfl 43 (.tmp 7) rfl wr.heap.size rfl _ xs.toArray _ _ HN.out underlying43 rfl a4.out ?_))
    refine (HO.out _).mono ?_;rintro e w3 ⟨rfl,bG⟩;have U:=aC (aP wr (.cells xs.toArray 43)) bG;have G3:=hid (HG.out.below U HG.out.lt);have P3:=hid (HP.out.below U HP.out.lt);have L3:=hid (aC bC.out U);clear bG U;go_wp2_with (refine cH rfl 40 (.tmp 27) (.tmp 26) rfl w.heap.size (m*4) rfl _ _ ys rfl G3.out bX.out b1.out b4.out ?_;rw[bB.out])
    go_roundw
    case rel=>exact⟨m+1,by omega,by go_num,by rw[bZ.out];exact bA w3 _ _ _ _ G3.out,(aHy _ _ _ _ (by omega)).trans P3.out,aO L3.out _ (by omega) _⟩
    case measure=>simp[intOf];omega
   ·have F:m=c:=by omega
    have t1:¬ ((m:Int)<(c:Int)):=by omega
    subst F;go_wp2
    go_ret
    exact⟨w.heap.size,rfl,LE _,HG.out,bC.out⟩
end
theorem aDU(x:Int)(k:Nat):jP (x*2 ^ k) k=x:=by
 unfold jP;split
 ·rename_i h;subst h;simp
 ·rename_i h
  obtain⟨n,rfl⟩:∃ n,k=n+1:=⟨k-1,by omega⟩;have d:(2:Int) ^ n≠0:=Int.ne_of_gt (aHP (by decide));have t:(2:Int) ^ (n+1)≠0:=Int.ne_of_gt (aHP (by decide));have e:x*2 ^ (n+1)=(2*x)*2 ^ n:=by rw[aI0,Int.mul_comm (2 ^ n) 2,<-Int.mul_assoc,Int.mul_comm x 2]
  rw[Int.mul_ediv_cancel _ t,aIL,e,Int.mul_ediv_cancel _ d];omega
def upF(gs:List Int)(i:Nat)(b:List Int):List Int:=bN b (eJ 4 gs i) 16
def jZ(gs:List Int)(i:Nat)(b:List Int):List Int:=gE b (eJ 4 gs i) 16
theorem aEl{b:List Int}(g:List Int)(hb:b.length=16):gE (bN b g 16) g 16=b:=by
 refine gZ (wH _ _ _) hb (fun j d=>?_);unfold gE;rw[aD (aI _ d),FN d,rZ _ _ d,FN d];exact aDU _ _
def tY(gs:List Int)(c:Nat):Prop:=gs.length=c*4/\∀ i,i<c->GainB (eJ 4 gs i)
theorem aFD{M:Int}{b g:List Int}(hb:b.length=16)(t:GainB g)(h:BdL M b):BdL (8*M) (bN b g 16):=by
 intro j d;rw[lT]at d;rw[rZ _ _ d,FN d];have h1:=h j (by omega);obtain⟨x,z⟩:=aE (k:=j / 4) t.1 (by omega);have h2:=t.get z;rw[aD z];obtain⟨k,hk⟩:∃ k,x.toNat=k:=⟨_,rfl⟩;rw[hk];have F:k=0\/k=1\/k=2\/k=3:=by omega
 rcases F with rfl|rfl|rfl|rfl
 ·rw[show (2:Int) ^ 0=1 by decide];omega
 ·rw[show (2:Int) ^ 1=2 by decide];omega
 ·rw[show (2:Int) ^ 2=4 by decide];omega
 ·rw[show (2:Int) ^ 3=8 by decide];omega
def AY(p gs:List Int)(c:Nat):List Int:=dE (upF gs) p c c
def xE(p gs:List Int)(c:Nat):List Int:=dE (fun _=>oO) (e9 (AY p gs c) c) c c
def mW(p:List Int)(c:Nat):List Int:=dE (fun _=>gI) p c c
def oN(p gs:List Int)(c:Nat):List Int:=dE (jZ gs) (eO (mW p c) c) c c
theorem uS{gs:List Int}{c:Nat}:∀ i b,i<c->b.length=16->(upF gs i b).length=16:=fun _ _ _ _=>lT _ _ _
theorem nO{gs:List Int}{c:Nat}:∀ i b,i<c->b.length=16->(jZ gs i b).length=16:=fun _ _ _ _=>wH _ _ _
theorem pZ{c:Nat}:∀ i b,i<c->b.length=16->((fun _=>oO) i b:List Int).length=16:=fun _ b _ _=>F8 b
theorem GL{c:Nat}:∀ i b,i<c->b.length=16->((fun _=>gI) i b:List Int).length=16:=fun _ b _ _=>tI b
theorem nB{p gs:List Int}{c:Nat}(d:p.length=c*16):(AY p gs c).length=c*16:=kO uS d c
theorem yP{p:List Int}{c m:Nat}(d:p.length=c*16):(e9 p m).length=c*16:=(eD _ _ _ _).trans d
theorem IJ{p:List Int}{c m:Nat}(d:p.length=c*16):(eO p m).length=c*16:=(eD _ _ _ _).trans d
theorem ZI{p gs:List Int}{c:Nat}(d:p.length=c*16):(xE p gs c).length=c*16:=kO pZ (yP (nB d)) c
theorem p8{p:List Int}{c:Nat}(d:p.length=c*16):(mW p c).length=c*16:=kO GL d c
theorem xI{p gs:List Int}{c:Nat}(d:p.length=c*16):(oN p gs c).length=c*16:=kO nO (IJ (p8 d)) c
theorem QP{f g:Nat->List Int->List Int}{p:List Int}{c:Nat}(hf:∀ i b,i<c->b.length=16->(f i b).length=16)(d:p.length=c*16)(h:∀ i b,i<c->b.length=16->g i (f i b)=b):dE g (dE f p c c) c c=p:=by
 refine aHH ?_ (rD (sz:=16) (by decide) d);show lF c (fun i=>if i<c then g i (aK (dE f p c c) i) else aK (dE f p c c) i)=_;refine mT fun i hi=>?_
 rw[FN hi,s8 hf d c hi,FN hi,h i _ hi (bM d hi)]
 rfl
theorem VK{p gs:List Int}{c:Nat}(d:p.length=c*16):oN (xE p gs c) gs c=p:=by
 have h1:mW (xE p gs c) c=e9 (AY p gs c) c:=QP pZ (yP (nB d)) (fun _ b _ hb=>aEJ b hb);unfold oN;rw[h1,aBN (nB d)];exact QP uS d (fun _ b _ hb=>aEl _ hb)
theorem PL{M:Int}{p gs:List Int}{c m:Nat}(z:p.length=c*16)(d:tY gs c)(h:BdL M p)(F:0<=M):BdL (8*M) (dE (upF gs) p c m) :=
 EX uS z h (by omega) (fun i _ hi hb t=>aFD hb (d.2 i hi) t)
theorem aB6{M:Int}{p gs:List Int}{c:Nat}(d:p.length=c*16)(z:tY gs c)(h:BdL M p)(t:0<=M):BdL (72*M+84) (xE p gs c):=by
 have h1:=AF (N:=12*M+4) (nB d) (LE c) (PL (m:=c) d z h t) (by omega) (by omega);exact EX pZ (yP (nB d)) h1 (by omega) (fun _ b _ hb F=>aEz hb F (by omega) (by omega))
theorem aAv{M:Int}{l:List Int}(h:∀ x∈l,-M<=x/\x<=M)(t:0<=M):BdL M (fQ l):=by
 intro j d;rw[lN]at d;unfold fQ;rw[aD (aI _ d)];rcases aGt j l.length with h1|h1
 ·exact h _ (aGh (rI h1))
 ·rw[NF h1];omega
theorem aBK(l:List Int):(fQ l).take l.length=l:=by
 apply aGL;intro j;rw[aHe];split
 ·rename_i h
  unfold fQ;rw[aI _ (by unfold aS;omega),rI h]
 ·rw[aGr (by omega)]
theorem XK(l:List Int):l7 (fQ l) l.length=l:=by
 have h:(max (min (l.length:Int) ((fQ l).length:Int)) 0).toNat=l.length:=by
  rw[lN];have:l.length<=aS l.length*16:=by unfold aS;omega
  omega
 unfold l7;rw[h,aBK]
theorem kQ(l:List Int)(size:Int):tY (gN l size) (aS l.length):=by
 have hf:∀ i,(kA l i).length=4:=fun i=>m9 _ 4
 refine⟨eP hf _,fun i hi=>?_⟩;have z:(eJ 4 (gN l size) i).length=4:=qL (eP hf _) hi;have t:∀ j,j<4->(eJ 4 (gN l size) i)[j]? = if i<(if 55<=size then 0 else aS l.length) then (kA l i)[j]? else some 0:=fun j d=>by
  rw[uN _ _ d];exact rS hf hi d
 by_cases h:i<(if 55<=size then 0 else aS l.length)
 ·have:eJ 4 (gN l size) i=kA l i:=by
   apply aGL;intro j;rcases aGt j 4 with d|d
   ·rw[t j d,FN h]
   ·rw[aGr (by omega),aGr (by rw[hf];exact d)]
  rw[this];exact aDI _
 ·have:eJ 4 (gN l size) i=[0,0,0,0]:=by
   apply aGL;intro j;rcases aGt j 4 with d|d
   ·rw[t j d,sL h]
    match j,d with
    | 0,_|1,_|2,_|3,_=>rfl
   ·rw[aGr (by omega),aGr (by exact d)]
  rw[this];exact⟨rfl,rfl⟩
theorem aCW(v:Int)(w:World):Calls prog 132 #[.int .i64 v] w fun e w'=>e=.returned (.int .i64 (sR v))/\w=w':=by
 go_enter func132,ntmps132;go_wp2_with (go_at_call 76;refine (aAa _ _).mono ?_;rintro e w' ⟨rfl,rfl⟩)
 go_ret
 exact⟨rfl,rfl⟩
end Go.Proofs.YtbpgfkjhclpbdaaGreatDoor
