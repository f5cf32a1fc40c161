/- SortP. Conditions: as each theorem states. -/
import Derived.Shelf.SlSortCmp.InsertionK
import Derived.Test.YtbpgfkjhclpbdaaGreatDoorPw03
namespace Go.Proofs.YtbpgfkjhclpbdaaGreatDoor
abbrev aJc:=@Go.Sort.alloc_eq_grow
abbrev aJG:=@Go.Lib.run_eql_slice_nil
open Tryz
open Go.Sort
section
variable {α : Type} [Inhabited α]
theorem vE(lt:α->α->Bool)(a:Nat):∀ (j:Nat) (d:Array α),(insInner lt a j d).size=d.size
 | 0,_=>rfl
 | j+1,d=>by
  unfold insInner;split
  ·rw[vE lt a j,size_swp]
  ·rfl
theorem tG(lt t:α->α->Bool)(a:Nat):∀ (j:Nat) (d:Array α),j<d.size->(∀ p,a<=p->p<j->lt d[j]! d[p]! = t d[j]! d[p]!)->insInner lt a j d=insInner t a j d
 | 0,_,_,_=>rfl
 | j+1,d,G,h=>by
  unfold insInner
  by_cases F:a<j+1
  ·rw[h j (by omega) (by omega)];split
   ·refine tG lt t a j (swp d (j+1) j) (by rw[size_swp];omega) fun p z I=>?_
    rw[swp_right d (j+1) j (by omega),swp_other d (j+1) j p (by omega) (by omega)];exact h p z (by omega)
   ·rfl
  ·rw[sL (by simp;omega),sL (by simp;omega)]
theorem vD(lt:α->α->Bool)(a:Nat):∀ (j:Nat) (d:Array α),j<d.size->(∀ p,j<p->(insInner lt a j d)[p]! = d[p]!)/\(∀ p,p<=j->∃ q,q<=j/\(insInner lt a j d)[p]! = d[q]!)
 | 0,d,_=>⟨fun _ _=>rfl,fun p h=>⟨p,h,rfl⟩⟩
 | j+1,d,F=>by
  unfold insInner;split
  ·obtain⟨h1,h2⟩:=vD lt a j (swp d (j+1) j) (by rw[size_swp];omega);refine⟨fun p h=>?_,fun p h=>?_⟩
   ·rw[h1 p (by omega),swp_other d (j+1) j p (by omega) (by omega)]
   ·rcases aGt j p with hlt|z
    ·obtain rfl:p=j+1:=by omega
     exact⟨j,by omega,by rw[h1 (j+1) (by omega),swp_left d (j+1) j F (by omega)]⟩
    ·obtain⟨q,G,he⟩:=h2 p z;rcases aGt q j with t|t
     ·exact⟨q,by omega,by rw[he,swp_other d (j+1) j q (by omega) (by omega)]⟩
     ·obtain rfl:q=j:=by omega
      exact⟨q+1,by omega,by rw[he,swp_right d (q+1) q (by omega)]⟩
  ·exact⟨fun _ _=>rfl,fun p h=>⟨p,h,rfl⟩⟩
theorem tH(lt t:α->α->Bool)(idx:α->Int)(h:∀ x y,idx y<idx x->lt x y=t x y)(b:Nat):∀ (n i:Nat) (d:Array α),b-i=n->b<=d.size->
  (∀ p q,p<q->i<=q->q<b->idx d[p]!<idx d[q]!)->insOuter lt 0 b i d=insOuter t 0 b i d
 | 0,i,d,G,_,_=>by
  have hi:¬ i<b:=by omega
  exact (show insOuter lt 0 b i d=d by rw[insOuter,sL hi]).trans (show insOuter t 0 b i d=d by rw[insOuter,sL hi]).symm
 | n+1,i,d,G,hb,hi=>by
  rw[insOuter_go lt 0 b i d (by omega),insOuter_go t 0 b i d (by omega)];have e:=tG lt t 0 i d (by omega) (fun p _ I=>h _ _ (hi p i I (by omega) (by omega)));rw[<-e];obtain⟨h1,h2⟩:=vD lt 0 i d (by omega);refine tH lt t idx h b n (i+1) _ (by omega) (by rw[vE];exact hb) fun p q J O F=>?_
  rw[h1 q (by omega)];rcases aGt i p with z|z
  ·rw[h1 p z];exact hi p q J (by omega) F
  ·obtain⟨r,U,he⟩:=h2 p z;rw[he];exact hi r q (by omega) (by omega) F
theorem UR(lt d:α->α->Bool)(idx:α->Int)(h:∀ x y,idx y<idx x->lt x y=d x y)(l:List α)(F:l.Pairwise fun x y=>idx x<idx y):
  insertionSort lt l.toArray 0 l.length=insertionSort d l.toArray 0 l.length:=by
 unfold insertionSort;refine tH lt d idx h l.length _ 1 l.toArray rfl (by simp) fun p q G _ z=>?_
 have t:p<l.length:=by omega
 simp only[aI1];rw[aH2 l p t,aH2 l q z];exact aIt.1 F p q t z G
def dW(lt:α->α->Bool)(l:List α):List α:=(insertionSort lt l.toArray 0 l.length).toList
theorem iE(lt:α->α->Bool)(z:SWO lt)(l:List α):(dW lt l).Perm l:=by
 obtain⟨⟨h1,_,d⟩,_⟩:=insertionSort_holds z l.toArray 0 l.length (aG3 _) (by simp);have h:(insertionSort lt l.toArray 0 l.length).extract 0 l.length=insertionSort lt l.toArray 0 l.length:=by
  have:l.length=(insertionSort lt l.toArray 0 l.length).size:=by rw[h1];simp
  rw (occs:=.pos [2]) [this];exact Array.extract_size
 have t:l.toArray.extract 0 l.length=l.toArray:=by
  have:l.length=l.toArray.size:=by simp
  rw[this];exact Array.extract_size
 rw[h,t]at d;simpa[dW] using d
theorem rT(lt:α->α->Bool)(t:SWO lt)(l:List α):(dW lt l).Pairwise fun x y=>lt y x=false:=by
 obtain⟨⟨h1,_,_⟩,h⟩:=insertionSort_holds t l.toArray 0 l.length (aG3 _) (by simp);rw[aIt];intro i j hi d F;unfold dW at hi d ⊢;have I:(insertionSort lt l.toArray 0 l.length).size=l.length:=by rw[h1];simp
 have z:i<(insertionSort lt l.toArray 0 l.length).size:=by simpa using hi
 have G:j<(insertionSort lt l.toArray 0 l.length).size:=by simpa using d
 have:=h i j (aG3 _) F (by omega);rw[aH2 _ i z,aH2 _ j G]at this;simpa using this
theorem y9(lt d:α->α->Bool)(idx:α->Int)(h:∀ x y,idx y<idx x->lt x y=d x y)(l:List α)(t:l.Pairwise fun x y=>idx x<idx y):dW lt l=dW d l:=by
 unfold dW;rw[UR lt d idx h l t]
end
theorem oD{α:Type}(lt:α->α->Prop)(z:∀ x,¬ lt x x)(d:∀ x y,lt x y->¬ lt y x):∀ (l m:List α),l.Perm m->l.Pairwise lt->m.Pairwise lt->l=m
 | [],m,h,_,_=>by rw[List.nil_perm]at h;exact h.symm
 | a::l,m,h,hl,hm=>by
  cases m with
  | nil=>exact absurd h.length_eq (by simp)
  | cons b m =>
   rw[aJn]at hl hm;have t:a=b:=by
    have ha:a∈b::m:=h.subset (by simp);have hb:b∈a::l:=h.symm.subset (by simp);rcases aGw.1 ha with h1|h1
    ·exact h1
    ·rcases aGw.1 hb with h2|h2
     ·exact h2.symm
     ·exact absurd (hl.1 b h2) (d _ _ (hm.1 a h1))
   subst t;rw[oD lt z d l m (List.perm_cons a |>.1 h) hl.2 hm.2]
theorem aBg{α:Type}(lt:α->α->Bool)(z:∀ x,lt x x=false)(F:∀ x y,lt x y=true->lt y x=false)(l:List α)(h:l.Pairwise fun x y=>lt x y=true):
  l.filter (fun t=>decide ((l.filter (fun u=>lt u t)).length<=1))=l.take 2:=by
 match l,h with
 | [],_=>rfl
 | [a],_=>simp[z]
 | a::b::r,h =>
  rw[aJn,aJn]at h;obtain⟨ha,hb,W⟩:=h;have V:=ha b (by simp);have I:(a::b::r).filter (fun u=>lt u a)=[]:=by
   rw[aJO];intro x d;rcases aGw.1 d with rfl|d
   ·simp[z]
   ·simp[F _ _ (ha x d)]
  have J:(a::b::r).filter (fun u=>lt u b)=[a]:=by
   rw[aIq,V];simp only[aHW]
   congr 1
   rw[aJO];intro x d;rcases aGw.1 d with rfl|d
   ·simp[z]
   ·simp[F _ _ (hb x d)]
  have O:∀ c∈r,decide (((a::b::r).filter (fun u=>lt u c)).length<=1)=false:=by
   intro c G;rw[aIq,ha c (by simp[G]),aIq,hb c G];simp
  rw[aIq,I,aIq,J];simp only[List.length_nil,List.length_cons,aG3,decide_true,aHW,aGn,LE];have U:r.filter (fun t=>decide (((a::b::r).filter (fun u=>lt u t)).length<=1))=[]:=by
   rw[aJO];intro x d;rw[O x d];simp
  rw[U];rfl
/-! A row that is sorted in memory. -/
section
variable {α : Type} [Inhabited α]
theorem ON(w:World)(blk off:Nat)(F:Array Value)(B:Nat)(d:B<=blk):Go.RowKit.Below B w (putRow id w blk off F):=by
 refine⟨rfl,rfl,rfl,?_,fun k hk=>?_⟩
 ·unfold putRow mapBlock;simp
 ·unfold putRow mapBlock;simp only[aIP];rw[sL (by omega)]
theorem GF(w:World)(os:Array Obj)(B:Nat)(d:B<=w.heap.size):Go.RowKit.Below B w (grow w os):=by
 refine⟨rfl,rfl,rfl,by simp,fun k hk=>?_⟩;rw[heap_grow_old w os (by omega)]
theorem QK(w:World)(n:Nat)(B:Nat):Go.RowKit.Below B w (Sort.ahead w n):=⟨rfl,rfl,rfl,LE _,fun _ _=>rfl⟩
theorem sM(enc:α->List Value)(k:Nat)(w:World)(blk off m:Nat)(d:Array α)(os:Array Obj)(B:Nat)(h:B<=blk)(hb:blk<w.heap.size):Go.RowKit.Below B w (sortWorldK enc k w blk off m d os):=by
 unfold sortWorldK putRowK;refine ((QK w m B).trans (ON _ blk off _ B h)).trans (GF _ os B ?_);have:(putRow id (Sort.ahead w m) blk off (flatK enc k d)).heap.size=w.heap.size:=by unfold putRow mapBlock Sort.ahead;simp
 omega
def kH(enc:α->List Value)(k:Nat)(B:Nat)(w:World)(A:Option Addr)(l:List α):Prop :=
 l=[]\/∃ g,A=some ⟨g,0,none⟩/\B<=g/\g<w.heap.size/\HoldsK enc k w g 0 l.toArray
theorem flat_get!{enc:α->List Value}{k:Nat}(hk:∀ x,(enc x).length=k)(l:List α)(j:Nat)(h:j<l.length*k):(l.map enc).flatten[j]? = some (flatK enc k l.toArray)[j]!:=by
 have z:0<k:=by
  rcases aHB k with d|d
  ·rw[d,Nat.mul_zero]at h;omega
  ·exact d
 have t:j / k<l.length:=(aJs z).2 h;have hm:=aG6 j z;rw[get_flatK enc k l.toArray j (by simpa using h)];have:=mU k (l.map enc) (fun G F=>by obtain⟨x,_,rfl⟩:=aGq.1 F;exact hk x) (j / k) (j % k) hm;rw[show j / k*k+j % k=j by rw[aH1];exact aI3 j k]at this;rw[this,aF5,TT t];simp only[Option.map_some,Option.bind_some,aI1];rw[aH2 l (j / k) t,aH2 (enc l[j / k]) (j % k) (by rw[hk];exact hm),TT (by rw[hk];exact hm)]
omit [Inhabited α] in
theorem oU{enc:α->List Value}{k:Nat}(hk:∀ x,(enc x).length=k)(l:List α):(l.map enc).flatten.length=l.length*k:=by
 rw[yE k (l.map enc) (fun h d=>by obtain⟨x,_,rfl⟩:=aGq.1 d;exact hk x),aF7]
theorem LA{enc:α->List Value}{k:Nat}(hk:∀ x,(enc x).length=k)(aA:0<k){w:World}{B:Nat}{e:TypeId}{A:Option Addr}{n c:Nat}{l:List α}
 (h:w.ownsRow B e k (.slice A n c) n ((l.map enc).flatten)):kH enc k B w A l:=by
 have F:=oU hk l;rcases h.2 with ⟨h1,h2⟩|⟨g,cap,G,h1,W,d,aE,_,h5,O⟩
 ·have J:=h.1;rw[h2,aIk,F]at J;refine .inl ?_;cases l with
  | nil=>rfl
  | cons x r =>
   have:=Nat.mul_pos (show 0<(x::r).length by simp) aA;omega
 ·injection h1 with I e2 e3
  refine .inr ⟨g,I,W,?_,fun j t=>?_⟩
  ·rcases aGt g w.heap.size with h|h
   ·exact h
   ·rw[aHl h]at d;cases d
  ·rw[size_flatK]at t;have z:j<l.length*k:=by simpa using t
   have U:=flat_get! hk l j z;have Z:j<n*k:=by rw[<-h.1,F];exact z
   have V:G[j]? = some (flatK enc k l.toArray)[j]!:=by
    rw[<-U,<-O,aIG Z];simp
   refine⟨?_,?_⟩
   ·rw[aGn];simp only[World.cell?,d];simpa using V
   ·simp[World.frozen?,d]
theorem LC{enc:α->List Value}{k:Nat}(hk:∀ x,(enc x).length=k){w:World}{B:Nat}{A:Option Addr}{l:List α}(h:kH enc k B w A l):Row w w.heap.size A ((l.map enc).flatten):=by
 rcases h with rfl|⟨g,rfl,F,z,hh⟩
 ·exact Row.none_ _ _ _
 ·intro i v t;have hi:i<l.length*k:=by have:=(aGi.1 t).1;rwa [oU hk]at this
  have d:=flat_get! hk l i hi;rw[t]at d;injection d with d
  refine⟨g,0,rfl,z,?_⟩;have:=(hh i (by rw[size_flatK];simpa using hi)).1;rw[this,d];rfl
theorem YA{enc:α->List Value}{k:Nat}(hk:∀ x,(enc x).length=k){w:World}{B:Nat}{A:Option Addr}{l:List α}(h:kH enc k B w A l)(m:Nat):kH enc k B w A (l.take m):=by
 rcases h with rfl|⟨g,rfl,F,G,hh⟩
 ·exact .inl (by simp)
 ·refine .inr ⟨g,rfl,F,G,fun j t=>?_⟩;rw[size_flatK]at t;have z:j<(l.take m).length*k:=by simpa using t
  have O:(l.take m).length*k<=l.length*k:=aHq k (by rw[aGB];omega);have h1:=flat_get! hk (l.take m) j z;have h2:=flat_get! hk l j (by omega);have I:((l.take m).map enc).flatten <+: (l.map enc).flatten:=by
   refine⟨((l.drop m).map enc).flatten,?_⟩;rw[<-List.flatten_append,<-List.map_append,aIK]
  have d:((l.take m).map enc).flatten[j]? = (l.map enc).flatten[j]?:=by
   obtain⟨r,J⟩:=I;rw[<-J,aGU (by rw[oU hk];exact z)]
  rw[h1,h2]at d;injection d with d
  rw[d];exact hh j (by rw[size_flatK];simp;omega)
theorem yN{enc:α->List Value}{k:Nat}{w:World}{B g:Nat}{l m:List α}(h:B<=g)(d:g<w.heap.size)(hh:HoldsK enc k w g 0 l.toArray)(t:m.length=l.length)(n:Nat)(os:Array Obj):
  kH enc k B (sortWorldK enc k w g 0 n m.toArray os) (some ⟨g,0,none⟩) m :=
 .inr ⟨g,rfl,h,aGM d (size_sortWorldK_c enc k w g 0 n m.toArray os),holdsK_sortWorldK_c enc k w g 0 l.toArray m.toArray n os hh d (by simpa using t)⟩
end
end Go.Proofs.YtbpgfkjhclpbdaaGreatDoor
