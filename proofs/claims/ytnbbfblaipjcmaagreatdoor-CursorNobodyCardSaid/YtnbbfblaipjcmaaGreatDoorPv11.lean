/- SortP. Conditions: as each theorem states. -/
import Derived.Shelf.SlSortCmp.InsertionK
import Derived.Test.YtnbbfblaipjcmaaGreatDoorPv03
namespace Go.Proofs.YtnbbfblaipjcmaaGreatDoor
open Go.Sort
section
variable {α : Type} [Inhabited α]
theorem tQ (lt:α->α->Bool) (a:Nat):∀ (j:Nat) (d:Array α),(insInner lt a j d).size=d.size
 | 0,_=>rfl
 | j+1,d=>by
  unfold insInner
  split
  ·rw [tQ lt a j,size_swp]
  ·rfl
theorem rT (lt lt':α->α->Bool) (a:Nat):∀ (j:Nat) (d:Array α),j < d.size->(∀ p,a<=p->p < j->lt d[j]! d[p]! = lt' d[j]! d[p]!)->insInner lt a j d=insInner lt' a j d
 | 0,_,_,_=>rfl
 | j+1,d,hj,h=>by
  unfold insInner
  by_cases hc:a < j+1
  ·rw [h j (by omega) (by omega)]
   split
   ·refine rT lt lt' a j (swp d (j+1) j) (by rw [size_swp]; omega) fun p hp hpj=>?_
    rw [swp_right d (j+1) j (by omega),swp_other d (j+1) j p (by omega) (by omega)]
    exact h p hp (by omega)
   ·rfl
  ·rw [if_neg (by simp; omega),if_neg (by simp; omega)]
theorem tP (lt:α->α->Bool) (a:Nat):∀ (j:Nat) (d:Array α),j < d.size->(∀ p,j < p->(insInner lt a j d)[p]! = d[p]!)/\(∀ p,p<=j->∃ q,q<=j/\(insInner lt a j d)[p]! = d[q]!)
 | 0,d,_=>⟨fun _ _=>rfl,fun p hp=>⟨p,hp,rfl⟩⟩
 | j+1,d,hj=>by
  unfold insInner
  split
  ·obtain ⟨h1,h2⟩:=tP lt a j (swp d (j+1) j) (by rw [size_swp]; omega)
   refine ⟨fun p hp=>?_,fun p hp=>?_⟩
   ·rw [h1 p (by omega),swp_other d (j+1) j p (by omega) (by omega)]
   ·rcases Nat.lt_or_ge j p with hlt | hge
    ·obtain rfl:p=j+1:=by omega
     exact ⟨j,by omega,by rw [h1 (j+1) (by omega),swp_left d (j+1) j hj (by omega)]⟩
    ·obtain ⟨q,hq,he⟩:=h2 p hge
     rcases Nat.lt_or_ge q j with h3 | h3
     ·exact ⟨q,by omega,by rw [he,swp_other d (j+1) j q (by omega) (by omega)]⟩
     ·obtain rfl:q=j:=by omega
      exact ⟨q+1,by omega,by rw [he,swp_right d (q+1) q (by omega)]⟩
  ·exact ⟨fun _ _=>rfl,fun p hp=>⟨p,hp,rfl⟩⟩
theorem rU (lt lt':α->α->Bool) (idx:α->Int) (h:∀ x y,idx y < idx x->lt x y=lt' x y) (b:Nat):∀ (n i:Nat) (d:Array α),b - i=n->b<=d.size->
  (∀ p q,p < q->i<=q->q < b->idx d[p]! < idx d[q]!)->insOuter lt 0 b i d=insOuter lt' 0 b i d
 | 0,i,d,hn,_,_=>by
  have hi:¬ i < b:=by omega
  exact (show insOuter lt 0 b i d=d by rw [insOuter,if_neg hi]).trans (show insOuter lt' 0 b i d=d by rw [insOuter,if_neg hi]).symm
 | n+1,i,d,hn,hb,hi=>by
  rw [insOuter_go lt 0 b i d (by omega),insOuter_go lt' 0 b i d (by omega)]
  have e:=rT lt lt' 0 i d (by omega) (fun p _ hp=>h _ _ (hi p i hp (by omega) (by omega)))
  rw [<-e]
  obtain ⟨h1,h2⟩:=tP lt 0 i d (by omega)
  refine rU lt lt' idx h b n (i+1) _ (by omega) (by rw [tQ]; exact hb) fun p q hpq hq hqb=>?_
  rw [h1 q (by omega)]
  rcases Nat.lt_or_ge i p with h3 | h3
  ·rw [h1 p h3]; exact hi p q hpq (by omega) hqb
  ·obtain ⟨r,hr,he⟩:=h2 p h3
   rw [he]; exact hi r q (by omega) (by omega) hqb
theorem QW (lt lt':α->α->Bool) (idx:α->Int) (h:∀ x y,idx y < idx x->lt x y=lt' x y) (l:List α) (hinc:l.Pairwise fun x y=>idx x < idx y) :
  insertionSort lt l.toArray 0 l.length=insertionSort lt' l.toArray 0 l.length:=by
 unfold insertionSort
 refine rU lt lt' idx h l.length _ 1 l.toArray rfl (by simp) fun p q hpq _ hq=>?_
 have hp:p < l.length:=by omega
 simp only [List.getElem!_toArray]
 rw [getElem!_pos l p hp,getElem!_pos l q hq]
 exact List.pairwise_iff_getElem.1 hinc p q hp hq hpq
def dJ (lt:α->α->Bool) (l:List α):List α:=(insertionSort lt l.toArray 0 l.length).toList
theorem gJ (lt:α->α->Bool) (hS:SWO lt) (l:List α):(dJ lt l).Perm l:=by
 obtain ⟨⟨h1,_,h3⟩,_⟩:=insertionSort_holds hS l.toArray 0 l.length (Nat.zero_le _) (by simp)
 have e1:(insertionSort lt l.toArray 0 l.length).extract 0 l.length=insertionSort lt l.toArray 0 l.length:=by
  have:l.length=(insertionSort lt l.toArray 0 l.length).size:=by rw [h1]; simp
  rw (occs:=.pos [2]) [this]
  exact Array.extract_size
 have e2:l.toArray.extract 0 l.length=l.toArray:=by
  have:l.length=l.toArray.size:=by simp
  rw [this]; exact Array.extract_size
 rw [e1,e2] at h3
 simpa [dJ] using h3
theorem qN (lt:α->α->Bool) (hS:SWO lt) (l:List α):(dJ lt l).Pairwise fun x y=>lt y x=false:=by
 obtain ⟨⟨h1,_,_⟩,h4⟩:=insertionSort_holds hS l.toArray 0 l.length (Nat.zero_le _) (by simp)
 rw [List.pairwise_iff_getElem]
 intro i j hi hj hij
 unfold dJ at hi hj ⊢
 have hsz:(insertionSort lt l.toArray 0 l.length).size=l.length:=by rw [h1]; simp
 have hi':i < (insertionSort lt l.toArray 0 l.length).size:=by simpa using hi
 have hj':j < (insertionSort lt l.toArray 0 l.length).size:=by simpa using hj
 have:=h4 i j (Nat.zero_le _) hij (by omega)
 rw [getElem!_pos _ i hi',getElem!_pos _ j hj'] at this
 simpa using this
theorem wW (lt lt':α->α->Bool) (idx:α->Int) (h:∀ x y,idx y < idx x->lt x y=lt' x y) (l:List α) (hinc:l.Pairwise fun x y=>idx x < idx y):dJ lt l=dJ lt' l:=by
 unfold dJ; rw [QW lt lt' idx h l hinc]
end
theorem nF {α:Type} (lt:α->α->Prop) (irr:∀ x,¬ lt x x) (asy:∀ x y,lt x y->¬ lt y x):∀ (l m:List α),l.Perm m->l.Pairwise lt->m.Pairwise lt->l=m
 | [],m,h,_,_=>by rw [List.nil_perm] at h; exact h.symm
 | a :: l,m,h,hl,hm=>by
  cases m with
  | nil=>exact absurd h.length_eq (by simp)
  | cons b m =>
   rw [List.pairwise_cons] at hl hm
   have hab:a=b:=by
    have ha:a ∈ b :: m:=h.subset (by simp)
    have hb:b ∈ a :: l:=h.symm.subset (by simp)
    rcases List.mem_cons.1 ha with h1 | h1
    ·exact h1
    ·rcases List.mem_cons.1 hb with h2 | h2
     ·exact h2.symm
     ·exact absurd (hl.1 b h2) (asy _ _ (hm.1 a h1))
   subst hab
   rw [nF lt irr asy l m (List.perm_cons a |>.1 h) hl.2 hm.2]
theorem Y7 {α:Type} (lt:α->α->Bool) (irr:∀ x,lt x x=false) (asy:∀ x y,lt x y=true->lt y x=false) (l:List α) (h:l.Pairwise fun x y=>lt x y=true) :
  l.filter (fun t=>decide ((l.filter (fun u=>lt u t)).length<=1))=l.take 2:=by
 match l,h with
 | [],_=>rfl
 | [a],_=>simp [irr]
 | a :: b :: r,h =>
  rw [List.pairwise_cons,List.pairwise_cons] at h
  obtain ⟨ha,hb,hr⟩:=h
  have hab:=ha b (by simp)
  have e1:(a :: b :: r).filter (fun u=>lt u a)=[]:=by
   rw [List.filter_eq_nil_iff]
   intro x hx
   rcases List.mem_cons.1 hx with rfl | hx
   ·simp [irr]
   ·simp [asy _ _ (ha x hx)]
  have e2:(a :: b :: r).filter (fun u=>lt u b)=[a]:=by
   rw [List.filter_cons,hab]
   simp only [if_true]
   congr 1
   rw [List.filter_eq_nil_iff]
   intro x hx
   rcases List.mem_cons.1 hx with rfl | hx
   ·simp [irr]
   ·simp [asy _ _ (hb x hx)]
  have e3:∀ c ∈ r,decide (((a :: b :: r).filter (fun u=>lt u c)).length<=1)=false:=by
   intro c hc
   rw [List.filter_cons,ha c (by simp [hc]),List.filter_cons,hb c hc]
   simp
  rw [List.filter_cons,e1,List.filter_cons,e2]
  simp only [List.length_nil,List.length_cons,Nat.zero_le,decide_true,if_true,Nat.zero_add,Nat.le_refl]
  have e4:r.filter (fun t=>decide (((a :: b :: r).filter (fun u=>lt u t)).length<=1))=[]:=by
   rw [List.filter_eq_nil_iff]
   intro x hx
   rw [e3 x hx]; simp
  rw [e4]; rfl
/-! A row that is sorted in memory. -/
section
variable {α : Type} [Inhabited α]
theorem LO (w:World) (blk off:Nat) (F:Array Value) (B:Nat) (hB:B<=blk):Go.RowKit.Below B w (putRow id w blk off F):=by
 refine ⟨rfl,rfl,rfl,?_,fun k hk=>?_⟩
 ·unfold putRow mapBlock; simp
 ·unfold putRow mapBlock
  simp only [Array.getElem?_modify]
  rw [if_neg (by omega)]
theorem DU (w:World) (os:Array Obj) (B:Nat) (hB:B<=w.heap.size):Go.RowKit.Below B w (grow w os):=by
 refine ⟨rfl,rfl,rfl,by simp,fun k hk=>?_⟩
 rw [heap_grow_old w os (by omega)]
theorem NC (w:World) (n:Nat) (B:Nat):Go.RowKit.Below B w (Sort.ahead w n):=⟨rfl,rfl,rfl,Nat.le_refl _,fun _ _=>rfl⟩
theorem rD (enc:α->List Value) (k:Nat) (w:World) (blk off m:Nat) (dk:Array α) (os:Array Obj) (B:Nat) (hB:B<=blk) (hb:blk < w.heap.size):Go.RowKit.Below B w (sortWorldK enc k w blk off m dk os):=by
 unfold sortWorldK putRowK
 refine ((NC w m B).trans (LO _ blk off _ B hB)).trans (DU _ os B ?_)
 have:(putRow id (Sort.ahead w m) blk off (flatK enc k dk)).heap.size=w.heap.size:=by unfold putRow mapBlock Sort.ahead; simp
 omega
def jT (enc:α->List Value) (k:Nat) (B:Nat) (w:World) (A:Option Addr) (l:List α):Prop :=
 l=[]\/∃ g,A=some ⟨g,0,none⟩/\B<=g/\g < w.heap.size/\HoldsK enc k w g 0 l.toArray
theorem flat_get! {enc:α->List Value} {k:Nat} (hk:∀ x,(enc x).length=k) (l:List α) (j:Nat) (hj:j < l.length*k):(l.map enc).flatten[j]? = some (flatK enc k l.toArray)[j]!:=by
 have hk0:0 < k:=by
  rcases Nat.eq_zero_or_pos k with h0 | h0
  ·rw [h0,Nat.mul_zero] at hj; omega
  ·exact h0
 have hd:j / k < l.length:=(Nat.div_lt_iff_lt_mul hk0).2 hj
 have hm:=Nat.mod_lt j hk0
 rw [get_flatK enc k l.toArray j (by simpa using hj)]
 have:=mX k (l.map enc) (fun cs hcs=>by obtain ⟨x,_,rfl⟩:=List.mem_map.1 hcs; exact hk x) (j / k) (j % k) hm
 rw [show j / k*k+j % k=j by rw [Nat.mul_comm]; exact Nat.div_add_mod j k] at this
 rw [this,List.getElem?_map,List.getElem?_eq_getElem hd]
 simp only [Option.map_some,Option.bind_some,List.getElem!_toArray]
 rw [getElem!_pos l (j / k) hd,getElem!_pos (enc l[j / k]) (j % k) (by rw [hk]; exact hm),List.getElem?_eq_getElem (by rw [hk]; exact hm)]
omit [Inhabited α] in
theorem nU {enc:α->List Value} {k:Nat} (hk:∀ x,(enc x).length=k) (l:List α):(l.map enc).flatten.length=l.length*k:=by
 rw [DK k (l.map enc) (fun cs hcs=>by obtain ⟨x,_,rfl⟩:=List.mem_map.1 hcs; exact hk x),List.length_map]
theorem JB {enc:α->List Value} {k:Nat} (hk:∀ x,(enc x).length=k) (hk0:0 < k) {w:World} {B:Nat} {e:TypeId} {A:Option Addr} {n c:Nat} {l:List α}
  (h:w.ownsRow B e k (.slice A n c) n ((l.map enc).flatten)):jT enc k B w A l:=by
 have hlen:=nU hk l
 rcases h.2 with ⟨h1,h2⟩ | ⟨g,cap,cur,h1,hB,hg,hnc,_,h5,h6⟩
 ·have h3:=h.1
  rw [h2,Nat.zero_mul,hlen] at h3
  refine .inl ?_
  cases l with
  | nil=>rfl
  | cons x r =>
   have:=Nat.mul_pos (show 0 < (x :: r).length by simp) hk0
   omega
 ·injection h1 with e1 e2 e3
  refine .inr ⟨g,e1,hB,?_,fun j hj=>?_⟩
  ·rcases Nat.lt_or_ge g w.heap.size with h | h
   ·exact h
   ·rw [Array.getElem?_eq_none h] at hg; cases hg
  ·rw [size_flatK] at hj
   have hj':j < l.length*k:=by simpa using hj
   have h7:=flat_get! hk l j hj'
   have hjn:j < n*k:=by rw [<-h.1,hlen]; exact hj'
   have h8:cur[j]? = some (flatK enc k l.toArray)[j]!:=by
    rw [<-h7,<-h6,List.getElem?_take_of_lt hjn]; simp
   refine ⟨?_,?_⟩
   ·rw [Nat.zero_add]
    simp only [World.cell?,hg]
    simpa using h8
   ·simp [World.frozen?,hg]
theorem JC {enc:α->List Value} {k:Nat} (hk:∀ x,(enc x).length=k) {w:World} {B:Nat} {A:Option Addr} {l:List α} (h:jT enc k B w A l):Row w w.heap.size A ((l.map enc).flatten):=by
 rcases h with rfl | ⟨g,rfl,hB,hg,hh⟩
 ·exact Row.none_ _ _ _
 ·intro i v hv
  have hi:i < l.length*k:=by have:=(List.getElem?_eq_some_iff.1 hv).1; rwa [nU hk] at this
  have h7:=flat_get! hk l i hi
  rw [hv] at h7
  injection h7 with h7
  refine ⟨g,0,rfl,hg,?_⟩
  have:=(hh i (by rw [size_flatK]; simpa using hi)).1
  rw [this,h7]; rfl
theorem UX {enc:α->List Value} {k:Nat} (hk:∀ x,(enc x).length=k) {w:World} {B:Nat} {A:Option Addr} {l:List α} (h:jT enc k B w A l) (m:Nat):jT enc k B w A (l.take m):=by
 rcases h with rfl | ⟨g,rfl,hB,hg,hh⟩
 ·exact .inl (by simp)
 ·refine .inr ⟨g,rfl,hB,hg,fun j hj=>?_⟩
  rw [size_flatK] at hj
  have hj1:j < (l.take m).length*k:=by simpa using hj
  have hle:(l.take m).length*k<=l.length*k:=Nat.mul_le_mul_right k (by rw [List.length_take]; omega)
  have h1:=flat_get! hk (l.take m) j hj1
  have h2:=flat_get! hk l j (by omega)
  have hpre:((l.take m).map enc).flatten <+: (l.map enc).flatten:=by
   refine ⟨((l.drop m).map enc).flatten,?_⟩
   rw [<-List.flatten_append,<-List.map_append,List.take_append_drop]
  have h3:((l.take m).map enc).flatten[j]? = (l.map enc).flatten[j]?:=by
   obtain ⟨r,hr⟩:=hpre
   rw [<-hr,List.getElem?_append_left (by rw [nU hk]; exact hj1)]
  rw [h1,h2] at h3
  injection h3 with h3
  rw [h3]
  exact hh j (by rw [size_flatK]; simp; omega)
theorem wG {enc:α->List Value} {k:Nat} {w:World} {B g:Nat} {l m:List α} (hB:B<=g) (hg:g < w.heap.size) (hh:HoldsK enc k w g 0 l.toArray) (hlm:m.length=l.length) (n:Nat) (os:Array Obj) :
  jT enc k B (sortWorldK enc k w g 0 n m.toArray os) (some ⟨g,0,none⟩) m :=
 .inr ⟨g,rfl,hB,Nat.lt_of_lt_of_le hg (size_sortWorldK_c enc k w g 0 n m.toArray os),holdsK_sortWorldK_c enc k w g 0 l.toArray m.toArray n os hh hg (by simpa using hlm)⟩
end
end Go.Proofs.YtnbbfblaipjcmaaGreatDoor
