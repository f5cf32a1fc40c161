/- SortP, Names, Samp. Conditions: as each theorem states. -/
import Derived.Shelf.SlSortCmp.InsertionK
import Derived.Lib.Bytealg
import Derived.Test.YtnbbfblaipjcmaaGreatDoorPu03
namespace Go.Proofs.YtnbbfblaipjcmaaGreatDoor
section
open Go.Sort
section
variable {α : Type} [Inhabited α]
theorem insInner_size (lt:α->α->Bool) (a:Nat):∀ (j:Nat) (d:Array α),(insInner lt a j d).size=d.size
 | 0,_=>rfl
 | j+1,d=>by
  unfold insInner
  split
  ·rw [insInner_size lt a j,size_swp]
  ·rfl
theorem insInner_agree (lt lt':α->α->Bool) (a:Nat):∀ (j:Nat) (d:Array α),j < d.size->(∀ p,a<=p->p < j->lt d[j]! d[p]! = lt' d[j]! d[p]!)->insInner lt a j d=insInner lt' a j d
 | 0,_,_,_=>rfl
 | j+1,d,hj,h=>by
  unfold insInner
  by_cases hc:a < j+1
  ·rw [h j (by omega) (by omega)]
   split
   ·refine insInner_agree lt lt' a j (swp d (j+1) j) (by rw [size_swp]; omega) fun p hp hpj=>?_
    rw [swp_right d (j+1) j (by omega),swp_other d (j+1) j p (by omega) (by omega)]
    exact h p hp (by omega)
   ·rfl
  ·rw [if_neg (by simp; omega),if_neg (by simp; omega)]
theorem insInner_from (lt:α->α->Bool) (a:Nat):∀ (j:Nat) (d:Array α),j < d.size->(∀ p,j < p->(insInner lt a j d)[p]! = d[p]!)/\(∀ p,p<=j->∃ q,q<=j/\(insInner lt a j d)[p]! = d[q]!)
 | 0,d,_=>⟨fun _ _=>rfl,fun p hp=>⟨p,hp,rfl⟩⟩
 | j+1,d,hj=>by
  unfold insInner
  split
  ·obtain ⟨h1,h2⟩:=insInner_from lt a j (swp d (j+1) j) (by rw [size_swp]; omega)
   refine ⟨fun p hp=>?_,fun p hp=>?_⟩
   ·rw [h1 p (by omega),swp_other d (j+1) j p (by omega) (by omega)]
   ·rcases Nat.lt_or_ge j p with hlt | hge
    ·obtain rfl:p=j+1:=by omega
     exact ⟨j,by omega,by rw [h1 (j+1) (by omega),swp_left d (j+1) j hj (by omega)]⟩
    ·obtain ⟨q,hq,he⟩:=h2 p hge
     rcases Nat.lt_or_ge q j with h3 | h3
     ·exact ⟨q,by omega,by rw [he,swp_other d (j+1) j q (by omega) (by omega)]⟩
     ·obtain rfl:q=j:=by omega
      exact ⟨q+1,by omega,by rw [he,swp_right d (q+1) q (by omega)]⟩
  ·exact ⟨fun _ _=>rfl,fun p hp=>⟨p,hp,rfl⟩⟩
theorem insOuter_agree (lt lt':α->α->Bool) (idx:α->Int) (h:∀ x y,idx y < idx x->lt x y=lt' x y) (b:Nat):∀ (n i:Nat) (d:Array α),b - i=n->b<=d.size->
  (∀ p q,p < q->i<=q->q < b->idx d[p]! < idx d[q]!)->insOuter lt 0 b i d=insOuter lt' 0 b i d
 | 0,i,d,hn,_,_=>by
  have hi:¬ i < b:=by omega
  exact (show insOuter lt 0 b i d=d by rw [insOuter,if_neg hi]).trans (show insOuter lt' 0 b i d=d by rw [insOuter,if_neg hi]).symm
 | n+1,i,d,hn,hb,hi=>by
  rw [insOuter_go lt 0 b i d (by omega),insOuter_go lt' 0 b i d (by omega)]
  have e:=insInner_agree lt lt' 0 i d (by omega) (fun p _ hp=>h _ _ (hi p i hp (by omega) (by omega)))
  rw [<-e]
  obtain ⟨h1,h2⟩:=insInner_from lt 0 i d (by omega)
  refine insOuter_agree lt lt' idx h b n (i+1) _ (by omega) (by rw [insInner_size]; exact hb) fun p q hpq hq hqb=>?_
  rw [h1 q (by omega)]
  rcases Nat.lt_or_ge i p with h3 | h3
  ·rw [h1 p h3]; exact hi p q hpq (by omega) hqb
  ·obtain ⟨r,hr,he⟩:=h2 p h3
   rw [he]; exact hi r q (by omega) (by omega) hqb
theorem sort_stable (lt lt':α->α->Bool) (idx:α->Int) (h:∀ x y,idx y < idx x->lt x y=lt' x y) (l:List α) (hinc:l.Pairwise fun x y=>idx x < idx y) :
  insertionSort lt l.toArray 0 l.length=insertionSort lt' l.toArray 0 l.length:=by
 unfold insertionSort
 refine insOuter_agree lt lt' idx h l.length _ 1 l.toArray rfl (by simp) fun p q hpq _ hq=>?_
 have hp:p < l.length:=by omega
 simp only [List.getElem!_toArray]
 rw [getElem!_pos l p hp,getElem!_pos l q hq]
 exact List.pairwise_iff_getElem.1 hinc p q hp hq hpq
def sortL (lt:α->α->Bool) (l:List α):List α:=(insertionSort lt l.toArray 0 l.length).toList
theorem sortL_perm (lt:α->α->Bool) (hS:SWO lt) (l:List α):(sortL lt l).Perm l:=by
 obtain ⟨⟨h1,_,h3⟩,_⟩:=insertionSort_holds hS l.toArray 0 l.length (Nat.zero_le _) (by simp)
 have e1:(insertionSort lt l.toArray 0 l.length).extract 0 l.length=insertionSort lt l.toArray 0 l.length:=by
  have:l.length=(insertionSort lt l.toArray 0 l.length).size:=by rw [h1]; simp
  rw (occs:=.pos [2]) [this]
  exact Array.extract_size
 have e2:l.toArray.extract 0 l.length=l.toArray:=by
  have:l.length=l.toArray.size:=by simp
  rw [this]; exact Array.extract_size
 rw [e1,e2] at h3
 simpa [sortL] using h3
theorem sortL_sorted (lt:α->α->Bool) (hS:SWO lt) (l:List α):(sortL lt l).Pairwise fun x y=>lt y x=false:=by
 obtain ⟨⟨h1,_,_⟩,h4⟩:=insertionSort_holds hS l.toArray 0 l.length (Nat.zero_le _) (by simp)
 rw [List.pairwise_iff_getElem]
 intro i j hi hj hij
 unfold sortL at hi hj ⊢
 have hsz:(insertionSort lt l.toArray 0 l.length).size=l.length:=by rw [h1]; simp
 have hi':i < (insertionSort lt l.toArray 0 l.length).size:=by simpa using hi
 have hj':j < (insertionSort lt l.toArray 0 l.length).size:=by simpa using hj
 have:=h4 i j (Nat.zero_le _) hij (by omega)
 rw [getElem!_pos _ i hi',getElem!_pos _ j hj'] at this
 simpa using this
theorem sortL_stable (lt lt':α->α->Bool) (idx:α->Int) (h:∀ x y,idx y < idx x->lt x y=lt' x y) (l:List α) (hinc:l.Pairwise fun x y=>idx x < idx y):sortL lt l=sortL lt' l:=by
 unfold sortL; rw [sort_stable lt lt' idx h l hinc]
end
theorem ordered_unique {α:Type} (lt:α->α->Prop) (irr:∀ x,¬ lt x x) (asy:∀ x y,lt x y->¬ lt y x):∀ (l m:List α),l.Perm m->l.Pairwise lt->m.Pairwise lt->l=m
 | [],m,h,_,_=>by rw [List.nil_perm] at h; exact h.symm
 | a :: l,m,h,hl,hm=>by
  cases m with
  | nil=>exact absurd h.length_eq (by simp)
  | cons b m =>
   rw [List.pairwise_cons] at hl hm
   have hab:a=b:=by
    have ha:a ∈ b :: m:=h.subset (by simp)
    have hb:b ∈ a :: l:=h.symm.subset (by simp)
    rcases List.mem_cons.1 ha with h1 | h1
    ·exact h1
    ·rcases List.mem_cons.1 hb with h2 | h2
     ·exact h2.symm
     ·exact absurd (hl.1 b h2) (asy _ _ (hm.1 a h1))
   subst hab
   rw [ordered_unique lt irr asy l m (List.perm_cons a |>.1 h) hl.2 hm.2]
theorem first_two {α:Type} (lt:α->α->Bool) (irr:∀ x,lt x x=false) (asy:∀ x y,lt x y=true->lt y x=false) (l:List α) (h:l.Pairwise fun x y=>lt x y=true) :
  l.filter (fun t=>decide ((l.filter (fun u=>lt u t)).length<=1))=l.take 2:=by
 match l,h with
 | [],_=>rfl
 | [a],_=>simp [irr]
 | a :: b :: r,h =>
  rw [List.pairwise_cons,List.pairwise_cons] at h
  obtain ⟨ha,hb,hr⟩:=h
  have hab:=ha b (by simp)
  have e1:(a :: b :: r).filter (fun u=>lt u a)=[]:=by
   rw [List.filter_eq_nil_iff]
   intro x hx
   rcases List.mem_cons.1 hx with rfl | hx
   ·simp [irr]
   ·simp [asy _ _ (ha x hx)]
  have e2:(a :: b :: r).filter (fun u=>lt u b)=[a]:=by
   rw [List.filter_cons,hab]
   simp only [if_true]
   congr 1
   rw [List.filter_eq_nil_iff]
   intro x hx
   rcases List.mem_cons.1 hx with rfl | hx
   ·simp [irr]
   ·simp [asy _ _ (hb x hx)]
  have e3:∀ c ∈ r,decide (((a :: b :: r).filter (fun u=>lt u c)).length<=1)=false:=by
   intro c hc
   rw [List.filter_cons,ha c (by simp [hc]),List.filter_cons,hb c hc]
   simp
  rw [List.filter_cons,e1,List.filter_cons,e2]
  simp only [List.length_nil,List.length_cons,Nat.zero_le,decide_true,if_true,Nat.zero_add,Nat.le_refl]
  have e4:r.filter (fun t=>decide (((a :: b :: r).filter (fun u=>lt u t)).length<=1))=[]:=by
   rw [List.filter_eq_nil_iff]
   intro x hx
   rw [e3 x hx]; simp
  rw [e4]; rfl
/-! A row that is sorted in memory. -/
section
variable {α : Type} [Inhabited α]
theorem putRow_below (w:World) (blk off:Nat) (F:Array Value) (B:Nat) (hB:B<=blk):Go.RowKit.Below B w (putRow id w blk off F):=by
 refine ⟨rfl,rfl,rfl,?_,fun k hk=>?_⟩
 ·unfold putRow mapBlock; simp
 ·unfold putRow mapBlock
  simp only [Array.getElem?_modify]
  rw [if_neg (by omega)]
theorem grow_below (w:World) (os:Array Obj) (B:Nat) (hB:B<=w.heap.size):Go.RowKit.Below B w (grow w os):=by
 refine ⟨rfl,rfl,rfl,by simp,fun k hk=>?_⟩
 rw [heap_grow_old w os (by omega)]
theorem ahead_below (w:World) (n:Nat) (B:Nat):Go.RowKit.Below B w (Sort.ahead w n):=⟨rfl,rfl,rfl,Nat.le_refl _,fun _ _=>rfl⟩
theorem sortWorld_below (enc:α->List Value) (k:Nat) (w:World) (blk off m:Nat) (dk:Array α) (os:Array Obj) (B:Nat) (hB:B<=blk) (hb:blk < w.heap.size):Go.RowKit.Below B w (sortWorldK enc k w blk off m dk os):=by
 unfold sortWorldK putRowK
 refine ((ahead_below w m B).trans (putRow_below _ blk off _ B hB)).trans (grow_below _ os B ?_)
 have:(putRow id (Sort.ahead w m) blk off (flatK enc k dk)).heap.size=w.heap.size:=by unfold putRow mapBlock Sort.ahead; simp
 omega
def HoldsT (enc:α->List Value) (k:Nat) (B:Nat) (w:World) (A:Option Addr) (l:List α):Prop :=
 l=[]\/∃ g,A=some ⟨g,0,none⟩/\B<=g/\g < w.heap.size/\HoldsK enc k w g 0 l.toArray
theorem flat_get! {enc:α->List Value} {k:Nat} (hk:∀ x,(enc x).length=k) (l:List α) (j:Nat) (hj:j < l.length*k):(l.map enc).flatten[j]? = some (flatK enc k l.toArray)[j]!:=by
 have hk0:0 < k:=by
  rcases Nat.eq_zero_or_pos k with h0 | h0
  ·rw [h0,Nat.mul_zero] at hj; omega
  ·exact h0
 have hd:j / k < l.length:=(Nat.div_lt_iff_lt_mul hk0).2 hj
 have hm:=Nat.mod_lt j hk0
 rw [get_flatK enc k l.toArray j (by simpa using hj)]
 have:=flat_get k (l.map enc) (fun cs hcs=>by obtain ⟨x,_,rfl⟩:=List.mem_map.1 hcs; exact hk x) (j / k) (j % k) hm
 rw [show j / k*k+j % k=j by rw [Nat.mul_comm]; exact Nat.div_add_mod j k] at this
 rw [this,List.getElem?_map,List.getElem?_eq_getElem hd]
 simp only [Option.map_some,Option.bind_some,List.getElem!_toArray]
 rw [getElem!_pos l (j / k) hd,getElem!_pos (enc l[j / k]) (j % k) (by rw [hk]; exact hm),List.getElem?_eq_getElem (by rw [hk]; exact hm)]
omit [Inhabited α] in
theorem flat_length {enc:α->List Value} {k:Nat} (hk:∀ x,(enc x).length=k) (l:List α):(l.map enc).flatten.length=l.length*k:=by
 rw [flat_len k (l.map enc) (fun cs hcs=>by obtain ⟨x,_,rfl⟩:=List.mem_map.1 hcs; exact hk x),List.length_map]
theorem holds_own {enc:α->List Value} {k:Nat} (hk:∀ x,(enc x).length=k) (hk0:0 < k) {w:World} {B:Nat} {e:TypeId} {A:Option Addr} {n c:Nat} {l:List α}
  (h:w.ownsRow B e k (.slice A n c) n ((l.map enc).flatten)):HoldsT enc k B w A l:=by
 have hlen:=flat_length hk l
 rcases h.2 with ⟨h1,h2⟩ | ⟨g,cap,cur,h1,hB,hg,hnc,_,h5,h6⟩
 ·have h3:=h.1
  rw [h2,Nat.zero_mul,hlen] at h3
  refine .inl ?_
  cases l with
  | nil=>rfl
  | cons x r =>
   have:=Nat.mul_pos (show 0 < (x :: r).length by simp) hk0
   omega
 ·injection h1 with e1 e2 e3
  refine .inr ⟨g,e1,hB,?_,fun j hj=>?_⟩
  ·rcases Nat.lt_or_ge g w.heap.size with h | h
   ·exact h
   ·rw [Array.getElem?_eq_none h] at hg; cases hg
  ·rw [size_flatK] at hj
   have hj':j < l.length*k:=by simpa using hj
   have h7:=flat_get! hk l j hj'
   have hjn:j < n*k:=by rw [<-h.1,hlen]; exact hj'
   have h8:cur[j]? = some (flatK enc k l.toArray)[j]!:=by
    rw [<-h7,<-h6,List.getElem?_take_of_lt hjn]; simp
   refine ⟨?_,?_⟩
   ·rw [Nat.zero_add]
    simp only [World.cell?,hg]
    simpa using h8
   ·simp [World.frozen?,hg]
theorem holds_row {enc:α->List Value} {k:Nat} (hk:∀ x,(enc x).length=k) {w:World} {B:Nat} {A:Option Addr} {l:List α} (h:HoldsT enc k B w A l):Row w w.heap.size A ((l.map enc).flatten):=by
 rcases h with rfl | ⟨g,rfl,hB,hg,hh⟩
 ·exact Row.none_ _ _ _
 ·intro i v hv
  have hi:i < l.length*k:=by have:=(List.getElem?_eq_some_iff.1 hv).1; rwa [flat_length hk] at this
  have h7:=flat_get! hk l i hi
  rw [hv] at h7
  injection h7 with h7
  refine ⟨g,0,rfl,hg,?_⟩
  have:=(hh i (by rw [size_flatK]; simpa using hi)).1
  rw [this,h7]; rfl
theorem holds_take {enc:α->List Value} {k:Nat} (hk:∀ x,(enc x).length=k) {w:World} {B:Nat} {A:Option Addr} {l:List α} (h:HoldsT enc k B w A l) (m:Nat):HoldsT enc k B w A (l.take m):=by
 rcases h with rfl | ⟨g,rfl,hB,hg,hh⟩
 ·exact .inl (by simp)
 ·refine .inr ⟨g,rfl,hB,hg,fun j hj=>?_⟩
  rw [size_flatK] at hj
  have hj1:j < (l.take m).length*k:=by simpa using hj
  have hle:(l.take m).length*k<=l.length*k:=Nat.mul_le_mul_right k (by rw [List.length_take]; omega)
  have h1:=flat_get! hk (l.take m) j hj1
  have h2:=flat_get! hk l j (by omega)
  have hpre:((l.take m).map enc).flatten <+: (l.map enc).flatten:=by
   refine ⟨((l.drop m).map enc).flatten,?_⟩
   rw [<-List.flatten_append,<-List.map_append,List.take_append_drop]
  have h3:((l.take m).map enc).flatten[j]? = (l.map enc).flatten[j]?:=by
   obtain ⟨r,hr⟩:=hpre
   rw [<-hr,List.getElem?_append_left (by rw [flat_length hk]; exact hj1)]
  rw [h1,h2] at h3
  injection h3 with h3
  rw [h3]
  exact hh j (by rw [size_flatK]; simp; omega)
theorem holds_sorted {enc:α->List Value} {k:Nat} {w:World} {B g:Nat} {l m:List α} (hB:B<=g) (hg:g < w.heap.size) (hh:HoldsK enc k w g 0 l.toArray) (hlm:m.length=l.length) (n:Nat) (os:Array Obj) :
  HoldsT enc k B (sortWorldK enc k w g 0 n m.toArray os) (some ⟨g,0,none⟩) m :=
 .inr ⟨g,rfl,hB,Nat.lt_of_lt_of_le hg (size_sortWorldK_c enc k w g 0 n m.toArray os),holdsK_sortWorldK_c enc k w g 0 l.toArray m.toArray n os hh hg (by simpa using hlm)⟩
end
end
section
open Go.Lib
theorem cmpB_self:∀ (a:List UInt8),compareBytes a a=0
 | []=>rfl
 | x :: r=>by
  unfold compareBytes
  rw [if_neg (UInt8.lt_irrefl x),if_neg (UInt8.lt_irrefl x)]
  exact cmpB_self r
theorem u8_lt {a b:UInt8}:a < b ↔ a.toNat < b.toNat:=UInt8.lt_iff_toNat_lt
theorem u8_eq {a b:UInt8} (h:a.toNat=b.toNat):a=b:=UInt8.toNat_inj.1 h
theorem u8_nlt {a b:UInt8} (h:¬ a < b):b.toNat<=a.toNat:=Nat.not_lt.1 fun h2=>h (u8_lt.2 h2)
theorem cmpB_three:∀ (a b:List UInt8),(compareBytes a b = -1/\compareBytes b a=1)\/(compareBytes a b=1/\compareBytes b a = -1)\/(compareBytes a b=0/\compareBytes b a=0/\a=b)
 | [],[]=>.inr (.inr ⟨rfl,rfl,rfl⟩)
 | [],_ :: _=>.inl ⟨rfl,rfl⟩
 | _ :: _,[]=>.inr (.inl ⟨rfl,rfl⟩)
 | x :: r,y :: s=>by
  unfold compareBytes
  rcases Nat.lt_trichotomy x.toNat y.toNat with h | h | h
  ·rw [if_pos (u8_lt.2 h),if_neg (fun h2=>by have:=u8_lt.1 h2; omega),if_pos (u8_lt.2 h)]
   exact .inl ⟨rfl,rfl⟩
  ·obtain rfl:=u8_eq h
   rw [if_neg (UInt8.lt_irrefl x),if_neg (UInt8.lt_irrefl x),if_neg (UInt8.lt_irrefl x),if_neg (UInt8.lt_irrefl x)]
   rcases cmpB_three r s with h1 | h1 | ⟨h1,h2,h3⟩
   ·exact .inl h1
   ·exact .inr (.inl h1)
   ·exact .inr (.inr ⟨h1,h2,by rw [h3]⟩)
  ·rw [if_neg (fun h2=>by have:=u8_lt.1 h2; omega),if_pos (u8_lt.2 h),if_pos (u8_lt.2 h)]
   exact .inr (.inl ⟨rfl,rfl⟩)
theorem cmpB_trans:∀ (a b c:List UInt8),compareBytes a b < 0->compareBytes b c < 0->compareBytes a c < 0
 | [],[],_,h,_=>absurd h (by simp [compareBytes])
 | [],_ :: _,[],_,h=>absurd h (by simp [compareBytes])
 | [],_ :: _,_ :: _,_,_=>by simp [compareBytes]
 | _ :: _,[],_,h,_=>absurd h (by simp [compareBytes])
 | _ :: _,_ :: _,[],_,h=>absurd h (by simp [compareBytes])
 | x :: r,y :: s,z :: t,h1,h2=>by
  unfold compareBytes at *
  have ih:=cmpB_trans r s t
  by_cases e1:x < y
  ·by_cases e2:y < z
   ·rw [if_pos (u8_lt.2 (Nat.lt_trans (u8_lt.1 e1) (u8_lt.1 e2)))]; omega
   ·rw [if_neg e2] at h2
    by_cases e3:z < y
    ·rw [if_pos e3] at h2; omega
    ·obtain rfl:y=z:=u8_eq (Nat.le_antisymm (u8_nlt e3) (u8_nlt e2))
     rw [if_pos e1]; omega
  ·rw [if_neg e1] at h1
   by_cases e4:y < x
   ·rw [if_pos e4] at h1; omega
   ·obtain rfl:x=y:=u8_eq (Nat.le_antisymm (u8_nlt e4) (u8_nlt e1))
    rw [if_neg e4] at h1
    by_cases e2:x < z
    ·rw [if_pos e2]; omega
    ·rw [if_neg e2] at h2
     by_cases e3:z < x
     ·rw [if_pos e3] at h2; omega
     ·rw [if_neg e3] at h2
      rw [if_neg e2,if_neg e3]
      exact ih h1 h2
def nameLt (a b:ByteArray):Bool:=decide (compareBytes a.data.toList b.data.toList < 0)
theorem bytes_eq {a b:ByteArray} (h:a.data.toList=b.data.toList):a=b:=by
 apply ByteArray.ext; exact Array.toList_inj.1 h
theorem nameLt_irr (a:ByteArray):nameLt a a=false:=by unfold nameLt; rw [cmpB_self]; rfl
theorem nameLt_asy {a b:ByteArray} (h:nameLt a b=true):nameLt b a=false:=by
 unfold nameLt at *
 rcases cmpB_three a.data.toList b.data.toList with ⟨_,h4⟩ | ⟨h3,_⟩ | ⟨h3,_⟩
 ·rw [h4]; rfl
 ·rw [h3] at h; simp at h
 ·rw [h3] at h; simp at h
theorem nameLt_trans {a b c:ByteArray} (h1:nameLt a b=true) (h2:nameLt b c=true):nameLt a c=true:=by
 unfold nameLt at *
 simp only [decide_eq_true_eq] at *
 exact cmpB_trans _ _ _ h1 h2
theorem nameLt_eq {a b:ByteArray} (h1:nameLt a b=false) (h2:nameLt b a=false):a=b:=by
 unfold nameLt at *
 rcases cmpB_three a.data.toList b.data.toList with ⟨h3,h4⟩ | ⟨h3,h4⟩ | ⟨_,_,h3⟩
 ·simp [h3] at h1
 ·simp [h4] at h2
 ·exact bytes_eq h3
end
section
open Go.RowKit Go.Lib
structure SampV where
 name:ByteArray
 rate:Int
 lp:Bool
 f:Int
 t:Int
 rows:List (List Int)
instance:Inhabited SampV:=⟨⟨ByteArray.empty,0,false,0,0,[]⟩⟩
structure HSamp where
 nm:ByteArray
 rate:Int
 lp:Bool
 f:Int
 t:Int
 a:Option Addr
 len:Nat
 cap:Nat
instance:Inhabited HSamp:=⟨⟨ByteArray.empty,0,false,0,0,none,0,0⟩⟩
def HSamp.cells (h:HSamp):List Value:=[.string h.nm,.int .i64 h.rate,.bool h.lp,.int .i64 h.f,.int .i64 h.t,.slice h.a h.len h.cap]
def HSamp.fits (w:World) (B:Nat) (h:HSamp) (s:SampV):Prop :=
 (h.nm=s.name/\h.rate=s.rate/\h.lp=s.lp/\h.f=s.f/\h.t=s.t/\h.len=s.rows.length)/\s.rows.length<=h.cap/\h.cap<=9223372036854775807/\∃ vs,Row w B h.a vs/\RowsAt w B vs s.rows
theorem HSamp.fits.below {w w':World} {B:Nat} {h:HSamp} {s:SampV} (k:h.fits w B s) (hb:Below B w w'):h.fits w' B s:=by
 obtain ⟨h1,h2,h3,vs,h4,h5⟩:=k
 exact ⟨h1,h2,h3,vs,h4.below hb,h5.below hb⟩
theorem HSamp.fits.more {w:World} {B B':Nat} {h:HSamp} {s:SampV} (k:h.fits w B s) (hb:B<=B'):h.fits w B' s:=by
 obtain ⟨h1,h2,h3,vs,h4,h5⟩:=k
 exact ⟨h1,h2,h3,vs,h4.more hb,h5.more hb⟩
structure ASamp where
 idx:Int
 h:HSamp
 s:SampV
instance:Inhabited ASamp:=⟨⟨0,default,default⟩⟩
def ASamp.cells (x:ASamp):List Value:=x.h.cells
def headCells (L:List (HSamp × SampV)):List Value:=(L.map fun p=>p.1.cells).flatten
structure SampsAt (w:World) (B:Nat) (A:Option Addr) (L:List (HSamp × SampV)):Prop where
 row:Row w B A (headCells L)
 fits:∀ p ∈ L,p.1.fits w B p.2
theorem SampsAt.below {w w':World} {B:Nat} {A:Option Addr} {L:List (HSamp × SampV)} (k:SampsAt w B A L) (hb:Below B w w'):SampsAt w' B A L:=⟨k.row.below hb,fun p hp=>(k.fits p hp).below hb⟩
theorem SampsAt.more {w:World} {B B':Nat} {A:Option Addr} {L:List (HSamp × SampV)} (k:SampsAt w B A L) (hb:B<=B'):SampsAt w B' A L:=⟨k.row.more hb,fun p hp=>(k.fits p hp).more hb⟩
theorem SampsAt.later {w w':World} {A:Option Addr} {L:List (HSamp × SampV)} (k:SampsAt w w.heap.size A L) (hb:Below w.heap.size w w'):SampsAt w' w'.heap.size A L:=(k.below hb).more hb.size
theorem hs_len:∀ x:ASamp,x.cells.length=6:=fun _=>rfl
theorem hs_one:∀ x:ASamp,∀ v ∈ x.cells,v.oneCell'=true:=by
 intro x v hv
 simp only [ASamp.cells,HSamp.cells,List.mem_cons,List.not_mem_nil,or_false] at hv
 rcases hv with rfl | rfl | rfl | rfl | rfl | rfl <;> rfl
theorem head_get (L:List (HSamp × SampV)) {k:Nat} {p:HSamp × SampV} (h:L[k]? = some p) (j:Nat) (hj:j < 6):(headCells L)[k*6+j]? = p.1.cells[j]?:=by
 unfold headCells
 rw [flat_get 6 (L.map fun p=>p.1.cells) (fun cs hcs=>by obtain ⟨z,_,rfl⟩:=List.mem_map.1 hcs; rfl) k j hj]
 simp [h]
theorem samp_at {w:World} {B:Nat} {A:Option Addr} {L:List (HSamp × SampV)} (hr:Row w B A (headCells L)) {k:Nat} {p:HSamp × SampV} (h:L[k]? = some p) :
  ∃ b off,A=some ⟨b,off,none⟩/\b < B/\∀ j v,p.1.cells[j]? = some v->w.cell? ⟨b,off+k*6+j,none⟩=some v:=by
 have h0:=head_get L h 0 (by omega)
 obtain ⟨b,off,hA,hb,_⟩:=hr (k*6+0) (.string p.1.nm) h0
 refine ⟨b,off,hA,hb,fun j v hv=>?_⟩
 have hj:j < 6:=by have:=(List.getElem?_eq_some_iff.1 hv).1; simpa [HSamp.cells] using this
 have h1:=head_get L h j hj
 rw [hv] at h1
 obtain ⟨b',off',hA',_,hc⟩:=hr (k*6+j) v h1
 rw [hA] at hA'
 injection hA' with hA'
 injection hA' with e1 e2
 subst e1 e2
 rw [Nat.add_assoc]; exact hc
/-! In the order of their names. -/
def cmpName (x y:ASamp):Int:=compareBytes x.h.nm.data.toList y.h.nm.data.toList
def precN (x y:Int × ByteArray):Bool:=nameLt x.2 y.2 || (!nameLt y.2 x.2 && decide (x.1 < y.1))
theorem swo_of {α:Type} (f:α->ByteArray):Sort.SWO (fun x y=>nameLt (f x) (f y)) :=
 ⟨fun x=>nameLt_irr _,fun x y z h1 h2=>nameLt_trans h1 h2,fun x y z h1 h2=>by
  cases h:nameLt (f x) (f z)
  ·rfl
  ·exfalso
   cases h3:nameLt (f y) (f x)
   ·rw [nameLt_eq h1 h3] at h; rw [h] at h2; cases h2
   ·have:=nameLt_trans h3 h
    rw [this] at h2; cases h2⟩
theorem swo_name:Sort.SWO (ltOf cmpName):=swo_of fun x:ASamp=>x.h.nm
theorem precN_asy (x y:Int × ByteArray) (h:precN x y=true):precN y x=false:=by
 unfold precN at *
 simp only [Bool.or_eq_true,Bool.and_eq_true,Bool.not_eq_true',decide_eq_true_eq] at h
 rcases h with h | ⟨h1,h2⟩
 ·rw [nameLt_asy h,h]; simp
 ·rw [h1]; simp; omega
theorem precN_irr (x:Int × ByteArray):precN x x=false:=by unfold precN; rw [nameLt_irr]; simp
theorem nameLt_n {a b c:ByteArray} (h1:nameLt a b=false) (h2:nameLt b c=false):nameLt a c=false:=(swo_of fun x:ByteArray=>x).ntrans a b c h1 h2
theorem precN_iff (x y:Int × ByteArray):precN x y=true ↔ (nameLt x.2 y.2=true\/(nameLt y.2 x.2=false/\x.1 < y.1)):=by
 unfold precN; simp
theorem precN_not (x y:Int × ByteArray):precN x y=false ↔ (nameLt x.2 y.2=false/\(nameLt y.2 x.2=true\/¬ x.1 < y.1)):=by
 unfold precN
 simp only [Bool.or_eq_false_iff,Bool.and_eq_false_iff,Bool.not_eq_false',decide_eq_false_iff_not]
theorem swo_prec2 {α:Type} (f:α->Int × ByteArray):Sort.SWO (fun x y=>precN (f x) (f y)):=by
 refine ⟨fun x=>precN_irr _,fun x y z h1 h2=>?_,fun x y z h1 h2=>?_⟩
 ·rw [precN_iff] at *
  rcases h1 with h1 | ⟨h1,h1'⟩
  ·rcases h2 with h2 | ⟨h2,_⟩
   ·exact .inl (nameLt_trans h1 h2)
   ·left
    cases h3:nameLt (f x).2 (f z).2
    ·rw [nameLt_n h3 h2] at h1; cases h1
    ·rfl
  ·rcases h2 with h2 | ⟨h2,h2'⟩
   ·left
    cases h3:nameLt (f x).2 (f z).2
    ·rw [nameLt_n h1 h3] at h2; cases h2
    ·rfl
   ·exact .inr ⟨nameLt_n h2 h1,by omega⟩
 ·rw [precN_not] at *
  obtain ⟨h11,h12⟩:=h1
  obtain ⟨h21,h22⟩:=h2
  refine ⟨nameLt_n h11 h21,?_⟩
  cases h:nameLt (f z).2 (f x).2
  ·right
   rcases h12 with h12 | h12
   ·rw [nameLt_n h21 h] at h12; cases h12
   ·rcases h22 with h22 | h22
    ·rw [nameLt_n h h11] at h22; cases h22
    ·omega
  ·exact .inl rfl
theorem sorted_names {α:Type} [Inhabited α] (f:α->Int × ByteArray) (L:List α) (hinc:L.Pairwise fun x y=>(f x).1 < (f y).1) :
  (sortL (fun x y=>nameLt (f x).2 (f y).2) L).Perm L/\(sortL (fun x y=>nameLt (f x).2 (f y).2) L).Pairwise fun x y=>precN (f x) (f y)=true:=by
 have hS:=swo_of fun x:α=>(f x).2
 have hp:=sortL_perm _ hS L
 refine ⟨hp,?_⟩
 have e1:sortL (fun x y=>nameLt (f x).2 (f y).2) L=sortL (fun x y=>precN (f x) (f y)) L:=sortL_stable _ _ (fun x=>(f x).1) (fun x y hxy=>by
  have:¬ (f x).1 < (f y).1:=by omega
  simp [precN,this]) L hinc
 have hs:=sortL_sorted _ (swo_prec2 f) L
 rw [<-e1] at hs
 have hne:(sortL (fun x y=>nameLt (f x).2 (f y).2) L).Pairwise fun x y=>(f x).1 ≠ (f y).1:=by
  refine (hp.pairwise_iff (fun {x y} h=>Ne.symm h)).2 (hinc.imp fun {x y} h=>?_)
  omega
 refine (hs.and hne).imp fun {x y} ⟨h1,h2⟩=>?_
 rw [precN_not] at h1
 rw [precN_iff]
 obtain ⟨h3,h4⟩:=h1
 rcases h4 with h4 | h4
 ·exact .inl h4
 ·exact .inr ⟨h3,by omega⟩
def sortS (ss:List SampV):List SampV:=(sortL (fun x y:Int × SampV=>nameLt x.2.name y.2.name) (ss.zipIdx.map fun p=>((p.2:Int),p.1))).map (·.2)
theorem zip_inc (ss:List SampV):∀ k,((ss.zipIdx k).map fun p=>((p.2:Int),p.1)).Pairwise fun x y:Int × SampV=>x.1 < y.1:=by
 induction ss with
 | nil=>intro k; exact List.Pairwise.nil
 | cons s r ih =>
  intro k
  rw [List.zipIdx_cons,List.map_cons,List.pairwise_cons]
  refine ⟨fun x hx=>?_,ih (k+1)⟩
  obtain ⟨p,hp,rfl⟩:=List.mem_map.1 hx
  have:=List.le_snd_of_mem_zipIdx hp
  simp only
  omega
theorem sortL_proj (L:List ASamp) (hn:∀ x ∈ L,x.h.nm=x.s.name) (hidx:L.map (fun x=>(x.idx,x.s))=(L.map (·.s)).zipIdx.map fun p=>((p.2:Int),p.1)) :
  (sortL (ltOf cmpName) L).map (·.s)=sortS (L.map (·.s)):=by
 have hz:=zip_inc (L.map (·.s)) 0
 have hinc:L.Pairwise fun x y=>x.idx < y.idx:=by
  rw [<-hidx,List.pairwise_map] at hz
  exact hz
 obtain ⟨p1,s1⟩:=sorted_names (fun x:ASamp=>(x.idx,x.h.nm)) L hinc
 obtain ⟨p2,s2⟩:=sorted_names (fun x:Int × SampV=>(x.1,x.2.name)) ((L.map (·.s)).zipIdx.map fun p=>((p.2:Int),p.1)) hz
 have e:(sortL (ltOf cmpName) L).map (fun x=>(x.idx,x.s))=sortL (fun x y:Int × SampV=>nameLt x.2.name y.2.name) ((L.map (·.s)).zipIdx.map fun p=>((p.2:Int),p.1)):=by
  refine ordered_unique (fun x y:Int × SampV=>precN (x.1,x.2.name) (y.1,y.2.name)=true) (fun x=>by rw [precN_irr]; simp) (fun x y h=>by rw [precN_asy _ _ h]; simp) _ _ ?_ ?_ s2
  ·refine List.Perm.trans (p1.map fun x=>(x.idx,x.s)) ?_
   rw [hidx]; exact p2.symm
  ·rw [List.pairwise_map]
   refine List.Pairwise.imp_of_mem (fun {x y} hx hy h=>?_) s1
   rw [<-hn x (p1.subset hx),<-hn y (p1.subset hy)]
   exact h
 unfold sortS
 rw [<-e,List.map_map]
 rfl
theorem sortS_perm (ss:List SampV):(sortS ss).Perm ss:=by
 unfold sortS
 have hp:=sortL_perm _ (swo_of fun x:Int × SampV=>x.2.name) (ss.zipIdx.map fun p=>((p.2:Int),p.1))
 have:=hp.map (·.2)
 rw [List.map_map] at this
 have e:(ss.zipIdx.map ((fun x:Int × SampV=>x.2) ∘ fun p=>((p.2:Int),p.1)))=ss:=by
  show ss.zipIdx.map (fun p=>p.1)=ss
  exact List.zipIdx_map_fst 0 ss
 rw [e] at this
 exact this
end
end Go.Proofs.YtnbbfblaipjcmaaGreatDoor
