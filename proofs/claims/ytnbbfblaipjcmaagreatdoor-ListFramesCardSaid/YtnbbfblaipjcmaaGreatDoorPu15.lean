/- ToneJ, FitP, FitQ, LapP, QuantA, QuantB, QuantC. Conditions: as each theorem states. -/
import Derived.Deep.WholeRow
import Derived.Test.YtnbbfblaipjcmaaGreatDoorPu01
import Derived.Test.YtnbbfblaipjcmaaGreatDoorPu05
import Derived.Test.YtnbbfblaipjcmaaGreatDoorPu14
set_option maxRecDepth 100000
set_option maxHeartbeats 4000000
namespace Go.Proofs.YtnbbfblaipjcmaaGreatDoor
section
open Go.RowKit
theorem bgt_set (b:List Int) (k i:Nat) (v:Int) (hk:k < b.length):bgt (b.set k v) i=if k=i then v else bgt b i:=by
 unfold bgt
 rw [List.getD_eq_getElem?_getD,List.getD_eq_getElem?_getD,List.getElem?_set]
 split
 ·rename_i h; subst h; simp
 ·rfl
theorem outT_get (b':List Int) (i:Nat):∀ (ks:List Nat) (b:List Int),b.length=16->ks.Nodup->(∀ k ∈ ks,k < 16)->bgt (outT b (ks.map (toneAt b'))) i=if i ∈ ks then bgt b i - bgt b' i else bgt b i
 | [],b,_,_,_=>by simp [outT]
 | k :: r,b,hb,hn,hk=>by
  rw [List.nodup_cons] at hn
  have hk16:=hk k (by simp)
  have e:outT b ((k :: r).map (toneAt b'))=outT (b.set k (bgt b k - bgt b' k)) (r.map (toneAt b')):=by
   unfold outT
   rw [List.map_cons,List.foldl_cons]
   congr 1
   unfold outStep toneAt
   simp only
   rw [if_pos (by omega),Int.toNat_natCast]
  rw [e,outT_get b' i r _ (by simp [hb]) hn.2 (fun x hx=>hk x (by simp [hx])),bgt_set _ _ _ _ (by omega)]
  by_cases h:k=i
  ·subst h
   simp [hn.1]
  ·have:i ≠ k:=fun e=>h e.symm
   simp [h,this]
def idxs (b:List Int):List Nat:=(List.range 16).filter (pickT b)
theorem find_idxs (b:List Int):findT b=(idxs b).map (toneAt b):=rfl
theorem idxs_nodup (b:List Int):(idxs b).Nodup:=List.nodup_range.filter _
theorem idxs_lt (b:List Int):∀ k ∈ idxs b,k < 16:=fun _ hk=>List.mem_range.1 (List.mem_filter.1 hk).1
theorem find_big {b:List Int} (hr:BigB b) (hb:b.length=16):∀ t ∈ findT b,t.big:=by
 intro t ht
 rw [find_idxs] at ht
 obtain ⟨k,hk,rfl⟩:=List.mem_map.1 ht
 have h16:=idxs_lt b k hk
 obtain ⟨x,hx⟩:=list_get hb h16
 have:=hr k x hx
 unfold ToneV.big toneAt
 simp only
 rw [bgt_get hx]
 omega
theorem out_big {b:List Int} (hr:BigB b) (hb:b.length=16) (m:Nat):BigB (outT b ((findT b).take m)):=by
 intro i x hx
 have hi:i < 16:=by
  have h1:=(List.getElem?_eq_some_iff.1 hx).1
  rw [outT_len,hb] at h1
  exact h1
 have h1:=bgt_get hx
 rw [find_idxs,<-List.map_take,outT_get b i _ b hb ((idxs_nodup b).sublist (List.take_sublist _ _)) (fun _ hk=>idxs_lt b _ (List.mem_of_mem_take hk))] at h1
 obtain ⟨y,hy⟩:=list_get hb hi
 have h2:=hr i y hy
 rw [bgt_get hy] at h1
 split at h1 <;> omega
end
section
structure FrameV where
 gains:List Int
 tones:List ToneV
 scale:List Int
 width:List Int
 q:List Int
def zero4:List Int:=[0,0,0,0]
def zero16:List Int:=[0,0,0,0,0,0,0,0,0,0,0,0,0,0,0,0]
def scaleOk (s:List Int):Bool:=s.all fun x=>decide (0<=x) && decide (x<=23)
def stepsTo (b s:List Int) (m:Nat):List Int:=(List.range 16).map fun k=>if k < m then nearZ (bgt b k) (bgt s (k / 4)).toNat else bgt b k
def stepsZ (b s:List Int):List Int:=if scaleOk s=true then stepsTo b s 16 else zero16
def valuesTo (q s:List Int) (m:Nat):List Int:=(List.range 16).map fun k=>if k < m then bgt q k*2 ^ (bgt s (k / 4)).toNat else bgt q k
def widthTo (q:List Int) (m:Nat) (i:Nat):Nat:=(List.range m).foldl (fun w k=>if k / 4=i then max w (widthZ (bgt q k)) else w) 0
def widthsTo (q:List Int) (m:Nat):List Int:=(List.range 4).map fun i=>(widthTo q m i:Int)
def widthsZ (q:List Int):List Int:=widthsTo q 16
theorem widthTo_succ (q:List Int) (m i:Nat):widthTo q (m+1) i=if m / 4=i then max (widthTo q m i) (widthZ (bgt q m)) else widthTo q m i:=by
 unfold widthTo; rw [List.range_succ,List.foldl_append]; rfl
theorem range_map_get {α:Type} (f:Nat->α) {n k:Nat} (h:k < n):((List.range n).map f)[k]? = some (f k):=by
 rw [List.getElem?_map,List.getElem?_range h]; rfl
theorem range_map_set {α:Type} (f g:Nat->α) {n k:Nat} {x:α} (hk:k < n) (h1:g k=x) (h2:∀ i,i ≠ k->g i=f i):((List.range n).map f).set k x=(List.range n).map g:=by
 apply List.ext_getElem?
 intro i
 rw [List.getElem?_set]
 by_cases h:k=i
 ·subst h
  rw [if_pos rfl,if_pos (by simpa using hk),range_map_get g hk,h1]
 ·rw [if_neg h,List.getElem?_map,List.getElem?_map]
  rcases Nat.lt_or_ge i n with hi | hi
  ·rw [List.getElem?_range hi]; simp [h2 i (fun e=>h e.symm)]
  ·rw [List.getElem?_eq_none (by simpa using hi)]; rfl
theorem self_map {b:List Int} {n:Nat} (hb:b.length=n):b=(List.range n).map fun k=>bgt b k:=by
 apply List.ext_getElem?
 intro i
 rw [List.getElem?_map]
 rcases Nat.lt_or_ge i n with hi | hi
 ·obtain ⟨x,hx⟩:=list_get hb hi
  rw [List.getElem?_range hi,hx]
  simp [bgt_get hx]
 ·rw [List.getElem?_eq_none (by omega),List.getElem?_eq_none (by simpa using hi)]; rfl
theorem stepsTo_zero {b:List Int} (s:List Int) (hb:b.length=16):stepsTo b s 0=b:=by
 rw [self_map hb]; unfold stepsTo
 apply List.map_congr_left
 intro k hk
 have:=List.mem_range.1 hk
 rw [if_neg (by omega),<-self_map hb]
theorem stepsTo_succ (b s:List Int) {m:Nat} (hm:m < 16):(stepsTo b s m).set m (nearZ (bgt b m) (bgt s (m / 4)).toNat)=stepsTo b s (m+1):=by
 refine range_map_set _ (fun k=>if k < m+1 then nearZ (bgt b k) (bgt s (k / 4)).toNat else bgt b k) hm ?_ (fun i hi=>?_)
 ·rw [if_pos (by omega)]
 ·by_cases h:i < m
  ·rw [if_pos h,if_pos (by omega)]
  ·rw [if_neg h,if_neg (by omega)]
theorem valuesTo_zero {b:List Int} (s:List Int) (hb:b.length=16):valuesTo b s 0=b:=by
 rw [self_map hb]; unfold valuesTo
 apply List.map_congr_left
 intro k hk
 have:=List.mem_range.1 hk
 rw [if_neg (by omega),<-self_map hb]
theorem valuesTo_succ (b s:List Int) {m:Nat} (hm:m < 16):(valuesTo b s m).set m (bgt b m*2 ^ (bgt s (m / 4)).toNat)=valuesTo b s (m+1):=by
 refine range_map_set _ (fun k=>if k < m+1 then bgt b k*2 ^ (bgt s (k / 4)).toNat else bgt b k) hm ?_ (fun i hi=>?_)
 ·rw [if_pos (by omega)]
 ·by_cases h:i < m
  ·rw [if_pos h,if_pos (by omega)]
  ·rw [if_neg h,if_neg (by omega)]
theorem stepsTo_len (b s:List Int) (m:Nat):(stepsTo b s m).length=16:=by simp [stepsTo]
theorem valuesTo_len (b s:List Int) (m:Nat):(valuesTo b s m).length=16:=by simp [valuesTo]
theorem widthsTo_len (q:List Int) (m:Nat):(widthsTo q m).length=4:=by simp [widthsTo]
theorem stepsZ_len (b s:List Int):(stepsZ b s).length=16:=by unfold stepsZ; split <;> simp [stepsTo,zero16]
theorem stepsTo_get (b s:List Int) {m k:Nat} (hk:k < 16) (hm:m<=k) {x:Int} (hx:b[k]? = some x):(stepsTo b s m)[k]? = some x:=by
 unfold stepsTo
 rw [range_map_get _ hk,if_neg (by omega),bgt_get hx]
theorem valuesTo_get (b s:List Int) {m k:Nat} (hk:k < 16) (hm:m<=k) {x:Int} (hx:b[k]? = some x):(valuesTo b s m)[k]? = some x:=by
 unfold valuesTo
 rw [range_map_get _ hk,if_neg (by omega),bgt_get hx]
theorem widthsTo_get (q:List Int) (m:Nat) {i:Nat} (hi:i < 4):(widthsTo q m)[i]? = some (widthTo q m i:Int):=range_map_get _ hi
theorem widthsTo_succ (q:List Int) (m:Nat) (hm:m < 16):(widthsTo q m).set (m / 4) (max (widthTo q m (m / 4)) (widthZ (bgt q m)):Nat)=widthsTo q (m+1):=by
 refine range_map_set _ (fun i=>((widthTo q (m+1) i:Nat):Int)) (by omega) ?_ (fun i hi=>?_)
 ·rw [widthTo_succ,if_pos rfl]
 ·rw [widthTo_succ,if_neg (fun e=>hi e.symm)]
theorem widthTo_le (q:List Int) (B:Nat) (h:∀ k,k < 16->widthZ (bgt q k)<=B) (i:Nat):∀ m,m<=16->widthTo q m i<=B
 | 0,_=>Nat.zero_le _
 | m+1,hm=>by
  rw [widthTo_succ]
  have h1:=widthTo_le q B h i m (by omega)
  have h2:=h m (by omega)
  split <;> omega
theorem widthTo_ge (q:List Int) (i:Nat):∀ m k,k < m->k / 4=i->widthZ (bgt q k)<=widthTo q m i
 | 0,_,h,_=>by omega
 | m+1,k,h,hk=>by
  rw [widthTo_succ]
  by_cases hkm:k=m
  ·subst hkm; rw [if_pos hk]; omega
  ·have:=widthTo_ge q i m k (by omega) hk
   split <;> omega
def maskZ (b:List Int):List Int:=(List.range 4).map fun i=>(widthZ (peakZ ((b.drop (i*4)).take 4)):Int)
def nextTo (w s m:List Int):Nat->Int
 | 0=>-1
 | k+1=>let best:=nextTo w s m k
  if 0 < bgt w k/\bgt s k < 23/\(best < 0\/bgt m best.toNat - bgt s best.toNat < bgt m k - bgt s k) then (k:Int) else best
theorem nextTo_bd (w s m:List Int):∀ k,-1<=nextTo w s m k/\nextTo w s m k < (k:Int)
 | 0=>by unfold nextTo; omega
 | k+1=>by
  have:=nextTo_bd w s m k
  unfold nextTo
  simp only
  split <;> omega
theorem nextTo_ok (w s m:List Int):∀ k,0<=nextTo w s m k->0 < bgt w (nextTo w s m k).toNat/\bgt s (nextTo w s m k).toNat < 23
 | 0,h=>by unfold nextTo at h; omega
 | k+1,h=>by
  unfold nextTo at h ⊢
  simp only at h ⊢
  split
  ·rename_i h1
   rw [Int.toNat_natCast]; exact ⟨h1.1,h1.2.1⟩
  ·rename_i h1
   rw [if_neg h1] at h
   exact nextTo_ok w s m k h
theorem nextTo_none (w s m:List Int):∀ k,nextTo w s m k < 0->∀ i,i < k->¬ (0 < bgt w i/\bgt s i < 23)
 | 0,_,i,hi=>by omega
 | k+1,h,i,hi=>by
  unfold nextTo at h
  simp only at h
  split at h
  ·omega
  ·rename_i h1
   by_cases hik:i=k
   ·subst hik
    intro h2
    exact h1 ⟨h2.1,h2.2,.inl h⟩
   ·exact nextTo_none w s m k h i (by omega)
def toldZ (b g s:List Int) (l:List ToneV):FrameV:=⟨g,l,s,widthsZ (stepsZ (outT b l) s),stepsZ (outT b l) s⟩
def bitsZ (f:FrameV):Int:=52+28*(f.tones.length:Int)+4*(bgt f.width 0+bgt f.width 1+bgt f.width 2+bgt f.width 3)
def sumS (s:List Int):Int:=bgt s 0+bgt s 1+bgt s 2+bgt s 3
def searchFrom (b g:List Int) (room:Int) (l:List ToneV) (mask:List Int):Nat->List Int->Nat->FrameV × Nat
 | 0,s,n=>(toldZ b g s l,n)
 | fuel+1,s,n =>
  let f:=toldZ b g s l
  let i:=nextTo f.width s mask 4
  if bitsZ f<=room\/i < 0 then (f,n) else searchFrom b g room l mask fuel (s.set i.toNat (bgt s i.toNat+1)) (n+1)
def tonesFor (b:List Int) (tones:Bool):List ToneV:=if tones=true then findT b else []
def searchZ (b g:List Int) (room:Int) (tones:Bool):FrameV × Nat:=searchFrom b g room (tonesFor b tones) (maskZ (outT b (tonesFor b tones))) 92 zero4 0
end
section
theorem big_tones:∀ (l:List ToneV),(∀ t ∈ l,t.big)->∃ ts:List BTone,ts.map BTone.t=l
 | [],_=>⟨[],rfl⟩
 | t :: r,h=>by
  obtain ⟨ts,hts⟩:=big_tones r (fun x hx=>h x (by simp [hx]))
  exact ⟨⟨t,h t (by simp)⟩ :: ts,by simp [hts]⟩
theorem findT_len2 {b:List Int} (hb:b.length=16) (hr:BigB b):(findT b).length<=2:=by
 obtain ⟨ts,hts⟩:=big_tones (tonesTo b 16) (by
  intro t ht
  unfold tonesTo at ht
  obtain ⟨k,hk,rfl⟩:=List.mem_map.1 ht
  have hk16:=List.mem_range.1 (List.mem_filter.1 hk).1
  obtain ⟨x,hx⟩:=list_get hb hk16
  have:=hr k x hx
  unfold ToneV.big toneAt
  simp only
  rw [bgt_get hx]
  omega)
 rw [<-sorted_twice b ts hts,List.length_map,sortL_len (ltOf cmpIdx) swo_idx,List.length_take]
 omega
theorem near_pos {v:Int} (hv:0<=v) (p:Nat):0<=nearZ v p/\nearZ v p<=v:=by
 unfold nearZ
 split
 ·omega
 ·rename_i hp
  obtain ⟨k,rfl⟩:∃ k,p=k+1:=⟨p - 1,by omega⟩
  have hd:(0:Int) < 2 ^ k:=Int.pow_pos (by decide)
  have e:(2:Int) ^ (k+1)=2*2 ^ k:=by rw [Int.pow_succ]; omega
  rw [Int.tdiv_eq_ediv_of_nonneg hv,Int.tmod_eq_emod_of_nonneg hv,Nat.add_sub_cancel,e]
  generalize (2:Int) ^ k=d at *
  have h1:=Int.mul_ediv_add_emod v (2*d)
  have h2:=Int.emod_nonneg v (b:=2*d) (by omega)
  have h3:=Int.emod_lt_of_pos v (b:=2*d) (by omega)
  have h4:0<=v / (2*d):=Int.ediv_nonneg hv (by omega)
  generalize v / (2*d)=q at *
  generalize v % (2*d)=r at *
  have h5:2*q<=2*d*q:=Int.mul_le_mul_of_nonneg_right (by omega) h4
  split
  ·omega
  ·split <;> omega
theorem near_neg (v:Int) (p:Nat):nearZ (-v) p = -nearZ v p:=by
 unfold nearZ
 split
 ·rfl
 ·have hd:(0:Int) < 2 ^ (p - 1):=Int.pow_pos (by decide)
  rw [Int.neg_tdiv,Int.neg_tmod]
  generalize (2:Int) ^ (p - 1)=d at *
  generalize v.tdiv (2 ^ p)=q at *
  generalize v.tmod (2 ^ p)=r at *
  repeat' split
  all_goals omega
theorem near_bd {v B:Int} (h1:-B<=v) (h2:v<=B) (p:Nat):-B<=nearZ v p/\nearZ v p<=B:=by
 rcases Int.lt_or_le v 0 with h | h
 ·have:=near_pos (v:=-v) (by omega) p
  rw [near_neg] at this
  omega
 ·have:=near_pos h p
  omega
theorem near_top {v:Int} {p:Nat} (h1:-(2 ^ p) < v) (h2:v < 2 ^ p) (hp:p ≠ 0):-1<=nearZ v p/\nearZ v p<=1:=by
 unfold nearZ
 rw [if_neg hp]
 have e:v.tdiv (2 ^ p)=0:=by
  rcases Int.lt_or_le v 0 with h | h
  ·have:(-v).tdiv (2 ^ p)=0:=Int.tdiv_eq_zero_of_lt (by omega) (by omega)
   rw [Int.neg_tdiv] at this; omega
  ·exact Int.tdiv_eq_zero_of_lt h h2
 rw [e]
 repeat' split
 all_goals omega
theorem findT_inc (b:List Int):(findT b).Pairwise fun x y=>x.idx < y.idx:=by
 rw [find_idxs,List.pairwise_map]
 refine ((range_inc 16).filter _).imp fun {a c} h=>?_
 show (a:Int) < (c:Int)
 omega
theorem stepsTo_bgt (b s:List Int) {m k:Nat} (hk:k < 16):bgt (stepsTo b s m) k=if k < m then nearZ (bgt b k) (bgt s (k / 4)).toNat else bgt b k:=bgt_get (range_map_get _ hk)
theorem valuesTo_bgt (b s:List Int) {m k:Nat} (hk:k < 16):bgt (valuesTo b s m) k=if k < m then bgt b k*2 ^ (bgt s (k / 4)).toNat else bgt b k:=bgt_get (range_map_get _ hk)
theorem widths_bgt (q:List Int) {i:Nat} (hi:i < 4):bgt (widthsZ q) i=(widthTo q 16 i:Int):=bgt_get (widthsTo_get q 16 hi)
def ScB (s:List Int):Prop:=s.length=4/\∀ i,i < 4->0<=bgt s i/\bgt s i<=23
theorem ScB.ok {s:List Int} (h:ScB s):scaleOk s=true:=by
 unfold scaleOk
 rw [List.all_eq_true]
 intro x hx
 obtain ⟨i,hi,rfl⟩:=List.mem_iff_getElem.1 hx
 have:=h.2 i (by have:=h.1; omega)
 rw [bgt_get (List.getElem?_eq_getElem hi)] at this
 simp; omega
theorem ScB.zero:ScB zero4:=⟨rfl,fun i hi=>by
 match i,hi with
 | 0,_ | 1,_ | 2,_ | 3,_=>simp [bgt,zero4]⟩
theorem ScB.inc {s:List Int} (h:ScB s) {i:Nat} (hi:i < 4) (h2:bgt s i < 23):ScB (s.set i (bgt s i+1)):=by
 refine ⟨by simp [h.1],fun k hk=>?_⟩
 rw [bgt_set _ _ _ _ (by have:=h.1; omega)]
 have h3:=h.2 i hi
 have h4:=h.2 k hk
 split <;> omega
theorem sumS_set {s:List Int} (h:ScB s) {i:Nat} (hi:i < 4) (v:Int):sumS (s.set i v)=sumS s+v - bgt s i:=by
 unfold sumS
 have hl:=h.1
 rw [bgt_set _ _ _ _ (by omega),bgt_set _ _ _ _ (by omega),bgt_set _ _ _ _ (by omega),bgt_set _ _ _ _ (by omega)]
 match i,hi with
 | 0,_ | 1,_ | 2,_ | 3,_=>simp <;> omega
theorem search_end (b g:List Int) (room:Int) (l:List ToneV) (mask:List Int):∀ (fuel:Nat) (s:List Int) (n:Nat),ScB s->sumS s+(fuel:Int)=92 ->
  ∃ s' n',searchFrom b g room l mask fuel s n=(toldZ b g s' l,n')/\ScB s'/\(bitsZ (toldZ b g s' l)<=room\/nextTo (toldZ b g s' l).width s' mask 4 < 0):=by
 intro fuel
 induction fuel with
 | zero =>
  intro s n hs hsum
  refine ⟨s,n,rfl,hs,.inr ?_⟩
  rcases Int.lt_or_le (nextTo (toldZ b g s l).width s mask 4) 0 with h | h
  ·exact h
  ·have h1:=nextTo_ok (toldZ b g s l).width s mask 4 h
   have h2:=nextTo_bd (toldZ b g s l).width s mask 4
   generalize nextTo (toldZ b g s l).width s mask 4=x at *
   obtain ⟨k,rfl⟩:=Int.eq_ofNat_of_zero_le h
   rw [Int.toNat_natCast] at h1
   have h3:k < 4:=by omega
   unfold sumS at hsum
   have a0:=hs.2 0 (by omega)
   have a1:=hs.2 1 (by omega)
   have a2:=hs.2 2 (by omega)
   have a3:=hs.2 3 (by omega)
   match k,h3,h1 with
   | 0,_,h1 | 1,_,h1 | 2,_,h1 | 3,_,h1=>omega
 | succ fuel ih =>
  intro s n hs hsum
  unfold searchFrom
  simp only
  split
  ·rename_i h
   exact ⟨s,n,rfl,hs,h⟩
  ·rename_i h
   have h0:0<=nextTo (toldZ b g s l).width s mask 4:=by omega
   have h1:=nextTo_ok (toldZ b g s l).width s mask 4 h0
   have h2:=nextTo_bd (toldZ b g s l).width s mask 4
   generalize nextTo (toldZ b g s l).width s mask 4=x at *
   obtain ⟨k,rfl⟩:=Int.eq_ofNat_of_zero_le h0
   rw [Int.toNat_natCast] at h1 ⊢
   have h3:k < 4:=by omega
   exact ih _ _ (hs.inc h3 h1.2) (by rw [sumS_set hs h3]; omega)
theorem search_ends (b g:List Int) (room:Int) (tones:Bool):∃ s' n',searchZ b g room tones=(toldZ b g s' (tonesFor b tones),n')/\ScB s' /\
  (bitsZ (toldZ b g s' (tonesFor b tones))<=room\/nextTo (toldZ b g s' (tonesFor b tones)).width s' (maskZ (outT b (tonesFor b tones))) 4 < 0) :=
 search_end b g room _ _ 92 zero4 0 ScB.zero rfl
def Low23 (b:List Int):Prop:=∀ k,k < 16->-8388608 < bgt b k/\bgt b k < 8388608
structure RightF (f:FrameV):Prop where
 gains:f.gains.length=4/\∀ i,i < 4->0<=bgt f.gains i/\bgt f.gains i<=3
 tlen:f.tones.length<=2
 tidx:∀ t ∈ f.tones,0<=t.idx/\t.idx < 16/\-8388608<=t.val/\t.val < 8388608
 tinc:f.tones.Pairwise fun x y=>x.idx < y.idx
 scale:ScB f.scale
 wlen:f.width.length=4
 width:∀ i,i < 4->0<=bgt f.width i/\bgt f.width i<=24
 qlen:f.q.length=16
 q:∀ k,k < 16->(widthZ (bgt f.q k):Int)<=bgt f.width (k / 4)
theorem width_24 {v:Int} (h1:-8388608 < v) (h2:v < 8388608):widthZ v<=24:=widthZ_le (k:=23) (by omega) (by omega)
theorem told_right {b g s:List Int} {l:List ToneV} (hg:g.length=4/\∀ i,i < 4->0<=bgt g i/\bgt g i<=3) (h1:l.length<=2) (h2:∀ t ∈ l,0<=t.idx/\t.idx < 16/\-8388608<=t.val/\t.val < 8388608)
  (h3:l.Pairwise fun x y=>x.idx < y.idx) (hs:ScB s) (hl:Low23 (outT b l)):RightF (toldZ b g s l):=by
 have hq:∀ k,k < 16->widthZ (bgt (stepsZ (outT b l) s) k)<=24:=by
  intro k hk
  unfold stepsZ
  rw [if_pos hs.ok,stepsTo_bgt _ _ hk,if_pos hk]
  have h:=hl k hk
  have h5:=near_bd (v:=bgt (outT b l) k) (B:=8388607) (by omega) (by omega) (bgt s (k / 4)).toNat
  exact width_24 (by omega) (by omega)
 refine ⟨hg,h1,h2,h3,hs,widthsTo_len _ _,fun i hi=>?_,stepsZ_len _ _,fun k hk=>?_⟩
 ·show 0<=bgt (widthsZ _) i/\bgt (widthsZ _) i<=24
  rw [widths_bgt _ hi]
  have:=widthTo_le (stepsZ (outT b l) s) 24 hq i 16 (by omega)
  omega
 ·show (widthZ (bgt (stepsZ (outT b l) s) k):Int)<=bgt (widthsZ (stepsZ (outT b l) s)) (k / 4)
  rw [widths_bgt _ (by omega)]
  have:=widthTo_ge (stepsZ (outT b l) s) (k / 4) 16 k hk rfl
  omega
theorem told_room {b g s:List Int} {l:List ToneV} {mask:List Int} (h1:l.length<=2) (hs:ScB s) (hl:Low23 (outT b l)) (hn:nextTo (toldZ b g s l).width s mask 4 < 0):bitsZ (toldZ b g s l)<=192:=by
 have hw:∀ i,i < 4->bgt (toldZ b g s l).width i<=2:=by
  intro i hi
  have h2:=nextTo_none _ _ _ 4 hn i hi
  have h3:=hs.2 i hi
  show bgt (widthsZ (stepsZ (outT b l) s)) i<=2
  have h2':¬ (0 < bgt (widthsZ (stepsZ (outT b l) s)) i/\bgt s i < 23):=h2
  rw [widths_bgt _ hi] at h2' ⊢
  by_cases h0:widthTo (stepsZ (outT b l) s) 16 i=0
  ·omega
  ·have h23:bgt s i=23:=by omega
   have:∀ m,m<=16->widthTo (stepsZ (outT b l) s) m i<=2:=by
    intro m
    induction m with
    | zero=>intro _; exact Nat.zero_le _
    | succ m ih =>
     intro hm
     rw [widthTo_succ]
     have h4:=ih (by omega)
     split
     ·rename_i hmi
      have h5:widthZ (bgt (stepsZ (outT b l) s) m)<=2:=by
       unfold stepsZ
       rw [if_pos hs.ok,stepsTo_bgt _ _ (by omega),if_pos (by omega),hmi,h23]
       have h6:=hl m (by omega)
       have h7:=near_top (v:=bgt (outT b l) m) (p:=(23:Int).toNat) (by show -(2 ^ 23:Int) < _; omega) (by show _ < (2 ^ 23:Int); omega) (by decide)
       exact widthZ_le (k:=1) (by omega) (by omega)
      omega
     ·exact h4
   have:=this 16 (by omega)
   omega
 have w0:=hw 0 (by omega)
 have w1:=hw 1 (by omega)
 have w2:=hw 2 (by omega)
 have w3:=hw 3 (by omega)
 have hlen:(toldZ b g s l).tones.length<=2:=h1
 unfold bitsZ
 omega
end
section
theorem bgt_ext {a b:List Int} {n:Nat} (ha:a.length=n) (hb:b.length=n) (h:∀ j,j < n->bgt a j=bgt b j):a=b:=by
 refine (self_map ha).trans (Eq.trans ?_ (self_map hb).symm)
 apply List.map_congr_left
 intro j hj
 exact h j (List.mem_range.1 hj)
def lead (r j:Nat):Nat:=if j / 2 ^ r % 2=0 then j else j - 2 ^ r
def netTo (b:List Int) (r m:Nat):List Int:=(List.range 16).map fun j =>
 if lead r j < m then (if j / 2 ^ r % 2=0 then turnA (bgt b j) (bgt b (j+2 ^ r)) (turnOf j r) else turnB (bgt b (j - 2 ^ r)) (bgt b j) (turnOf (j - 2 ^ r) r)) else bgt b j
def netR (b:List Int) (r:Nat):List Int:=netTo b r 16
def fwdZ (b:List Int):List Int:=netR (netR (netR (netR b 0) 1) 2) 3
theorem netTo_len (b:List Int) (r m:Nat):(netTo b r m).length=16:=by simp [netTo]
theorem netTo_bgt (b:List Int) (r m:Nat) {j:Nat} (hj:j < 16):bgt (netTo b r m) j =
  if lead r j < m then (if j / 2 ^ r % 2=0 then turnA (bgt b j) (bgt b (j+2 ^ r)) (turnOf j r) else turnB (bgt b (j - 2 ^ r)) (bgt b j) (turnOf (j - 2 ^ r) r)) else bgt b j:=bgt_get (range_map_get _ hj)
theorem netR_len (b:List Int) (r:Nat):(netR b r).length=16:=netTo_len _ _ _
theorem mateF:∀ (r:Fin 4) (j:Fin 16),lead r.1 j.1 < 16/\(j.1 / 2 ^ r.1 % 2=0->j.1+2 ^ r.1 < 16/\(j.1+2 ^ r.1) / 2 ^ r.1 % 2=1/\lead r.1 (j.1+2 ^ r.1)=j.1/\lead r.1 j.1=j.1/\j.1+2 ^ r.1 - 2 ^ r.1=j.1) /\
  (¬ j.1 / 2 ^ r.1 % 2=0->(j.1 - 2 ^ r.1) / 2 ^ r.1 % 2=0/\j.1 - 2 ^ r.1+2 ^ r.1=j.1/\lead r.1 (j.1 - 2 ^ r.1)=j.1 - 2 ^ r.1):=by decide +kernel
theorem mate (r:Nat) (hr:r < 4) (j:Nat) (hj:j < 16):lead r j < 16/\(j / 2 ^ r % 2=0->j+2 ^ r < 16/\(j+2 ^ r) / 2 ^ r % 2=1/\lead r (j+2 ^ r)=j/\lead r j=j/\j+2 ^ r - 2 ^ r=j) /\
  (¬ j / 2 ^ r % 2=0->(j - 2 ^ r) / 2 ^ r % 2=0/\j - 2 ^ r+2 ^ r=j/\lead r (j - 2 ^ r)=j - 2 ^ r):=mateF ⟨r,hr⟩ ⟨j,hj⟩
def Within (M:Int) (b:List Int):Prop:=∀ k,k < 16->-M<=bgt b k/\bgt b k<=M
theorem netR_half {M N:Int} {b:List Int} (h:Within M b) (hN:3*M+8<=2*N) {r:Nat} (hr:r < 4):Within N (netR b r):=by
 intro j hj
 unfold netR
 rw [netTo_bgt b r 16 hj]
 obtain ⟨m1,m2,m3⟩:=mate r hr j hj
 have h0:=h j hj
 rw [if_pos m1]
 split
 ·rename_i h1
  obtain ⟨n1,_⟩:=m2 h1
  have h2:=h _ n1
  have:=(turn_bd ((3*j+5*r) % 8) (by omega) (bgt b j) (bgt b (j+2 ^ r)) M h0.1 h0.2 h2.1 h2.2).1
  unfold turnOf; omega
 ·rename_i h1
  have h2:=h (j - 2 ^ r) (Nat.lt_of_le_of_lt (Nat.sub_le _ _) hj)
  have:=(turn_bd ((3*(j - 2 ^ r)+5*r) % 8) (by omega) (bgt b (j - 2 ^ r)) (bgt b j) M h2.1 h2.2 h0.1 h0.2).2
  unfold turnOf; omega
end
section
open Go.Lib (hid)
open Go.RowKit
theorem inf_four:(Tryz.prog.info? 45).map (·.size)=some 4:=by kernel_rfl
theorem inf_scales:(Tryz.prog.info? 242).map (·.size)=some 4:=by kernel_rfl
def inB (hi:Int) (x:Int):Bool:=decide (0<=x) && decide (x<=hi)
theorem scaleOk_eq (s:List Int):scaleOk s=s.all (inB 23):=rfl
theorem scalesRight_any (s:List Int) (w:World) (hs:s.length=4) :
  Calls Tryz.prog 141 #[blockV s] w fun e w'=>e=.returned (.bool (scaleOk s))/\Below w.heap.size w w':=by
 unfold blockV
 rw [scaleOk_eq]
 have HC:=hid (fun (k:Nat) (x:Int) (h:s[k]? = some x)=>blk_get h)
 have hsz:(s.map (Value.int .i64)).toArray.size=4:=by simp [hs]
 generalize (s.map (Value.int .i64)).toArray=cs at *
 have HF:=hid (show (Tryz.prog.info? 242).map (·.size)=some cs.size by rw [hsz]; exact inf_scales)
 have Hs:=hid hs
 have hB:=hid (heap_alloc_new w (.cells cs 242))
 clear hs hsz
 go_enter Tryz.func141,Tryz.ntmps141
 go_wp2_with (refine wpList_load_row_w rfl 242 (.tmp 1) rfl w.heap.size rfl _ cs _ _ hB.out Tryz.underlying242 rfl HF.out ?_)
 go_loop [6] (fun k=>∃ m:Nat,m<=4/\(s.take m).all (inB 23)=true/\k=.int .i64 m) (fun k=>(4 - (intOf k)).toNat)
 case atStart=>exact ⟨0,by omega,rfl,rfl⟩
 case round =>
  obtain ⟨m,hm,hall,rfl⟩:=hrel
  have HA:=hid hall
  clear hall
  by_cases hlt:m < 4
  ·have t1:(m:Int) < 4:=by omega
   obtain ⟨x,hx⟩:=list_get (k:=m) Hs.out (by omega)
   have hix:=run_index_arr (P:=Tryz.prog) Tryz.underlying242 hlt (fun W=>by kernel_rfl) (fun W=>by kernel_rfl) (HC.out _ _ hx)
   have HT:=hid (all_take_succ (inB 23) hx)
   have HFa:=hid (fun h=>all_false_of (inB 23) hx h)
   clear hx
   by_cases h0:x < 0
   ·have d0:decide (x < 0)=true:=decide_eq_true h0
    have hf:=hid (HFa.out (by unfold inB; rw [decide_eq_false (by omega)]; rfl))
    go_wp2
    go_ret
    exact ⟨ret_bool hf.out.symm,bnew _ _⟩
   ·have d0:decide (x < 0)=false:=decide_eq_false h0
    by_cases h1:23 < x
    ·have d1:decide (23 < x)=true:=decide_eq_true h1
     have hf:=hid (HFa.out (by unfold inB; rw [decide_eq_false (show ¬ x<=23 by omega),Bool.and_false]))
     go_wp2
     go_ret
     exact ⟨ret_bool hf.out.symm,bnew _ _⟩
    ·have d1:decide (23 < x)=false:=decide_eq_false h1
     have hf:=hid (show inB 23 x=true by unfold inB; rw [decide_eq_true (show 0<=x by omega),decide_eq_true (show x<=23 by omega)]; rfl)
     go_wp2
     go_round
     case rel=>exact ⟨m+1,by omega,by rw [HT.out,HA.out,hf.out]; rfl,by go_num⟩
     case measure=>simp [intOf]; omega
  ·have t1:¬ ((m:Int) < 4):=by omega
   have hf:=hid (all_take_all (inB 23) (l:=s) (k:=m) (by rw [Hs.out]; omega) HA.out)
   go_wp2
   go_ret
   exact ⟨ret_bool hf.out.symm,bnew _ _⟩
def gainOk (g:List Int):Bool:=g.all (inB 3)
theorem gainRight_any (s:List Int) (w:World) (hs:s.length=4) :
  Calls Tryz.prog 139 #[blockV s] w fun e w'=>e=.returned (.bool (gainOk s))/\Below w.heap.size w w':=by
 unfold blockV gainOk
 have HC:=hid (fun (k:Nat) (x:Int) (h:s[k]? = some x)=>blk_get h)
 have hsz:(s.map (Value.int .i64)).toArray.size=4:=by simp [hs]
 generalize (s.map (Value.int .i64)).toArray=cs at *
 have HF:=hid (show (Tryz.prog.info? 45).map (·.size)=some cs.size by rw [hsz]; exact inf_four)
 have Hs:=hid hs
 have hB:=hid (heap_alloc_new w (.cells cs 45))
 clear hs hsz
 go_enter Tryz.func139,Tryz.ntmps139
 go_wp2_with (refine wpList_load_row_w rfl 45 (.tmp 1) rfl w.heap.size rfl _ cs _ _ hB.out Tryz.underlying45 rfl HF.out ?_)
 go_loop [6] (fun k=>∃ m:Nat,m<=4/\(s.take m).all (inB 3)=true/\k=.int .i64 m) (fun k=>(4 - (intOf k)).toNat)
 case atStart=>exact ⟨0,by omega,rfl,rfl⟩
 case round =>
  obtain ⟨m,hm,hall,rfl⟩:=hrel
  have HA:=hid hall
  clear hall
  by_cases hlt:m < 4
  ·have t1:(m:Int) < 4:=by omega
   obtain ⟨x,hx⟩:=list_get (k:=m) Hs.out (by omega)
   have hix:=run_index_arr (P:=Tryz.prog) Tryz.underlying45 hlt (fun W=>by kernel_rfl) (fun W=>by kernel_rfl) (HC.out _ _ hx)
   have HT:=hid (all_take_succ (inB 3) hx)
   have HFa:=hid (fun h=>all_false_of (inB 3) hx h)
   clear hx
   by_cases h0:x < 0
   ·have d0:decide (x < 0)=true:=decide_eq_true h0
    have hf:=hid (HFa.out (by unfold inB; rw [decide_eq_false (by omega)]; rfl))
    go_wp2
    go_ret
    exact ⟨ret_bool hf.out.symm,bnew _ _⟩
   ·have d0:decide (x < 0)=false:=decide_eq_false h0
    by_cases h1:3 < x
    ·have d1:decide (3 < x)=true:=decide_eq_true h1
     have hf:=hid (HFa.out (by unfold inB; rw [decide_eq_false (show ¬ x<=3 by omega),Bool.and_false]))
     go_wp2
     go_ret
     exact ⟨ret_bool hf.out.symm,bnew _ _⟩
    ·have d1:decide (3 < x)=false:=decide_eq_false h1
     have hf:=hid (show inB 3 x=true by unfold inB; rw [decide_eq_true (show 0<=x by omega),decide_eq_true (show x<=3 by omega)]; rfl)
     go_wp2
     go_round
     case rel=>exact ⟨m+1,by omega,by rw [HT.out,HA.out,hf.out]; rfl,by go_num⟩
     case measure=>simp [intOf]; omega
  ·have t1:¬ ((m:Int) < 4):=by omega
   have hf:=hid (all_take_all (inB 3) (l:=s) (k:=m) (by rw [Hs.out]; omega) HA.out)
   go_wp2
   go_ret
   exact ⟨ret_bool hf.out.symm,bnew _ _⟩
end
section
open Go.Lib (hid)
open Go.RowKit
theorem Near_below (v:Int) (p:Nat) (w:World) (h1:-4611686018427387904<=v) (h2:v<=4611686018427387904) (hp:p<=61) :
  Calls Tryz.prog 288 #[.int .i64 v,.int .i64 p] w fun e w'=>e=.returned (.int .i64 (nearZ v p))/\Below w.heap.size w w' :=
 (Near_any v p w h1 h2 hp).mono fun e w' ⟨he,n,hn⟩=>⟨he,by rw [hn]; exact below_drewN (Below.refl _ _) n⟩
theorem BigB.get {b:List Int} (h:BigB b) {k:Nat} {x:Int} (hx:b[k]? = some x):-4611686018427387904<=x/\x<=4611686018427387904:=h k x hx
theorem Steps_any (b s:List Int) (w:World) (hb:b.length=16) (hs:s.length=4) (hr:BigB b) (hok:scaleOk s=true) :
  Calls Tryz.prog 277 #[blockV b,blockV s] w fun e w'=>e=.returned (blockV (stepsTo b s 16))/\Below w.heap.size w w':=by
 have HR:=hid (fun W=>scalesRight_any s W hs)
 have HQ:=hid (fun (k:Nat) (x:Int) (hx:s[k]? = some x)=>(show 0<=x/\x<=23 by
  unfold scaleOk at hok
  rw [List.all_eq_true] at hok
  have:=hok x (List.mem_of_getElem? hx)
  simp at this; exact this))
 rw [hok] at HR
 clear hok
 unfold blockV at *
 have HC:=hid (fun (k:Nat) (x:Int) (h:s[k]? = some x)=>blk_get h)
 have hsz:(s.map (Value.int .i64)).toArray.size=4:=by simp [hs]
 generalize (s.map (Value.int .i64)).toArray=cs at *
 have HF:=hid (show (Tryz.prog.info? 242).map (·.size)=some cs.size by rw [hsz]; exact inf_scales)
 have Hs:=hid hs
 have Hb:=hid hb
 have Hr:=hid hr
 have HB0:=hid (Blk.new w 48 (b.map (Value.int .i64)))
 have HS1:=hid (heap_alloc_new (w.alloc (.cells (b.map (Value.int .i64)).toArray 48)) (.cells cs 242))
 have Hb3:=hid (((bnew w (.cells (b.map (Value.int .i64)).toArray 48)).alloc (by simp) (.cells cs 242)).alloc (by simp; omega) (.cells (List.replicate 16 (Value.int .i64 0)).toArray 48))
 rw [World.size_alloc] at HS1
 clear hs hsz hb hr
 go_enter Tryz.func277,Tryz.ntmps277
 go_wp2_with (first | (go_at_call 141; fail) | (refine wpList_load_row_w rfl 242 (.tmp 3) rfl (w.heap.size+1) rfl _ cs _ _ (by exact (heap_alloc_old _ _ (by simp)).trans HS1.out) Tryz.underlying242 rfl HF.out ?_))
 refine (HR.out _).mono ?_
 rintro e w1 ⟨rfl,hbb⟩
 have hb1:=bnext Hb3.out hbb
 have hB1:=((HB0.out.alloc (.cells cs 242)).alloc (.cells (List.replicate 16 (Value.int .i64 0)).toArray 48)).below hbb (by simp; omega)
 have hS1:=(hbb.block (w.heap.size+1) (by simp)).trans ((heap_alloc_old _ (.cells (List.replicate 16 (Value.int .i64 0)).toArray 48) (by simp)).trans HS1.out)
 have hZ1:=(Blk.new ((w.alloc (.cells (b.map (Value.int .i64)).toArray 48)).alloc (.cells cs 242)) 48 (List.replicate 16 (.int .i64 0))).below hbb (by simp)
 simp only [World.size_alloc] at hZ1
 have hsz1:=hbb.size
 simp at hsz1
 have Hb1:=hid hb1
 have HB1:=hid hB1
 have HZ1:=hid hZ1
 have HS1:=hid hS1
 clear hbb hb1 hB1 hS1 hZ1 HB0 Hb3
 go_wp2_with fail
 go_loopw [10] (fun i wr=>∃ (m:Nat),m<=16/\i=.int .i64 m/\Blk wr w.heap.size 48 ((stepsTo b s m).map (Value.int .i64))/\wr.heap[w.heap.size+1]? = some (.cells cs 242 (0,0))/\Blk wr (w.heap.size+1+1) 48 (List.replicate 16 (.int .i64 0))/\Below w.heap.size w wr/\w.heap.size+3<=wr.heap.size) (fun i _=>16 - (intOf i).toNat)
 case atStart=>exact ⟨0,by omega,rfl,by rw [stepsTo_zero s Hb.out]; exact HB1.out,HS1.out,HZ1.out,Hb1.out,by omega⟩
 case round =>
  obtain ⟨m,hm,rfl,hB,hS,hZ,hbel,hsz⟩:=hrel
  have HB:=hid hB
  have HS:=hid hS
  have HZ:=hid hZ
  have Hbel:=hid hbel
  by_cases hlt:m < 16
  ·obtain ⟨x,hx⟩:=list_get (k:=m) Hb.out hlt
   obtain ⟨q,hq⟩:∃ q,m / 4=q:=⟨_,rfl⟩
   have hq4:q < 4:=by omega
   obtain ⟨p,hp⟩:=list_get (k:=q) Hs.out hq4
   have hpb:=HQ.out q p hp
   obtain ⟨hp0,hp1⟩:=hpb
   obtain ⟨k,rfl⟩:=Int.eq_ofNat_of_zero_le hp0
   have HBand:=hid (show ∀ W,Calls Tryz.prog 98 #[.int .i64 m] W fun e w'=>e=.returned (.int .i64 (q:Int))/\W=w' from fun W=>(Band_any m W hlt).mono fun e w' ⟨he,hw⟩=>⟨he.trans (ret_int (by omega)),hw⟩)
   have hxb:=Hr.out.get hx
   have HNear:=hid (fun W=>Near_below x k W hxb.1 hxb.2 (by omega))
   have HSt:=hid (show (stepsTo b s m).set m (nearZ x k)=stepsTo b s (m+1) by
    rw [<-stepsTo_succ b s hlt,bgt_get hx,hq,bgt_get hp,Int.toNat_natCast])
   have hc1:=HC.out q _ hp
   have hc2:((stepsTo b s m).map (Value.int .i64))[m]? = some (.int .i64 x):=by rw [List.getElem?_map,stepsTo_get b s hlt (Nat.le_refl m) hx]; rfl
   have t1:(m:Int) < 16:=by omega
   have hx5:=gw_blk hB
   have hy5:=gw_cells hS
   clear hx hq hp hp0 hB hS hZ hbel
   generalize nearZ x k=y at *
   go_wp2_with fail
   refine wp_region_calm_tail 10 (by kernel_rfl) (by kernel_rfl) ?_
   simp only [List.take_succ_cons,List.take_zero,List.drop_succ_cons,List.drop_zero]
   repeat (go_big_quiet_step ((first | (go_at_call 98; exact calm_same (HBand.out _)) | (go_at_call 288; exact calm_call (HNear.out _)))))
   refine wpQuiet_nil ?_
   intro w5 hw'
   have hb5:=gw_below hw'
   have hB5:=HB.out.below hb5 HB.out.lt
   have hZ5:=HZ.out.below hb5 HZ.out.lt
   have hS5:=(hb5.block (w.heap.size+1) (by omega)).trans HS.out
   have HB5:=hid hB5
   have HZ5:=hid hZ5
   have HS5:=hid hS5
   have Hb5:=hid (bnext Hbel.out hb5)
   have hsz5:=Nat.le_trans hsz hb5.size
   have ce:w5.cell? ⟨w.heap.size,m,none⟩=some (.int .i64 x):=by rw [hB5.cell]; exact hc2
   have fz:=hB5.frozen m
   clear hw' hb5 hx5 hy5 hB5 hZ5 hS5
   go_wp2
   go_roundw
   case rel =>
    refine ⟨m+1,by omega,by go_num,?_,(Below.heap_setCell w5 ⟨w.heap.size,m,none⟩ _ (w.heap.size+1) (by simp)).trans HS5.out,HZ5.out.far (by simp; omega) _,Hb5.out.setCell (by simp) _,by simp; omega⟩
    rw [<-HSt.out,List.map_set]
    exact HB5.out.set_ m _
   case measure=>simp [intOf]; omega
  ·have hm16:m=16:=by omega
   subst hm16
   have t1:¬ (((16:Nat):Int) < 16):=by omega
   have hH:=hid (show wr.heap[w.heap.size]? = some (.cells ((stepsTo b s 16).map (Value.int .i64)).toArray 48 (0,0)) from HB.out)
   have hH2:=hid (show wr.heap[w.heap.size+1+1]? = some (.cells (List.replicate 16 (Value.int .i64 0)).toArray 48 (0,0)) from HZ.out)
   have H1:=hid (ints_one (stepsTo b s 16))
   have hsz2:((stepsTo b s 16).map (Value.int .i64)).toArray.size=16:=by simp [stepsTo_len]
   obtain ⟨xs,hxs⟩:∃ xs,((stepsTo b s 16).map (Value.int .i64)).toArray=xs:=⟨_,rfl⟩
   rw [hxs] at hH H1 hsz2
   have HE:=hid hxs
   clear hxs
   have HF2:=hid (show (Tryz.prog.info? 48).map (·.size)=some xs.size by rw [hsz2]; exact inf_block)
   have Hsz:=hid hsz2
   clear hsz2
   go_wp2_with (first | (refine wpList_load_row_w rfl 48 (.tmp 2) rfl w.heap.size rfl _ xs _ _ hH.out Tryz.underlying48 rfl HF2.out ?_) | (refine wpList_store_row_w rfl 48 (.tmp 4) (.tmp 24) rfl (w.heap.size+1+1) rfl _ _ xs rfl hH2.out HF2.out (by rw [Hsz.out]; simp) H1.out ?_))
   refine bodyPost_ret (v:=.agg xs) (results_cell_row Tryz.results277 _ _ (w.heap.size+1+1) 48 xs (0,0) _ rfl (setRow_at wr _ _ _ xs hH2.out) Tryz.underlying48 rfl HF2.out) rfl ?_
   exact ⟨by rw [<-HE.out],setRow_below Hbel.out _ (by omega) _⟩
end
section
open Go.Lib (hid)
open Go.RowKit
theorem Widths_any (b:List Int) (w:World) (hb:b.length=16) (hr:BigB b) :
  Calls Tryz.prog 278 #[blockV b] w fun e w'=>e=.returned (blockV (widthsZ b))/\Below w.heap.size w w':=by
 unfold blockV
 have HC:=hid (fun (k:Nat) (x:Int) (h:b[k]? = some x)=>blk_get h)
 have hsz:(b.map (Value.int .i64)).toArray.size=16:=by simp [hb]
 generalize (b.map (Value.int .i64)).toArray=cs at *
 have HF:=hid (show (Tryz.prog.info? 48).map (·.size)=some cs.size by rw [hsz]; exact inf_block)
 have Hb:=hid hb
 have Hr:=hid hr
 have HB0:=hid (heap_alloc_new w (.cells cs 48))
 clear hsz hb hr
 go_enter Tryz.func278,Tryz.ntmps278
 go_wp2_with (refine wpList_load_row_w rfl 48 (.tmp 1) rfl w.heap.size rfl _ cs _ _ (by exact (heap_alloc_old _ _ (by simp only [World.size_alloc]; omega)).trans ((heap_alloc_old _ _ (by simp only [World.size_alloc]; omega)).trans HB0.out)) Tryz.underlying48 rfl HF.out ?_)
 go_loopw [7] (fun i wr=>∃ (m:Nat),m<=16/\i=.int .i64 m/\Blk wr (w.heap.size+1) 45 (List.replicate 4 (.int .i64 0))/\Blk wr (w.heap.size+1+1) 45 ((widthsTo b m).map (Value.int .i64))/\Below w.heap.size w wr/\w.heap.size+3<=wr.heap.size) (fun i _=>16 - (intOf i).toNat)
 case atStart =>
  refine ⟨0,by omega,rfl,?_,?_,((bnew _ _).alloc (by simp only [World.size_alloc]; omega) _).alloc (by simp only [World.size_alloc]; omega) _,by simp only [World.size_alloc]; omega⟩
  ·have:=(Blk.new (w.alloc (.cells cs 48)) 45 (List.replicate 4 (.int .i64 0))).alloc (.cells (List.replicate 4 (.int .i64 0)).toArray 45)
   rw [World.size_alloc] at this
   exact this
  ·have:=Blk.new ((w.alloc (.cells cs 48)).alloc (.cells (List.replicate 4 (.int .i64 0)).toArray 45)) 45 (List.replicate 4 (.int .i64 0))
   rw [World.size_alloc,World.size_alloc] at this
   exact this
 case round =>
  obtain ⟨m,hm,rfl,hZ,hB,hbel,hsz⟩:=hrel
  have HB:=hid hB
  have HZ:=hid hZ
  have Hbel:=hid hbel
  by_cases hlt:m < 16
  ·obtain ⟨x,hx⟩:=list_get (k:=m) Hb.out hlt
   obtain ⟨q,hq⟩:∃ q,m / 4=q:=⟨_,rfl⟩
   have hq4:q < 4:=by omega
   have HBand:=hid (show ∀ W,Calls Tryz.prog 98 #[.int .i64 m] W fun e w'=>e=.returned (.int .i64 (q:Int))/\W=w' from fun W=>(Band_any m W hlt).mono fun e w' ⟨he,hw⟩=>⟨he.trans (ret_int (by omega)),hw⟩)
   have hxb:=Hr.out.get hx
   have HWd:=hid (fun W=>Width_any x W (by omega) (by omega))
   have HSt:=hid (show (widthsTo b m).set q (max (widthTo b m q) (widthZ x):Nat)=widthsTo b (m+1) by
    rw [<-widthsTo_succ b m hlt,bgt_get hx,hq])
   obtain ⟨V,hV⟩:∃ V:Nat,widthZ x=V:=⟨_,rfl⟩
   obtain ⟨U,hU⟩:∃ U:Nat,widthTo b m q=U:=⟨_,rfl⟩
   rw [hV] at HWd HSt
   rw [hU] at HSt
   have hc2:((widthsTo b m).map (Value.int .i64))[q]? = some (.int .i64 (U:Int)):=by rw [List.getElem?_map,widthsTo_get b m hq4,hU]; rfl
   have hix:=run_index_arr (P:=Tryz.prog) Tryz.underlying48 hlt (fun W=>by kernel_rfl) (fun W=>by kernel_rfl) (HC.out _ _ hx)
   have hmax:max (U:Int) (V:Int)=((max U V:Nat):Int):=by omega
   have t1:(m:Int) < 16:=by omega
   have hx5:=gw_blk hB
   clear hx hq hB hZ hbel hV hU
   generalize max U V=M at *
   go_wp2_with fail
   refine wp_region_calm_tail 10 (by kernel_rfl) (by kernel_rfl) ?_
   simp only [List.take_succ_cons,List.take_zero,List.drop_succ_cons,List.drop_zero]
   repeat (go_big_quiet_step ((first | (go_at_call 98; exact calm_same (HBand.out _)) | (go_at_call 237; exact calm_same (HWd.out _)))))
   refine wpQuiet_nil ?_
   intro w5 hw'
   have hb5:=gw_below hw'
   have hB5:=HB.out.below hb5 HB.out.lt
   have hZ5:=HZ.out.below hb5 HZ.out.lt
   have HB5:=hid hB5
   have HZ5:=hid hZ5
   have Hb5:=hid (bnext Hbel.out hb5)
   have hsz5:=Nat.le_trans hsz hb5.size
   have ce:w5.cell? ⟨w.heap.size+1+1,q,none⟩=some (.int .i64 (U:Int)):=by rw [hB5.cell]; exact hc2
   have fz:=hB5.frozen q
   clear hw' hb5 hx5 hB5 hZ5
   go_wp2
   go_roundw
   case rel =>
    refine ⟨m+1,by omega,by go_num,HZ5.out.far (by simp) _,?_,Hb5.out.setCell (by simp; omega) _,by simp; omega⟩
    rw [<-HSt.out,List.map_set]
    exact HB5.out.set_ q _
   case measure=>simp [intOf]; omega
  ·have hm16:m=16:=by omega
   subst hm16
   have t1:¬ (((16:Nat):Int) < 16):=by omega
   have hH:=hid (show wr.heap[w.heap.size+1+1]? = some (.cells ((widthsTo b 16).map (Value.int .i64)).toArray 45 (0,0)) from HB.out)
   have hH2:=hid (show wr.heap[w.heap.size+1]? = some (.cells (List.replicate 4 (Value.int .i64 0)).toArray 45 (0,0)) from HZ.out)
   have H1:=hid (ints_one (widthsTo b 16))
   have hsz2:((widthsTo b 16).map (Value.int .i64)).toArray.size=4:=by simp [widthsTo_len]
   obtain ⟨xs,hxs⟩:∃ xs,((widthsTo b 16).map (Value.int .i64)).toArray=xs:=⟨_,rfl⟩
   rw [hxs] at hH H1 hsz2
   have HE:=hid hxs
   clear hxs
   have HF2:=hid (show (Tryz.prog.info? 45).map (·.size)=some xs.size by rw [hsz2]; exact inf_four)
   have Hsz:=hid hsz2
   clear hsz2
   go_wp2_with (first | (refine wpList_load_row_w rfl 45 (.tmp 3) rfl (w.heap.size+1+1) rfl _ xs _ _ hH.out Tryz.underlying45 rfl HF2.out ?_) | (refine wpList_store_row_w rfl 45 (.tmp 2) (.tmp 22) rfl (w.heap.size+1) rfl _ _ xs rfl hH2.out HF2.out (by rw [Hsz.out]; simp) H1.out ?_))
   refine bodyPost_ret (v:=.agg xs) (results_cell_row Tryz.results278 _ _ (w.heap.size+1) 45 xs (0,0) _ rfl (setRow_at wr _ _ _ xs hH2.out) Tryz.underlying45 rfl HF2.out) rfl ?_
   exact ⟨by rw [<-HE.out]; rfl,setRow_below Hbel.out _ (by omega) _⟩
def costTo (w:List Int):Nat->Int
 | 0=>0
 | m+1=>costTo w m+4*bgt w m
theorem Cost_any (wd:List Int) (w:World) (hb:wd.length=4) (hr:∀ (k:Nat) (x:Int),wd[k]? = some x->0<=x/\x<=1000) :
  Calls Tryz.prog 279 #[blockV wd] w fun e w'=>e=.returned (.int .i64 (4*(bgt wd 0+bgt wd 1+bgt wd 2+bgt wd 3)))/\Below w.heap.size w w':=by
 unfold blockV
 have HC:=hid (fun (k:Nat) (x:Int) (h:wd[k]? = some x)=>blk_get h)
 have hsz:(wd.map (Value.int .i64)).toArray.size=4:=by simp [hb]
 generalize (wd.map (Value.int .i64)).toArray=cs at *
 have HF:=hid (show (Tryz.prog.info? 45).map (·.size)=some cs.size by rw [hsz]; exact inf_four)
 have Hb:=hid hb
 have Hr:=hid hr
 have HB0:=hid (heap_alloc_new w (.cells cs 45))
 clear hsz hb hr
 go_enter Tryz.func279,Tryz.ntmps279
 go_wp2_with (refine wpList_load_row_w rfl 45 (.tmp 1) rfl w.heap.size rfl _ cs _ _ HB0.out Tryz.underlying45 rfl HF.out ?_)
 go_loop [3,7] (fun n i=>∃ (m:Nat),m<=4/\i=.int .i64 m/\n=.int .i64 (costTo wd m)/\0<=costTo wd m/\costTo wd m<=4000*(m:Int)) (fun _ i=>4 - (intOf i).toNat)
 case atStart=>exact ⟨0,by omega,rfl,rfl,by simp [costTo],by simp [costTo]⟩
 case round =>
  obtain ⟨m,hm,rfl,rfl,h0,h1⟩:=hrel
  by_cases hlt:m < 4
  ·obtain ⟨x,hx⟩:=list_get (k:=m) Hb.out hlt
   have hxb:=Hr.out m x hx
   have HS:=hid (show costTo wd (m+1)=costTo wd m+4*x by rw [<-bgt_get hx]; rfl)
   have hix:=run_index_arr (P:=Tryz.prog) Tryz.underlying45 hlt (fun W=>by kernel_rfl) (fun W=>by kernel_rfl) (HC.out _ _ hx)
   have t1:(m:Int) < 4:=by omega
   generalize costTo wd m=C at *
   clear hx
   go_wp2
   go_round
   case rel=>exact ⟨m+1,by omega,by go_num,val_int (by rw [HS.out]),by rw [HS.out]; omega,by rw [HS.out]; omega⟩
   case measure=>simp [intOf]; omega
  ·have hm4:m=4:=by omega
   subst hm4
   have t1:¬ (((4:Nat):Int) < 4):=by omega
   have HE:=hid (show costTo wd 4=4*(bgt wd 0+bgt wd 1+bgt wd 2+bgt wd 3) by unfold costTo costTo costTo costTo costTo; omega)
   go_wp2
   go_ret
   exact ⟨ret_int HE.out,bnew _ _⟩
end
end Go.Proofs.YtnbbfblaipjcmaaGreatDoor
