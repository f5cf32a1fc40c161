/- ToneJ, FitP, FitQ, LapP, QuantA, QuantB, QuantC. Conditions: as each theorem states. -/
import Derived.Deep.WholeRow
import Derived.Test.YtnbbfblaipjcmaaGreatDoorPv01
import Derived.Test.YtnbbfblaipjcmaaGreatDoorPv05
import Derived.Test.YtnbbfblaipjcmaaGreatDoorPv12
set_option maxRecDepth 100000
set_option maxHeartbeats 4000000
namespace Go.Proofs.YtnbbfblaipjcmaaGreatDoor
section
open Go.RowKit
theorem iU (b:List Int) (k i:Nat) (v:Int) (hk:k < b.length):bgt (b.set k v) i=if k=i then v else bgt b i:=by
 unfold bgt
 rw [List.getD_eq_getElem?_getD,List.getD_eq_getElem?_getD,List.getElem?_set]
 split
 ·rename_i h; subst h; simp
 ·rfl
theorem EO (b':List Int) (i:Nat):∀ (ks:List Nat) (b:List Int),b.length=16->ks.Nodup->(∀ k ∈ ks,k < 16)->bgt (cY b (ks.map (kS b'))) i=if i ∈ ks then bgt b i - bgt b' i else bgt b i
 | [],b,_,_,_=>by simp [cY]
 | k :: r,b,hb,hn,hk=>by
  rw [List.nodup_cons] at hn
  have hk16:=hk k (by simp)
  have e:cY b ((k :: r).map (kS b'))=cY (b.set k (bgt b k - bgt b' k)) (r.map (kS b')):=by
   unfold cY
   rw [List.map_cons,List.foldl_cons]
   congr 1
   unfold mM kS
   simp only
   rw [if_pos (by omega),Int.toNat_natCast]
  rw [e,EO b' i r _ (by simp [hb]) hn.2 (fun x hx=>hk x (by simp [hx])),iU _ _ _ _ (by omega)]
  by_cases h:k=i
  ·subst h
   simp [hn.1]
  ·have:i ≠ k:=fun e=>h e.symm
   simp [h,this]
def aDA (b:List Int):List Nat:=(List.range 16).filter (aDS b)
theorem oQ (b:List Int):mW b=(aDA b).map (kS b):=rfl
theorem DY (b:List Int):(aDA b).Nodup:=List.nodup_range.filter _
theorem BD (b:List Int):∀ k ∈ aDA b,k < 16:=fun _ hk=>List.mem_range.1 (List.mem_filter.1 hk).1
theorem aBm {b:List Int} (hr:BigB b) (hb:b.length=16):∀ t ∈ mW b,t.big:=by
 intro t ht
 rw [oQ] at ht
 obtain ⟨k,hk,rfl⟩:=List.mem_map.1 ht
 have h16:=BD b k hk
 obtain ⟨x,hx⟩:=aE hb h16
 have:=hr k x hx
 unfold ToneV.big kS
 simp only
 rw [aD hx]
 omega
theorem aDb {b:List Int} (hr:BigB b) (hb:b.length=16) (m:Nat):BigB (cY b ((mW b).take m)):=by
 intro i x hx
 have hi:i < 16:=by
  have h1:=(List.getElem?_eq_some_iff.1 hx).1
  rw [rZ,hb] at h1
  exact h1
 have h1:=aD hx
 rw [oQ,<-List.map_take,EO b i _ b hb ((DY b).sublist (List.take_sublist _ _)) (fun _ hk=>BD b _ (List.mem_of_mem_take hk))] at h1
 obtain ⟨y,hy⟩:=aE hb hi
 have h2:=hr i y hy
 rw [aD hy] at h1
 split at h1 <;> omega
end
section
structure FrameV where
 gains:List Int
 tones:List ToneV
 scale:List Int
 width:List Int
 q:List Int
def dC:List Int:=[0,0,0,0]
def fZ:List Int:=[0,0,0,0,0,0,0,0,0,0,0,0,0,0,0,0]
def iZ (s:List Int):Bool:=s.all fun x=>decide (0<=x) && decide (x<=23)
def cF (b s:List Int) (m:Nat):List Int:=(List.range 16).map fun k=>if k < m then iJ (bgt b k) (bgt s (k / 4)).toNat else bgt b k
def eL (b s:List Int):List Int:=if iZ s=true then cF b s 16 else fZ
def bH (q s:List Int) (m:Nat):List Int:=(List.range 16).map fun k=>if k < m then bgt q k*2 ^ (bgt s (k / 4)).toNat else bgt q k
def iF (q s:List Int):List Int:=if iZ s=true then bH q s 16 else fZ
def gL (q:List Int) (m:Nat) (i:Nat):Nat:=(List.range m).foldl (fun w k=>if k / 4=i then max w (cB (bgt q k)) else w) 0
def fR (q:List Int) (m:Nat):List Int:=(List.range 4).map fun i=>(gL q m i:Int)
def jS (q:List Int):List Int:=fR q 16
theorem kW (q:List Int) (m i:Nat):gL q (m+1) i=if m / 4=i then max (gL q m i) (cB (bgt q m)) else gL q m i:=by
 unfold gL; rw [List.range_succ,List.foldl_append]; rfl
theorem aJ {α:Type} (f:Nat->α) {n k:Nat} (h:k < n):((List.range n).map f)[k]? = some (f k):=by
 rw [List.getElem?_map,List.getElem?_range h]; rfl
theorem dE {α:Type} (f g:Nat->α) {n k:Nat} {x:α} (hk:k < n) (h1:g k=x) (h2:∀ i,i ≠ k->g i=f i):((List.range n).map f).set k x=(List.range n).map g:=by
 apply List.ext_getElem?
 intro i
 rw [List.getElem?_set]
 by_cases h:k=i
 ·subst h
  rw [if_pos rfl,if_pos (by simpa using hk),aJ g hk,h1]
 ·rw [if_neg h,List.getElem?_map,List.getElem?_map]
  rcases Nat.lt_or_ge i n with hi | hi
  ·rw [List.getElem?_range hi]; simp [h2 i (fun e=>h e.symm)]
  ·rw [List.getElem?_eq_none (by simpa using hi)]; rfl
theorem eN {b:List Int} {n:Nat} (hb:b.length=n):b=(List.range n).map fun k=>bgt b k:=by
 apply List.ext_getElem?
 intro i
 rw [List.getElem?_map]
 rcases Nat.lt_or_ge i n with hi | hi
 ·obtain ⟨x,hx⟩:=aE hb hi
  rw [List.getElem?_range hi,hx]
  simp [aD hx]
 ·rw [List.getElem?_eq_none (by omega),List.getElem?_eq_none (by simpa using hi)]; rfl
theorem MD {b:List Int} (s:List Int) (hb:b.length=16):cF b s 0=b:=by
 rw [eN hb]; unfold cF
 apply List.map_congr_left
 intro k hk
 have:=List.mem_range.1 hk
 rw [if_neg (by omega),<-eN hb]
theorem MC (b s:List Int) {m:Nat} (hm:m < 16):(cF b s m).set m (iJ (bgt b m) (bgt s (m / 4)).toNat)=cF b s (m+1):=by
 refine dE _ (fun k=>if k < m+1 then iJ (bgt b k) (bgt s (k / 4)).toNat else bgt b k) hm ?_ (fun i hi=>?_)
 ·rw [if_pos (by omega)]
 ·by_cases h:i < m
  ·rw [if_pos h,if_pos (by omega)]
  ·rw [if_neg h,if_neg (by omega)]
theorem uB {b:List Int} (s:List Int) (hb:b.length=16):bH b s 0=b:=by
 rw [eN hb]; unfold bH
 apply List.map_congr_left
 intro k hk
 have:=List.mem_range.1 hk
 rw [if_neg (by omega),<-eN hb]
theorem uA (b s:List Int) {m:Nat} (hm:m < 16):(bH b s m).set m (bgt b m*2 ^ (bgt s (m / 4)).toNat)=bH b s (m+1):=by
 refine dE _ (fun k=>if k < m+1 then bgt b k*2 ^ (bgt s (k / 4)).toNat else bgt b k) hm ?_ (fun i hi=>?_)
 ·rw [if_pos (by omega)]
 ·by_cases h:i < m
  ·rw [if_pos h,if_pos (by omega)]
  ·rw [if_neg h,if_neg (by omega)]
theorem j7 (b s:List Int) (m:Nat):(cF b s m).length=16:=by simp [cF]
theorem kU (b s:List Int) (m:Nat):(bH b s m).length=16:=by simp [bH]
theorem gM (q:List Int) (m:Nat):(fR q m).length=4:=by simp [fR]
theorem FH (b s:List Int):(eL b s).length=16:=by unfold eL; split <;> simp [cF,fZ]
theorem AP (b s:List Int):(iF b s).length=16:=by unfold iF; split <;> simp [bH,fZ]
theorem Q7 (b s:List Int) {m k:Nat} (hk:k < 16) (hm:m<=k) {x:Int} (hx:b[k]? = some x):(cF b s m)[k]? = some x:=by
 unfold cF
 rw [aJ _ hk,if_neg (by omega),aD hx]
theorem xD (b s:List Int) {m k:Nat} (hk:k < 16) (hm:m<=k) {x:Int} (hx:b[k]? = some x):(bH b s m)[k]? = some x:=by
 unfold bH
 rw [aJ _ hk,if_neg (by omega),aD hx]
theorem xF (q:List Int) (m:Nat) {i:Nat} (hi:i < 4):(fR q m)[i]? = some (gL q m i:Int):=aJ _ hi
theorem IC (q:List Int) (m:Nat) (hm:m < 16):(fR q m).set (m / 4) (max (gL q m (m / 4)) (cB (bgt q m)):Nat)=fR q (m+1):=by
 refine dE _ (fun i=>((gL q (m+1) i:Nat):Int)) (by omega) ?_ (fun i hi=>?_)
 ·rw [kW,if_pos rfl]
 ·rw [kW,if_neg (fun e=>hi e.symm)]
theorem vK (q:List Int) (B:Nat) (h:∀ k,k < 16->cB (bgt q k)<=B) (i:Nat):∀ m,m<=16->gL q m i<=B
 | 0,_=>Nat.zero_le _
 | m+1,hm=>by
  rw [kW]
  have h1:=vK q B h i m (by omega)
  have h2:=h m (by omega)
  split <;> omega
theorem FR (q:List Int) (i:Nat):∀ m k,k < m->k / 4=i->cB (bgt q k)<=gL q m i
 | 0,_,h,_=>by omega
 | m+1,k,h,hk=>by
  rw [kW]
  by_cases hkm:k=m
  ·subst hkm; rw [if_pos hk]; omega
  ·have:=FR q i m k (by omega) hk
   split <;> omega
def l8 (b:List Int):List Int:=(List.range 4).map fun i=>(cB (cW ((b.drop (i*4)).take 4)):Int)
def cM (w s m:List Int):Nat->Int
 | 0=>-1
 | k+1=>let best:=cM w s m k
  if 0 < bgt w k/\bgt s k < 23/\(best < 0\/bgt m best.toNat - bgt s best.toNat < bgt m k - bgt s k) then (k:Int) else best
theorem mO (w s m:List Int):∀ k,-1<=cM w s m k/\cM w s m k < (k:Int)
 | 0=>by unfold cM; omega
 | k+1=>by
  have:=mO w s m k
  unfold cM
  simp only
  split <;> omega
theorem o9 (w s m:List Int):∀ k,0<=cM w s m k->0 < bgt w (cM w s m k).toNat/\bgt s (cM w s m k).toNat < 23
 | 0,h=>by unfold cM at h; omega
 | k+1,h=>by
  unfold cM at h ⊢
  simp only at h ⊢
  split
  ·rename_i h1
   rw [Int.toNat_natCast]; exact ⟨h1.1,h1.2.1⟩
  ·rename_i h1
   rw [if_neg h1] at h
   exact o9 w s m k h
theorem AC (w s m:List Int):∀ k,cM w s m k < 0->∀ i,i < k->¬ (0 < bgt w i/\bgt s i < 23)
 | 0,_,i,hi=>by omega
 | k+1,h,i,hi=>by
  unfold cM at h
  simp only at h
  split at h
  ·omega
  ·rename_i h1
   by_cases hik:i=k
   ·subst hik
    intro h2
    exact h1 ⟨h2.1,h2.2,.inl h⟩
   ·exact AC w s m k h i (by omega)
def dB (b g s:List Int) (l:List ToneV):FrameV:=⟨g,l,s,jS (eL (cY b l) s),eL (cY b l) s⟩
def fT (f:FrameV):Int:=52+28*(f.tones.length:Int)+4*(bgt f.width 0+bgt f.width 1+bgt f.width 2+bgt f.width 3)
def Q8 (s:List Int):Int:=bgt s 0+bgt s 1+bgt s 2+bgt s 3
def dO (b g:List Int) (room:Int) (l:List ToneV) (mask:List Int):Nat->List Int->Nat->FrameV × Nat
 | 0,s,n=>(dB b g s l,n)
 | fuel+1,s,n =>
  let f:=dB b g s l
  let i:=cM f.width s mask 4
  if fT f<=room\/i < 0 then (f,n) else dO b g room l mask fuel (s.set i.toNat (bgt s i.toNat+1)) (n+1)
def cG (b:List Int) (tones:Bool):List ToneV:=if tones=true then mW b else []
def jQ (b g:List Int) (room:Int) (tones:Bool):FrameV × Nat:=dO b g room (cG b tones) (l8 (cY b (cG b tones))) 92 dC 0
end
section
theorem IP:∀ (l:List ToneV),(∀ t ∈ l,t.big)->∃ ts:List BTone,ts.map BTone.t=l
 | [],_=>⟨[],rfl⟩
 | t :: r,h=>by
  obtain ⟨ts,hts⟩:=IP r (fun x hx=>h x (by simp [hx]))
  exact ⟨⟨t,h t (by simp)⟩ :: ts,by simp [hts]⟩
theorem UG {b:List Int} (hb:b.length=16) (hr:BigB b):(mW b).length<=2:=by
 obtain ⟨ts,hts⟩:=IP (iE b 16) (by
  intro t ht
  unfold iE at ht
  obtain ⟨k,hk,rfl⟩:=List.mem_map.1 ht
  have hk16:=List.mem_range.1 (List.mem_filter.1 hk).1
  obtain ⟨x,hx⟩:=aE hb hk16
  have:=hr k x hx
  unfold ToneV.big kS
  simp only
  rw [aD hx]
  omega)
 rw [<-wY b ts hts,List.length_map,pK (ltOf lC) xB,List.length_take]
 omega
theorem QA {v:Int} (hv:0<=v) (p:Nat):0<=iJ v p/\iJ v p<=v:=by
 unfold iJ
 split
 ·omega
 ·rename_i hp
  obtain ⟨k,rfl⟩:∃ k,p=k+1:=⟨p - 1,by omega⟩
  have hd:(0:Int) < 2 ^ k:=Int.pow_pos (by decide)
  have e:(2:Int) ^ (k+1)=2*2 ^ k:=by rw [Int.pow_succ]; omega
  rw [Int.tdiv_eq_ediv_of_nonneg hv,Int.tmod_eq_emod_of_nonneg hv,Nat.add_sub_cancel,e]
  generalize (2:Int) ^ k=d at *
  have h1:=Int.mul_ediv_add_emod v (2*d)
  have h2:=Int.emod_nonneg v (b:=2*d) (by omega)
  have h3:=Int.emod_lt_of_pos v (b:=2*d) (by omega)
  have h4:0<=v / (2*d):=Int.ediv_nonneg hv (by omega)
  generalize v / (2*d)=q at *
  generalize v % (2*d)=r at *
  have h5:2*q<=2*d*q:=Int.mul_le_mul_of_nonneg_right (by omega) h4
  split
  ·omega
  ·split <;> omega
theorem aBO (v:Int) (p:Nat):iJ (-v) p = -iJ v p:=by
 unfold iJ
 split
 ·rfl
 ·have hd:(0:Int) < 2 ^ (p - 1):=Int.pow_pos (by decide)
  rw [Int.neg_tdiv,Int.neg_tmod]
  generalize (2:Int) ^ (p - 1)=d at *
  generalize v.tdiv (2 ^ p)=q at *
  generalize v.tmod (2 ^ p)=r at *
  repeat' split
  all_goals omega
theorem LJ {v B:Int} (h1:-B<=v) (h2:v<=B) (p:Nat):-B<=iJ v p/\iJ v p<=B:=by
 rcases Int.lt_or_le v 0 with h | h
 ·have:=QA (v:=-v) (by omega) p
  rw [aBO] at this
  omega
 ·have:=QA h p
  omega
theorem aBP {v:Int} {p:Nat} (h1:-(2 ^ p) < v) (h2:v < 2 ^ p) (hp:p ≠ 0):-1<=iJ v p/\iJ v p<=1:=by
 unfold iJ
 rw [if_neg hp]
 have e:v.tdiv (2 ^ p)=0:=by
  rcases Int.lt_or_le v 0 with h | h
  ·have:(-v).tdiv (2 ^ p)=0:=Int.tdiv_eq_zero_of_lt (by omega) (by omega)
   rw [Int.neg_tdiv] at this; omega
  ·exact Int.tdiv_eq_zero_of_lt h h2
 rw [e]
 repeat' split
 all_goals omega
theorem YZ (b:List Int):(mW b).Pairwise fun x y=>x.idx < y.idx:=by
 rw [oQ,List.pairwise_map]
 refine ((JY 16).filter _).imp fun {a c} h=>?_
 show (a:Int) < (c:Int)
 omega
theorem oE (b s:List Int) {m k:Nat} (hk:k < 16):bgt (cF b s m) k=if k < m then iJ (bgt b k) (bgt s (k / 4)).toNat else bgt b k:=aD (aJ _ hk)
theorem qT (b s:List Int) {m k:Nat} (hk:k < 16):bgt (bH b s m) k=if k < m then bgt b k*2 ^ (bgt s (k / 4)).toNat else bgt b k:=aD (aJ _ hk)
theorem qV (q:List Int) {i:Nat} (hi:i < 4):bgt (jS q) i=(gL q 16 i:Int):=aD (xF q 16 hi)
def ScB (s:List Int):Prop:=s.length=4/\∀ i,i < 4->0<=bgt s i/\bgt s i<=23
theorem ScB.ok {s:List Int} (h:ScB s):iZ s=true:=by
 unfold iZ
 rw [List.all_eq_true]
 intro x hx
 obtain ⟨i,hi,rfl⟩:=List.mem_iff_getElem.1 hx
 have:=h.2 i (by have:=h.1; omega)
 rw [aD (List.getElem?_eq_getElem hi)] at this
 simp; omega
theorem ScB.zero:ScB dC:=⟨rfl,fun i hi=>by
 match i,hi with
 | 0,_ | 1,_ | 2,_ | 3,_=>simp [bgt,dC]⟩
theorem ScB.inc {s:List Int} (h:ScB s) {i:Nat} (hi:i < 4) (h2:bgt s i < 23):ScB (s.set i (bgt s i+1)):=by
 refine ⟨by simp [h.1],fun k hk=>?_⟩
 rw [iU _ _ _ _ (by have:=h.1; omega)]
 have h3:=h.2 i hi
 have h4:=h.2 k hk
 split <;> omega
theorem Q9 {s:List Int} (h:ScB s) {i:Nat} (hi:i < 4) (v:Int):Q8 (s.set i v)=Q8 s+v - bgt s i:=by
 unfold Q8
 have hl:=h.1
 rw [iU _ _ _ _ (by omega),iU _ _ _ _ (by omega),iU _ _ _ _ (by omega),iU _ _ _ _ (by omega)]
 match i,hi with
 | 0,_ | 1,_ | 2,_ | 3,_=>simp <;> omega
theorem VR (b g:List Int) (room:Int) (l:List ToneV) (mask:List Int):∀ (fuel:Nat) (s:List Int) (n:Nat),ScB s->Q8 s+(fuel:Int)=92 ->
  ∃ s' n',dO b g room l mask fuel s n=(dB b g s' l,n')/\ScB s'/\(fT (dB b g s' l)<=room\/cM (dB b g s' l).width s' mask 4 < 0):=by
 intro fuel
 induction fuel with
 | zero =>
  intro s n hs hsum
  refine ⟨s,n,rfl,hs,.inr ?_⟩
  rcases Int.lt_or_le (cM (dB b g s l).width s mask 4) 0 with h | h
  ·exact h
  ·have h1:=o9 (dB b g s l).width s mask 4 h
   have h2:=mO (dB b g s l).width s mask 4
   generalize cM (dB b g s l).width s mask 4=x at *
   obtain ⟨k,rfl⟩:=Int.eq_ofNat_of_zero_le h
   rw [Int.toNat_natCast] at h1
   have h3:k < 4:=by omega
   unfold Q8 at hsum
   have a0:=hs.2 0 (by omega)
   have a1:=hs.2 1 (by omega)
   have a2:=hs.2 2 (by omega)
   have a3:=hs.2 3 (by omega)
   match k,h3,h1 with
   | 0,_,h1 | 1,_,h1 | 2,_,h1 | 3,_,h1=>omega
 | succ fuel ih =>
  intro s n hs hsum
  unfold dO
  simp only
  split
  ·rename_i h
   exact ⟨s,n,rfl,hs,h⟩
  ·rename_i h
   have h0:0<=cM (dB b g s l).width s mask 4:=by omega
   have h1:=o9 (dB b g s l).width s mask 4 h0
   have h2:=mO (dB b g s l).width s mask 4
   generalize cM (dB b g s l).width s mask 4=x at *
   obtain ⟨k,rfl⟩:=Int.eq_ofNat_of_zero_le h0
   rw [Int.toNat_natCast] at h1 ⊢
   have h3:k < 4:=by omega
   exact ih _ _ (hs.inc h3 h1.2) (by rw [Q9 hs h3]; omega)
theorem sB (b g:List Int) (room:Int) (tones:Bool):∃ s' n',jQ b g room tones=(dB b g s' (cG b tones),n')/\ScB s' /\
  (fT (dB b g s' (cG b tones))<=room\/cM (dB b g s' (cG b tones)).width s' (l8 (cY b (cG b tones))) 4 < 0) :=
 VR b g room _ _ 92 dC 0 ScB.zero rfl
def Low23 (b:List Int):Prop:=∀ k,k < 16->-8388608 < bgt b k/\bgt b k < 8388608
structure RightF (f:FrameV):Prop where
 gains:f.gains.length=4/\∀ i,i < 4->0<=bgt f.gains i/\bgt f.gains i<=3
 tlen:f.tones.length<=2
 tidx:∀ t ∈ f.tones,0<=t.idx/\t.idx < 16/\-8388608<=t.val/\t.val < 8388608
 tinc:f.tones.Pairwise fun x y=>x.idx < y.idx
 scale:ScB f.scale
 wlen:f.width.length=4
 width:∀ i,i < 4->0<=bgt f.width i/\bgt f.width i<=24
 qlen:f.q.length=16
 q:∀ k,k < 16->(cB (bgt f.q k):Int)<=bgt f.width (k / 4)
theorem aCr {v:Int} (h1:-8388608 < v) (h2:v < 8388608):cB v<=24:=j8 (k:=23) (by omega) (by omega)
theorem FM {b g s:List Int} {l:List ToneV} (hg:g.length=4/\∀ i,i < 4->0<=bgt g i/\bgt g i<=3) (h1:l.length<=2) (h2:∀ t ∈ l,0<=t.idx/\t.idx < 16/\-8388608<=t.val/\t.val < 8388608)
  (h3:l.Pairwise fun x y=>x.idx < y.idx) (hs:ScB s) (hl:Low23 (cY b l)):RightF (dB b g s l):=by
 have hq:∀ k,k < 16->cB (bgt (eL (cY b l) s) k)<=24:=by
  intro k hk
  unfold eL
  rw [if_pos hs.ok,oE _ _ hk,if_pos hk]
  have h:=hl k hk
  have h5:=LJ (v:=bgt (cY b l) k) (B:=8388607) (by omega) (by omega) (bgt s (k / 4)).toNat
  exact aCr (by omega) (by omega)
 refine ⟨hg,h1,h2,h3,hs,gM _ _,fun i hi=>?_,FH _ _,fun k hk=>?_⟩
 ·show 0<=bgt (jS _) i/\bgt (jS _) i<=24
  rw [qV _ hi]
  have:=vK (eL (cY b l) s) 24 hq i 16 (by omega)
  omega
 ·show (cB (bgt (eL (cY b l) s) k):Int)<=bgt (jS (eL (cY b l) s)) (k / 4)
  rw [qV _ (by omega)]
  have:=FR (eL (cY b l) s) (k / 4) 16 k hk rfl
  omega
theorem aAF {b g s:List Int} {l:List ToneV} {mask:List Int} (h1:l.length<=2) (hs:ScB s) (hl:Low23 (cY b l)) (hn:cM (dB b g s l).width s mask 4 < 0):fT (dB b g s l)<=192:=by
 have hw:∀ i,i < 4->bgt (dB b g s l).width i<=2:=by
  intro i hi
  have h2:=AC _ _ _ 4 hn i hi
  have h3:=hs.2 i hi
  show bgt (jS (eL (cY b l) s)) i<=2
  have h2':¬ (0 < bgt (jS (eL (cY b l) s)) i/\bgt s i < 23):=h2
  rw [qV _ hi] at h2' ⊢
  by_cases h0:gL (eL (cY b l) s) 16 i=0
  ·omega
  ·have h23:bgt s i=23:=by omega
   have:∀ m,m<=16->gL (eL (cY b l) s) m i<=2:=by
    intro m
    induction m with
    | zero=>intro _; exact Nat.zero_le _
    | succ m ih =>
     intro hm
     rw [kW]
     have h4:=ih (by omega)
     split
     ·rename_i hmi
      have h5:cB (bgt (eL (cY b l) s) m)<=2:=by
       unfold eL
       rw [if_pos hs.ok,oE _ _ (by omega),if_pos (by omega),hmi,h23]
       have h6:=hl m (by omega)
       have h7:=aBP (v:=bgt (cY b l) m) (p:=(23:Int).toNat) (by show -(2 ^ 23:Int) < _; omega) (by show _ < (2 ^ 23:Int); omega) (by decide)
       exact j8 (k:=1) (by omega) (by omega)
      omega
     ·exact h4
   have:=this 16 (by omega)
   omega
 have w0:=hw 0 (by omega)
 have w1:=hw 1 (by omega)
 have w2:=hw 2 (by omega)
 have w3:=hw 3 (by omega)
 have hlen:(dB b g s l).tones.length<=2:=h1
 unfold fT
 omega
end
section
theorem gG {a b:List Int} {n:Nat} (ha:a.length=n) (hb:b.length=n) (h:∀ j,j < n->bgt a j=bgt b j):a=b:=by
 refine (eN ha).trans (Eq.trans ?_ (eN hb).symm)
 apply List.map_congr_left
 intro j hj
 exact h j (List.mem_range.1 hj)
def jI (r j:Nat):Nat:=if j / 2 ^ r % 2=0 then j else j - 2 ^ r
def o8 (b:List Int) (r m:Nat):List Int:=(List.range 16).map fun j =>
 if jI r j < m then (if j / 2 ^ r % 2=0 then dG (bgt b j) (bgt b (j+2 ^ r)) (aQ j r) else dU (bgt b (j - 2 ^ r)) (bgt b j) (aQ (j - 2 ^ r) r)) else bgt b j
def mS (b:List Int) (r m:Nat):List Int:=(List.range 16).map fun j =>
 if jI r j < m then (if j / 2 ^ r % 2=0 then unA (bgt b j) (bgt b (j+2 ^ r)) (aQ j r) else unB (bgt b (j - 2 ^ r)) (bgt b j) (aQ (j - 2 ^ r) r)) else bgt b j
def EK (b:List Int) (r:Nat):List Int:=o8 b r 16
def CT (b:List Int) (r:Nat):List Int:=mS b r 16
def nO (b:List Int):List Int:=EK (EK (EK (EK b 0) 1) 2) 3
def kJ (b:List Int):List Int:=CT (CT (CT (CT b 3) 2) 1) 0
theorem lK (b:List Int) (r m:Nat):(o8 b r m).length=16:=by simp [o8]
theorem lA (b:List Int) (r m:Nat):(mS b r m).length=16:=by simp [mS]
theorem eH (b:List Int) (r m:Nat) {j:Nat} (hj:j < 16):bgt (o8 b r m) j =
  if jI r j < m then (if j / 2 ^ r % 2=0 then dG (bgt b j) (bgt b (j+2 ^ r)) (aQ j r) else dU (bgt b (j - 2 ^ r)) (bgt b j) (aQ (j - 2 ^ r) r)) else bgt b j:=aD (aJ _ hj)
theorem gT (b:List Int) (r m:Nat) {j:Nat} (hj:j < 16):bgt (mS b r m) j =
  if jI r j < m then (if j / 2 ^ r % 2=0 then unA (bgt b j) (bgt b (j+2 ^ r)) (aQ j r) else unB (bgt b (j - 2 ^ r)) (bgt b j) (aQ (j - 2 ^ r) r)) else bgt b j:=aD (aJ _ hj)
theorem l9 (b:List Int) (r:Nat):(EK b r).length=16:=lK _ _ _
theorem rM (b:List Int) (r:Nat):(CT b r).length=16:=lA _ _ _
theorem aDQ:∀ (r:Fin 4) (j:Fin 16),jI r.1 j.1 < 16/\(j.1 / 2 ^ r.1 % 2=0->j.1+2 ^ r.1 < 16/\(j.1+2 ^ r.1) / 2 ^ r.1 % 2=1/\jI r.1 (j.1+2 ^ r.1)=j.1/\jI r.1 j.1=j.1/\j.1+2 ^ r.1 - 2 ^ r.1=j.1) /\
  (¬ j.1 / 2 ^ r.1 % 2=0->(j.1 - 2 ^ r.1) / 2 ^ r.1 % 2=0/\j.1 - 2 ^ r.1+2 ^ r.1=j.1/\jI r.1 (j.1 - 2 ^ r.1)=j.1 - 2 ^ r.1):=by decide +kernel
theorem U3 (r:Nat) (hr:r < 4) (j:Nat) (hj:j < 16):jI r j < 16/\(j / 2 ^ r % 2=0->j+2 ^ r < 16/\(j+2 ^ r) / 2 ^ r % 2=1/\jI r (j+2 ^ r)=j/\jI r j=j/\j+2 ^ r - 2 ^ r=j) /\
  (¬ j / 2 ^ r % 2=0->(j - 2 ^ r) / 2 ^ r % 2=0/\j - 2 ^ r+2 ^ r=j/\jI r (j - 2 ^ r)=j - 2 ^ r):=aDQ ⟨r,hr⟩ ⟨j,hj⟩
theorem BB (b:List Int) {r:Nat} (hr:r < 4) (hb:b.length=16):CT (EK b r) r=b:=by
 rw [eN hb]
 unfold CT mS
 apply List.map_congr_left
 intro j hj
 have hj16:=List.mem_range.1 hj
 rw [<-eN hb]
 obtain ⟨m1,m2,m3⟩:=U3 r hr j hj16
 rw [if_pos m1]
 by_cases h:j / 2 ^ r % 2=0
 ·obtain ⟨n1,n2,n3,n4,n5⟩:=m2 h
  rw [if_pos h]
  unfold EK
  rw [eH b r 16 hj16,eH b r 16 n1,if_pos m1,if_pos h,if_pos (by rw [n3]; exact hj16),if_neg (by omega),n5]
  exact (sI _ _ _).1
 ·obtain ⟨n1,n2,n3⟩:=m3 h
  rw [if_neg h]
  unfold EK
  have hj2:j - 2 ^ r < 16:=Nat.lt_of_le_of_lt (Nat.sub_le _ _) hj16
  rw [eH b r 16 hj16,eH b r 16 hj2,if_pos m1,if_neg h,if_pos (by rw [n3]; exact hj2),if_pos n1,n2]
  exact (sI _ _ _).2
theorem aC2 (b:List Int) (hb:b.length=16):kJ (nO b)=b:=by
 unfold kJ nO
 rw [BB _ (by omega) (l9 _ _),BB _ (by omega) (l9 _ _),BB _ (by omega) (l9 _ _),BB _ (by omega) hb]
def Within (M:Int) (b:List Int):Prop:=∀ k,k < 16->-M<=bgt b k/\bgt b k<=M
theorem o7 {M N:Int} {b:List Int} (h:Within M b) (hN:3*M+8<=2*N) {r:Nat} (hr:r < 4):Within N (EK b r):=by
 intro j hj
 unfold EK
 rw [eH b r 16 hj]
 obtain ⟨m1,m2,m3⟩:=U3 r hr j hj
 have h0:=h j hj
 rw [if_pos m1]
 split
 ·rename_i h1
  obtain ⟨n1,_⟩:=m2 h1
  have h2:=h _ n1
  have:=(BV ((3*j+5*r) % 8) (by omega) (bgt b j) (bgt b (j+2 ^ r)) M h0.1 h0.2 h2.1 h2.2).1
  unfold aQ; omega
 ·rename_i h1
  have h2:=h (j - 2 ^ r) (Nat.lt_of_le_of_lt (Nat.sub_le _ _) hj)
  have:=(BV ((3*(j - 2 ^ r)+5*r) % 8) (by omega) (bgt b (j - 2 ^ r)) (bgt b j) M h2.1 h2.2 h0.1 h0.2).2
  unfold aQ; omega
theorem oN {M N:Int} {b:List Int} (h:Within M b) (hN:3*M+8<=2*N) {r:Nat} (hr:r < 4):Within N (CT b r):=by
 intro j hj
 unfold CT
 rw [gT b r 16 hj]
 obtain ⟨m1,m2,m3⟩:=U3 r hr j hj
 have h0:=h j hj
 rw [if_pos m1]
 split
 ·rename_i h1
  obtain ⟨n1,_⟩:=m2 h1
  have h2:=h _ n1
  have:=(vR ((3*j+5*r) % 8) (by omega) (bgt b j) (bgt b (j+2 ^ r)) M h0.1 h0.2 h2.1 h2.2).1
  unfold aQ; omega
 ·rename_i h1
  have h2:=h (j - 2 ^ r) (Nat.lt_of_le_of_lt (Nat.sub_le _ _) hj)
  have:=(vR ((3*(j - 2 ^ r)+5*r) % 8) (by omega) (bgt b (j - 2 ^ r)) (bgt b j) M h2.1 h2.2 h0.1 h0.2).2
  unfold aQ; omega
end
section
open Go.Lib (hid)
open Go.RowKit
theorem bY:(Tryz.prog.info? 45).map (·.size)=some 4:=by kernel_rfl
theorem m9:(Tryz.prog.info? 242).map (·.size)=some 4:=by kernel_rfl
def inB (hi:Int) (x:Int):Bool:=decide (0<=x) && decide (x<=hi)
theorem VQ (s:List Int):iZ s=s.all (inB 23):=rfl
theorem jP (s:List Int) (w:World) (hs:s.length=4) :
  Calls Tryz.prog 141 #[aT s] w fun e w'=>e=.returned (.bool (iZ s))/\Below w.heap.size w w':=by
 unfold aT
 rw [VQ]
 have HC:=hid (fun (k:Nat) (x:Int) (h:s[k]? = some x)=>eP h)
 have hsz:(s.map (Value.int .i64)).toArray.size=4:=by simp [hs]
 generalize (s.map (Value.int .i64)).toArray=cs at *
 have HF:=hid (show (Tryz.prog.info? 242).map (·.size)=some cs.size by rw [hsz]; exact m9)
 have Hs:=hid hs
 have hB:=hid (heap_alloc_new w (.cells cs 242))
 clear hs hsz
 go_enter Tryz.func141,Tryz.ntmps141
 go_wp2_with (refine aB rfl 242 (.tmp 1) rfl w.heap.size rfl _ cs _ _ hB.out Tryz.underlying242 rfl HF.out ?_)
 go_loop [6] (fun k=>∃ m:Nat,m<=4/\(s.take m).all (inB 23)=true/\k=.int .i64 m) (fun k=>(4 - (intOf k)).toNat)
 case atStart=>exact ⟨0,by omega,rfl,rfl⟩
 case round =>
  obtain ⟨m,hm,hall,rfl⟩:=hrel
  have HA:=hid hall
  clear hall
  by_cases hlt:m < 4
  ·have t1:(m:Int) < 4:=by omega
   obtain ⟨x,hx⟩:=aE (k:=m) Hs.out (by omega)
   have hix:=bR (P:=Tryz.prog) Tryz.underlying242 hlt (fun W=>by kernel_rfl) (fun W=>by kernel_rfl) (HC.out _ _ hx)
   have HT:=hid (fS (inB 23) hx)
   have HFa:=hid (fun h=>iS (inB 23) hx h)
   clear hx
   by_cases h0:x < 0
   ·have d0:decide (x < 0)=true:=decide_eq_true h0
    have hf:=hid (HFa.out (by unfold inB; rw [decide_eq_false (by omega)]; rfl))
    go_wp2
    go_ret
    exact ⟨dI hf.out.symm,aL _ _⟩
   ·have d0:decide (x < 0)=false:=decide_eq_false h0
    by_cases h1:23 < x
    ·have d1:decide (23 < x)=true:=decide_eq_true h1
     have hf:=hid (HFa.out (by unfold inB; rw [decide_eq_false (show ¬ x<=23 by omega),Bool.and_false]))
     go_wp2
     go_ret
     exact ⟨dI hf.out.symm,aL _ _⟩
    ·have d1:decide (23 < x)=false:=decide_eq_false h1
     have hf:=hid (show inB 23 x=true by unfold inB; rw [decide_eq_true (show 0<=x by omega),decide_eq_true (show x<=23 by omega)]; rfl)
     go_wp2
     go_round
     case rel=>exact ⟨m+1,by omega,by rw [HT.out,HA.out,hf.out]; rfl,by go_num⟩
     case measure=>simp [intOf]; omega
  ·have t1:¬ ((m:Int) < 4):=by omega
   have hf:=hid (gE (inB 23) (l:=s) (k:=m) (by rw [Hs.out]; omega) HA.out)
   go_wp2
   go_ret
   exact ⟨dI hf.out.symm,aL _ _⟩
def gY (g:List Int):Bool:=g.all (inB 3)
theorem oI (s:List Int) (w:World) (hs:s.length=4) :
  Calls Tryz.prog 139 #[aT s] w fun e w'=>e=.returned (.bool (gY s))/\Below w.heap.size w w':=by
 unfold aT gY
 have HC:=hid (fun (k:Nat) (x:Int) (h:s[k]? = some x)=>eP h)
 have hsz:(s.map (Value.int .i64)).toArray.size=4:=by simp [hs]
 generalize (s.map (Value.int .i64)).toArray=cs at *
 have HF:=hid (show (Tryz.prog.info? 45).map (·.size)=some cs.size by rw [hsz]; exact bY)
 have Hs:=hid hs
 have hB:=hid (heap_alloc_new w (.cells cs 45))
 clear hs hsz
 go_enter Tryz.func139,Tryz.ntmps139
 go_wp2_with (refine aB rfl 45 (.tmp 1) rfl w.heap.size rfl _ cs _ _ hB.out Tryz.underlying45 rfl HF.out ?_)
 go_loop [6] (fun k=>∃ m:Nat,m<=4/\(s.take m).all (inB 3)=true/\k=.int .i64 m) (fun k=>(4 - (intOf k)).toNat)
 case atStart=>exact ⟨0,by omega,rfl,rfl⟩
 case round =>
  obtain ⟨m,hm,hall,rfl⟩:=hrel
  have HA:=hid hall
  clear hall
  by_cases hlt:m < 4
  ·have t1:(m:Int) < 4:=by omega
   obtain ⟨x,hx⟩:=aE (k:=m) Hs.out (by omega)
   have hix:=bR (P:=Tryz.prog) Tryz.underlying45 hlt (fun W=>by kernel_rfl) (fun W=>by kernel_rfl) (HC.out _ _ hx)
   have HT:=hid (fS (inB 3) hx)
   have HFa:=hid (fun h=>iS (inB 3) hx h)
   clear hx
   by_cases h0:x < 0
   ·have d0:decide (x < 0)=true:=decide_eq_true h0
    have hf:=hid (HFa.out (by unfold inB; rw [decide_eq_false (by omega)]; rfl))
    go_wp2
    go_ret
    exact ⟨dI hf.out.symm,aL _ _⟩
   ·have d0:decide (x < 0)=false:=decide_eq_false h0
    by_cases h1:3 < x
    ·have d1:decide (3 < x)=true:=decide_eq_true h1
     have hf:=hid (HFa.out (by unfold inB; rw [decide_eq_false (show ¬ x<=3 by omega),Bool.and_false]))
     go_wp2
     go_ret
     exact ⟨dI hf.out.symm,aL _ _⟩
    ·have d1:decide (3 < x)=false:=decide_eq_false h1
     have hf:=hid (show inB 3 x=true by unfold inB; rw [decide_eq_true (show 0<=x by omega),decide_eq_true (show x<=3 by omega)]; rfl)
     go_wp2
     go_round
     case rel=>exact ⟨m+1,by omega,by rw [HT.out,HA.out,hf.out]; rfl,by go_num⟩
     case measure=>simp [intOf]; omega
  ·have t1:¬ ((m:Int) < 4):=by omega
   have hf:=hid (gE (inB 3) (l:=s) (k:=m) (by rw [Hs.out]; omega) HA.out)
   go_wp2
   go_ret
   exact ⟨dI hf.out.symm,aL _ _⟩
theorem aA0 (k:Nat) (w:World) (hk:k<=23) :
  Calls Tryz.prog 214 #[.int .i64 k] w fun e w'=>e=.returned (.int .i64 (2 ^ k))/\w=w':=by
 have hd1:(2:Int) ^ k<=8388608:=by
  rw [show (2:Int) ^ k=((2 ^ k:Nat):Int) by rw [Int.natCast_pow]; rfl]
  exact Int.ofNat_le.2 (Nat.pow_le_pow_right (by decide) hk)
 have hd0:(0:Int) < 2 ^ k:=Int.pow_pos (by decide)
 have hx1:IntKind.i64.wrap (2 ^ k)=2 ^ k:=IntWalk.i64_in _ (by omega)
 have t1:decide ((k:Int) < 0)=false:=decide_eq_false (by omega)
 have t2:decide (23 < (k:Int))=false:=decide_eq_false (by omega)
 clear hd1 hd0
 go_enter Tryz.func214,Tryz.ntmps214
 go_wp2
 go_ret
 exact ⟨rfl,rfl⟩
end
section
open Go.Lib (hid)
open Go.RowKit
theorem SI (v:Int) (p:Nat) (w:World) (h1:-4611686018427387904<=v) (h2:v<=4611686018427387904) (hp:p<=61) :
  Calls Tryz.prog 288 #[.int .i64 v,.int .i64 p] w fun e w'=>e=.returned (.int .i64 (iJ v p))/\Below w.heap.size w w' :=
 (aAU v p w h1 h2 hp).mono fun e w' ⟨he,n,hn⟩=>⟨he,by rw [hn]; exact below_drewN (Below.refl _ _) n⟩
theorem BigB.get {b:List Int} (h:BigB b) {k:Nat} {x:Int} (hx:b[k]? = some x):-4611686018427387904<=x/\x<=4611686018427387904:=h k x hx
theorem YB (b s:List Int) (w:World) (hb:b.length=16) (hs:s.length=4) (hr:BigB b) (hok:iZ s=true) :
  Calls Tryz.prog 277 #[aT b,aT s] w fun e w'=>e=.returned (aT (cF b s 16))/\Below w.heap.size w w':=by
 have HR:=hid (fun W=>jP s W hs)
 have HQ:=hid (fun (k:Nat) (x:Int) (hx:s[k]? = some x)=>(show 0<=x/\x<=23 by
  unfold iZ at hok
  rw [List.all_eq_true] at hok
  have:=hok x (List.mem_of_getElem? hx)
  simp at this; exact this))
 rw [hok] at HR
 clear hok
 unfold aT at *
 have HC:=hid (fun (k:Nat) (x:Int) (h:s[k]? = some x)=>eP h)
 have hsz:(s.map (Value.int .i64)).toArray.size=4:=by simp [hs]
 generalize (s.map (Value.int .i64)).toArray=cs at *
 have HF:=hid (show (Tryz.prog.info? 242).map (·.size)=some cs.size by rw [hsz]; exact m9)
 have Hs:=hid hs
 have Hb:=hid hb
 have Hr:=hid hr
 have HB0:=hid (Blk.new w 48 (b.map (Value.int .i64)))
 have HS1:=hid (heap_alloc_new (w.alloc (.cells (b.map (Value.int .i64)).toArray 48)) (.cells cs 242))
 have Hb3:=hid (((aL w (.cells (b.map (Value.int .i64)).toArray 48)).alloc (by simp) (.cells cs 242)).alloc (by simp; omega) (.cells (List.replicate 16 (Value.int .i64 0)).toArray 48))
 rw [World.size_alloc] at HS1
 clear hs hsz hb hr
 go_enter Tryz.func277,Tryz.ntmps277
 go_wp2_with (first | (go_at_call 141; fail) | (refine aB rfl 242 (.tmp 3) rfl (w.heap.size+1) rfl _ cs _ _ (by exact (heap_alloc_old _ _ (by simp)).trans HS1.out) Tryz.underlying242 rfl HF.out ?_))
 refine (HR.out _).mono ?_
 rintro e w1 ⟨rfl,hbb⟩
 have hb1:=aC Hb3.out hbb
 have hB1:=((HB0.out.alloc (.cells cs 242)).alloc (.cells (List.replicate 16 (Value.int .i64 0)).toArray 48)).below hbb (by simp; omega)
 have hS1:=(hbb.block (w.heap.size+1) (by simp)).trans ((heap_alloc_old _ (.cells (List.replicate 16 (Value.int .i64 0)).toArray 48) (by simp)).trans HS1.out)
 have hZ1:=(Blk.new ((w.alloc (.cells (b.map (Value.int .i64)).toArray 48)).alloc (.cells cs 242)) 48 (List.replicate 16 (.int .i64 0))).below hbb (by simp)
 simp only [World.size_alloc] at hZ1
 have hsz1:=hbb.size
 simp at hsz1
 have Hb1:=hid hb1
 have HB1:=hid hB1
 have HZ1:=hid hZ1
 have HS1:=hid hS1
 clear hbb hb1 hB1 hS1 hZ1 HB0 Hb3
 go_wp2_with fail
 go_loopw [10] (fun i wr=>∃ (m:Nat),m<=16/\i=.int .i64 m/\Blk wr w.heap.size 48 ((cF b s m).map (Value.int .i64))/\wr.heap[w.heap.size+1]? = some (.cells cs 242 (0,0))/\Blk wr (w.heap.size+1+1) 48 (List.replicate 16 (.int .i64 0))/\Below w.heap.size w wr/\w.heap.size+3<=wr.heap.size) (fun i _=>16 - (intOf i).toNat)
 case atStart=>exact ⟨0,by omega,rfl,by rw [MD s Hb.out]; exact HB1.out,HS1.out,HZ1.out,Hb1.out,by omega⟩
 case round =>
  obtain ⟨m,hm,rfl,hB,hS,hZ,hbel,hsz⟩:=hrel
  have HB:=hid hB
  have HS:=hid hS
  have HZ:=hid hZ
  have Hbel:=hid hbel
  by_cases hlt:m < 16
  ·obtain ⟨x,hx⟩:=aE (k:=m) Hb.out hlt
   obtain ⟨q,hq⟩:∃ q,m / 4=q:=⟨_,rfl⟩
   have hq4:q < 4:=by omega
   obtain ⟨p,hp⟩:=aE (k:=q) Hs.out hq4
   have hpb:=HQ.out q p hp
   obtain ⟨hp0,hp1⟩:=hpb
   obtain ⟨k,rfl⟩:=Int.eq_ofNat_of_zero_le hp0
   have HBand:=hid (show ∀ W,Calls Tryz.prog 98 #[.int .i64 m] W fun e w'=>e=.returned (.int .i64 (q:Int))/\W=w' from fun W=>(oK m W hlt).mono fun e w' ⟨he,hw⟩=>⟨he.trans (cE (by omega)),hw⟩)
   have hxb:=Hr.out.get hx
   have HNear:=hid (fun W=>SI x k W hxb.1 hxb.2 (by omega))
   have HSt:=hid (show (cF b s m).set m (iJ x k)=cF b s (m+1) by
    rw [<-MC b s hlt,aD hx,hq,aD hp,Int.toNat_natCast])
   have hc1:=HC.out q _ hp
   have hc2:((cF b s m).map (Value.int .i64))[m]? = some (.int .i64 x):=by rw [List.getElem?_map,Q7 b s hlt (Nat.le_refl m) hx]; rfl
   have t1:(m:Int) < 16:=by omega
   have hx5:=jY hB
   have hy5:=dW hS
   clear hx hq hp hp0 hB hS hZ hbel
   generalize iJ x k=y at *
   go_wp2_with fail
   refine aI 10 (by kernel_rfl) (by kernel_rfl) ?_
   simp only [List.take_succ_cons,List.take_zero,List.drop_succ_cons,List.drop_zero]
   repeat (go_big_quiet_step ((first | (go_at_call 98; exact cR (HBand.out _)) | (go_at_call 288; exact bZ (HNear.out _)))))
   refine wpQuiet_nil ?_
   intro w5 hw'
   have hb5:=aK hw'
   have hB5:=HB.out.below hb5 HB.out.lt
   have hZ5:=HZ.out.below hb5 HZ.out.lt
   have hS5:=(hb5.block (w.heap.size+1) (by omega)).trans HS.out
   have HB5:=hid hB5
   have HZ5:=hid hZ5
   have HS5:=hid hS5
   have Hb5:=hid (aC Hbel.out hb5)
   have hsz5:=Nat.le_trans hsz hb5.size
   have ce:w5.cell? ⟨w.heap.size,m,none⟩=some (.int .i64 x):=by rw [hB5.cell]; exact hc2
   have fz:=hB5.frozen m
   clear hw' hb5 hx5 hy5 hB5 hZ5 hS5
   go_wp2
   go_roundw
   case rel =>
    refine ⟨m+1,by omega,by go_num,?_,(Below.heap_setCell w5 ⟨w.heap.size,m,none⟩ _ (w.heap.size+1) (by simp)).trans HS5.out,HZ5.out.far (by simp; omega) _,Hb5.out.setCell (by simp) _,by simp; omega⟩
    rw [<-HSt.out,List.map_set]
    exact HB5.out.set_ m _
   case measure=>simp [intOf]; omega
  ·have hm16:m=16:=by omega
   subst hm16
   have t1:¬ (((16:Nat):Int) < 16):=by omega
   have hH:=hid (show wr.heap[w.heap.size]? = some (.cells ((cF b s 16).map (Value.int .i64)).toArray 48 (0,0)) from HB.out)
   have hH2:=hid (show wr.heap[w.heap.size+1+1]? = some (.cells (List.replicate 16 (Value.int .i64 0)).toArray 48 (0,0)) from HZ.out)
   have H1:=hid (e9 (cF b s 16))
   have hsz2:((cF b s 16).map (Value.int .i64)).toArray.size=16:=by simp [j7]
   obtain ⟨xs,hxs⟩:∃ xs,((cF b s 16).map (Value.int .i64)).toArray=xs:=⟨_,rfl⟩
   rw [hxs] at hH H1 hsz2
   have HE:=hid hxs
   clear hxs
   have HF2:=hid (show (Tryz.prog.info? 48).map (·.size)=some xs.size by rw [hsz2]; exact bS)
   have Hsz:=hid hsz2
   clear hsz2
   go_wp2_with (first | (refine aB rfl 48 (.tmp 2) rfl w.heap.size rfl _ xs _ _ hH.out Tryz.underlying48 rfl HF2.out ?_) | (refine aA rfl 48 (.tmp 4) (.tmp 24) rfl (w.heap.size+1+1) rfl _ _ xs rfl hH2.out HF2.out (by rw [Hsz.out]; simp) H1.out ?_))
   refine bodyPost_ret (v:=.agg xs) (results_cell_row Tryz.results277 _ _ (w.heap.size+1+1) 48 xs (0,0) _ rfl (bB wr _ _ _ xs hH2.out) Tryz.underlying48 rfl HF2.out) rfl ?_
   exact ⟨by rw [<-HE.out],aO Hbel.out _ (by omega) _⟩
end
section
open Go.Lib (hid)
open Go.RowKit
theorem aAB {x:Int} {k:Nat} (h:-68719476736<=x/\x<=68719476736) (hk:k<=23):IntKind.i64.wrap (x*2 ^ k)=x*2 ^ k:=by
 have h1:(2:Int) ^ k<=8388608:=by
  rw [show (2:Int) ^ k=((2 ^ k:Nat):Int) by rw [Int.natCast_pow]; rfl]
  exact Int.ofNat_le.2 (Nat.pow_le_pow_right (by decide) hk)
 have h0:(0:Int) < 2 ^ k:=Int.pow_pos (by decide)
 generalize (2:Int) ^ k=s at *
 have a1:x*s<=68719476736*s:=Int.mul_le_mul_of_nonneg_right h.2 (by omega)
 have a2:-68719476736*s<=x*s:=Int.mul_le_mul_of_nonneg_right h.1 (by omega)
 exact IntWalk.i64_in _ (by omega)
theorem SO (b s:List Int) (w:World) (hb:b.length=16) (hs:s.length=4) (hr:∀ (k:Nat) (x:Int),b[k]? = some x->-68719476736<=x/\x<=68719476736) (hok:iZ s=true) :
  Calls Tryz.prog 189 #[aT b,aT s] w fun e w'=>e=.returned (aT (bH b s 16))/\Below w.heap.size w w':=by
 have HR:=hid (fun W=>jP s W hs)
 have HQ:=hid (fun (k:Nat) (x:Int) (hx:s[k]? = some x)=>(show 0<=x/\x<=23 by
  unfold iZ at hok
  rw [List.all_eq_true] at hok
  have:=hok x (List.mem_of_getElem? hx)
  simp at this; exact this))
 rw [hok] at HR
 clear hok
 unfold aT at *
 have HC:=hid (fun (k:Nat) (x:Int) (h:s[k]? = some x)=>eP h)
 have hsz:(s.map (Value.int .i64)).toArray.size=4:=by simp [hs]
 generalize (s.map (Value.int .i64)).toArray=cs at *
 have HF:=hid (show (Tryz.prog.info? 242).map (·.size)=some cs.size by rw [hsz]; exact m9)
 have Hs:=hid hs
 have Hb:=hid hb
 have Hr:=hid hr
 have HB0:=hid (Blk.new w 48 (b.map (Value.int .i64)))
 have HS1:=hid (heap_alloc_new (w.alloc (.cells (b.map (Value.int .i64)).toArray 48)) (.cells cs 242))
 have Hb3:=hid (((aL w (.cells (b.map (Value.int .i64)).toArray 48)).alloc (by simp) (.cells cs 242)).alloc (by simp; omega) (.cells (List.replicate 16 (Value.int .i64 0)).toArray 48))
 rw [World.size_alloc] at HS1
 clear hs hsz hb hr
 go_enter Tryz.func189,Tryz.ntmps189
 go_wp2_with (first | (go_at_call 141; fail) | (refine aB rfl 242 (.tmp 3) rfl (w.heap.size+1) rfl _ cs _ _ (by exact (heap_alloc_old _ _ (by simp)).trans HS1.out) Tryz.underlying242 rfl HF.out ?_))
 refine (HR.out _).mono ?_
 rintro e w1 ⟨rfl,hbb⟩
 have hb1:=aC Hb3.out hbb
 have hB1:=((HB0.out.alloc (.cells cs 242)).alloc (.cells (List.replicate 16 (Value.int .i64 0)).toArray 48)).below hbb (by simp; omega)
 have hS1:=(hbb.block (w.heap.size+1) (by simp)).trans ((heap_alloc_old _ (.cells (List.replicate 16 (Value.int .i64 0)).toArray 48) (by simp)).trans HS1.out)
 have hZ1:=(Blk.new ((w.alloc (.cells (b.map (Value.int .i64)).toArray 48)).alloc (.cells cs 242)) 48 (List.replicate 16 (.int .i64 0))).below hbb (by simp)
 simp only [World.size_alloc] at hZ1
 have hsz1:=hbb.size
 simp at hsz1
 have Hb1:=hid hb1
 have HB1:=hid hB1
 have HZ1:=hid hZ1
 have HS1:=hid hS1
 clear hbb hb1 hB1 hS1 hZ1 HB0 Hb3
 go_wp2_with fail
 go_loopw [10] (fun i wr=>∃ (m:Nat),m<=16/\i=.int .i64 m/\Blk wr w.heap.size 48 ((bH b s m).map (Value.int .i64))/\wr.heap[w.heap.size+1]? = some (.cells cs 242 (0,0))/\Blk wr (w.heap.size+1+1) 48 (List.replicate 16 (.int .i64 0))/\Below w.heap.size w wr/\w.heap.size+3<=wr.heap.size) (fun i _=>16 - (intOf i).toNat)
 case atStart=>exact ⟨0,by omega,rfl,by rw [uB s Hb.out]; exact HB1.out,HS1.out,HZ1.out,Hb1.out,by omega⟩
 case round =>
  obtain ⟨m,hm,rfl,hB,hS,hZ,hbel,hsz⟩:=hrel
  have HB:=hid hB
  have HS:=hid hS
  have HZ:=hid hZ
  have Hbel:=hid hbel
  by_cases hlt:m < 16
  ·obtain ⟨x,hx⟩:=aE (k:=m) Hb.out hlt
   obtain ⟨q,hq⟩:∃ q,m / 4=q:=⟨_,rfl⟩
   have hq4:q < 4:=by omega
   obtain ⟨p,hp⟩:=aE (k:=q) Hs.out hq4
   have hpb:=HQ.out q p hp
   obtain ⟨hp0,hp1⟩:=hpb
   obtain ⟨k,rfl⟩:=Int.eq_ofNat_of_zero_le hp0
   have HBand:=hid (show ∀ W,Calls Tryz.prog 98 #[.int .i64 m] W fun e w'=>e=.returned (.int .i64 (q:Int))/\W=w' from fun W=>(oK m W hlt).mono fun e w' ⟨he,hw⟩=>⟨he.trans (cE (by omega)),hw⟩)
   have HNear:=hid (fun W=>aA0 k W (by omega))
   have hwr:=aAB (Hr.out m x hx) (show k<=23 by omega)
   have HSt:=hid (show (bH b s m).set m (x*2 ^ k)=bH b s (m+1) by
    rw [<-uA b s hlt,aD hx,hq,aD hp,Int.toNat_natCast])
   have hc1:=HC.out q _ hp
   have hc2:((bH b s m).map (Value.int .i64))[m]? = some (.int .i64 x):=by rw [List.getElem?_map,xD b s hlt (Nat.le_refl m) hx]; rfl
   have t1:(m:Int) < 16:=by omega
   have hx5:=jY hB
   have hy5:=dW hS
   clear hx hq hp hp0 hB hS hZ hbel
   obtain ⟨s2,hs2⟩:∃ s2:Int,(2:Int) ^ k=s2:=⟨_,rfl⟩
   rw [hs2] at HNear HSt hwr
   clear hs2
   go_wp2_with fail
   refine aI 10 (by kernel_rfl) (by kernel_rfl) ?_
   simp only [List.take_succ_cons,List.take_zero,List.drop_succ_cons,List.drop_zero]
   repeat (go_big_quiet_step ((first | (go_at_call 98; exact cR (HBand.out _)) | (go_at_call 214; exact cR (HNear.out _)))))
   refine wpQuiet_nil ?_
   intro w5 hw'
   have hb5:=aK hw'
   have hB5:=HB.out.below hb5 HB.out.lt
   have hZ5:=HZ.out.below hb5 HZ.out.lt
   have hS5:=(hb5.block (w.heap.size+1) (by omega)).trans HS.out
   have HB5:=hid hB5
   have HZ5:=hid hZ5
   have HS5:=hid hS5
   have Hb5:=hid (aC Hbel.out hb5)
   have hsz5:=Nat.le_trans hsz hb5.size
   have ce:w5.cell? ⟨w.heap.size,m,none⟩=some (.int .i64 x):=by rw [hB5.cell]; exact hc2
   have fz:=hB5.frozen m
   clear hw' hb5 hx5 hy5 hB5 hZ5 hS5
   go_wp2
   go_roundw
   case rel =>
    refine ⟨m+1,by omega,by go_num,?_,(Below.heap_setCell w5 ⟨w.heap.size,m,none⟩ _ (w.heap.size+1) (by simp)).trans HS5.out,HZ5.out.far (by simp; omega) _,Hb5.out.setCell (by simp) _,by simp; omega⟩
    rw [<-HSt.out,List.map_set]
    exact HB5.out.set_ m _
   case measure=>simp [intOf]; omega
  ·have hm16:m=16:=by omega
   subst hm16
   have t1:¬ (((16:Nat):Int) < 16):=by omega
   have hH:=hid (show wr.heap[w.heap.size]? = some (.cells ((bH b s 16).map (Value.int .i64)).toArray 48 (0,0)) from HB.out)
   have hH2:=hid (show wr.heap[w.heap.size+1+1]? = some (.cells (List.replicate 16 (Value.int .i64 0)).toArray 48 (0,0)) from HZ.out)
   have H1:=hid (e9 (bH b s 16))
   have hsz2:((bH b s 16).map (Value.int .i64)).toArray.size=16:=by simp [kU]
   obtain ⟨xs,hxs⟩:∃ xs,((bH b s 16).map (Value.int .i64)).toArray=xs:=⟨_,rfl⟩
   rw [hxs] at hH H1 hsz2
   have HE:=hid hxs
   clear hxs
   have HF2:=hid (show (Tryz.prog.info? 48).map (·.size)=some xs.size by rw [hsz2]; exact bS)
   have Hsz:=hid hsz2
   clear hsz2
   go_wp2_with (first | (refine aB rfl 48 (.tmp 2) rfl w.heap.size rfl _ xs _ _ hH.out Tryz.underlying48 rfl HF2.out ?_) | (refine aA rfl 48 (.tmp 4) (.tmp 24) rfl (w.heap.size+1+1) rfl _ _ xs rfl hH2.out HF2.out (by rw [Hsz.out]; simp) H1.out ?_))
   refine bodyPost_ret (v:=.agg xs) (results_cell_row Tryz.results189 _ _ (w.heap.size+1+1) 48 xs (0,0) _ rfl (bB wr _ _ _ xs hH2.out) Tryz.underlying48 rfl HF2.out) rfl ?_
   exact ⟨by rw [<-HE.out],aO Hbel.out _ (by omega) _⟩
theorem SR (b:List Int) (w:World) (hb:b.length=16) (hr:BigB b) :
  Calls Tryz.prog 278 #[aT b] w fun e w'=>e=.returned (aT (jS b))/\Below w.heap.size w w':=by
 unfold aT
 have HC:=hid (fun (k:Nat) (x:Int) (h:b[k]? = some x)=>eP h)
 have hsz:(b.map (Value.int .i64)).toArray.size=16:=by simp [hb]
 generalize (b.map (Value.int .i64)).toArray=cs at *
 have HF:=hid (show (Tryz.prog.info? 48).map (·.size)=some cs.size by rw [hsz]; exact bS)
 have Hb:=hid hb
 have Hr:=hid hr
 have HB0:=hid (heap_alloc_new w (.cells cs 48))
 clear hsz hb hr
 go_enter Tryz.func278,Tryz.ntmps278
 go_wp2_with (refine aB rfl 48 (.tmp 1) rfl w.heap.size rfl _ cs _ _ (by exact (heap_alloc_old _ _ (by simp only [World.size_alloc]; omega)).trans ((heap_alloc_old _ _ (by simp only [World.size_alloc]; omega)).trans HB0.out)) Tryz.underlying48 rfl HF.out ?_)
 go_loopw [7] (fun i wr=>∃ (m:Nat),m<=16/\i=.int .i64 m/\Blk wr (w.heap.size+1) 45 (List.replicate 4 (.int .i64 0))/\Blk wr (w.heap.size+1+1) 45 ((fR b m).map (Value.int .i64))/\Below w.heap.size w wr/\w.heap.size+3<=wr.heap.size) (fun i _=>16 - (intOf i).toNat)
 case atStart =>
  refine ⟨0,by omega,rfl,?_,?_,((aL _ _).alloc (by simp only [World.size_alloc]; omega) _).alloc (by simp only [World.size_alloc]; omega) _,by simp only [World.size_alloc]; omega⟩
  ·have:=(Blk.new (w.alloc (.cells cs 48)) 45 (List.replicate 4 (.int .i64 0))).alloc (.cells (List.replicate 4 (.int .i64 0)).toArray 45)
   rw [World.size_alloc] at this
   exact this
  ·have:=Blk.new ((w.alloc (.cells cs 48)).alloc (.cells (List.replicate 4 (.int .i64 0)).toArray 45)) 45 (List.replicate 4 (.int .i64 0))
   rw [World.size_alloc,World.size_alloc] at this
   exact this
 case round =>
  obtain ⟨m,hm,rfl,hZ,hB,hbel,hsz⟩:=hrel
  have HB:=hid hB
  have HZ:=hid hZ
  have Hbel:=hid hbel
  by_cases hlt:m < 16
  ·obtain ⟨x,hx⟩:=aE (k:=m) Hb.out hlt
   obtain ⟨q,hq⟩:∃ q,m / 4=q:=⟨_,rfl⟩
   have hq4:q < 4:=by omega
   have HBand:=hid (show ∀ W,Calls Tryz.prog 98 #[.int .i64 m] W fun e w'=>e=.returned (.int .i64 (q:Int))/\W=w' from fun W=>(oK m W hlt).mono fun e w' ⟨he,hw⟩=>⟨he.trans (cE (by omega)),hw⟩)
   have hxb:=Hr.out.get hx
   have HWd:=hid (fun W=>xL x W (by omega) (by omega))
   have HSt:=hid (show (fR b m).set q (max (gL b m q) (cB x):Nat)=fR b (m+1) by
    rw [<-IC b m hlt,aD hx,hq])
   obtain ⟨V,hV⟩:∃ V:Nat,cB x=V:=⟨_,rfl⟩
   obtain ⟨U,hU⟩:∃ U:Nat,gL b m q=U:=⟨_,rfl⟩
   rw [hV] at HWd HSt
   rw [hU] at HSt
   have hc2:((fR b m).map (Value.int .i64))[q]? = some (.int .i64 (U:Int)):=by rw [List.getElem?_map,xF b m hq4,hU]; rfl
   have hix:=bR (P:=Tryz.prog) Tryz.underlying48 hlt (fun W=>by kernel_rfl) (fun W=>by kernel_rfl) (HC.out _ _ hx)
   have hmax:max (U:Int) (V:Int)=((max U V:Nat):Int):=by omega
   have t1:(m:Int) < 16:=by omega
   have hx5:=jY hB
   clear hx hq hB hZ hbel hV hU
   generalize max U V=M at *
   go_wp2_with fail
   refine aI 10 (by kernel_rfl) (by kernel_rfl) ?_
   simp only [List.take_succ_cons,List.take_zero,List.drop_succ_cons,List.drop_zero]
   repeat (go_big_quiet_step ((first | (go_at_call 98; exact cR (HBand.out _)) | (go_at_call 237; exact cR (HWd.out _)))))
   refine wpQuiet_nil ?_
   intro w5 hw'
   have hb5:=aK hw'
   have hB5:=HB.out.below hb5 HB.out.lt
   have hZ5:=HZ.out.below hb5 HZ.out.lt
   have HB5:=hid hB5
   have HZ5:=hid hZ5
   have Hb5:=hid (aC Hbel.out hb5)
   have hsz5:=Nat.le_trans hsz hb5.size
   have ce:w5.cell? ⟨w.heap.size+1+1,q,none⟩=some (.int .i64 (U:Int)):=by rw [hB5.cell]; exact hc2
   have fz:=hB5.frozen q
   clear hw' hb5 hx5 hB5 hZ5
   go_wp2
   go_roundw
   case rel =>
    refine ⟨m+1,by omega,by go_num,HZ5.out.far (by simp) _,?_,Hb5.out.setCell (by simp; omega) _,by simp; omega⟩
    rw [<-HSt.out,List.map_set]
    exact HB5.out.set_ q _
   case measure=>simp [intOf]; omega
  ·have hm16:m=16:=by omega
   subst hm16
   have t1:¬ (((16:Nat):Int) < 16):=by omega
   have hH:=hid (show wr.heap[w.heap.size+1+1]? = some (.cells ((fR b 16).map (Value.int .i64)).toArray 45 (0,0)) from HB.out)
   have hH2:=hid (show wr.heap[w.heap.size+1]? = some (.cells (List.replicate 4 (Value.int .i64 0)).toArray 45 (0,0)) from HZ.out)
   have H1:=hid (e9 (fR b 16))
   have hsz2:((fR b 16).map (Value.int .i64)).toArray.size=4:=by simp [gM]
   obtain ⟨xs,hxs⟩:∃ xs,((fR b 16).map (Value.int .i64)).toArray=xs:=⟨_,rfl⟩
   rw [hxs] at hH H1 hsz2
   have HE:=hid hxs
   clear hxs
   have HF2:=hid (show (Tryz.prog.info? 45).map (·.size)=some xs.size by rw [hsz2]; exact bY)
   have Hsz:=hid hsz2
   clear hsz2
   go_wp2_with (first | (refine aB rfl 45 (.tmp 3) rfl (w.heap.size+1+1) rfl _ xs _ _ hH.out Tryz.underlying45 rfl HF2.out ?_) | (refine aA rfl 45 (.tmp 2) (.tmp 22) rfl (w.heap.size+1) rfl _ _ xs rfl hH2.out HF2.out (by rw [Hsz.out]; simp) H1.out ?_))
   refine bodyPost_ret (v:=.agg xs) (results_cell_row Tryz.results278 _ _ (w.heap.size+1) 45 xs (0,0) _ rfl (bB wr _ _ _ xs hH2.out) Tryz.underlying45 rfl HF2.out) rfl ?_
   exact ⟨by rw [<-HE.out]; rfl,aO Hbel.out _ (by omega) _⟩
def jV (w:List Int):Nat->Int
 | 0=>0
 | m+1=>jV w m+4*bgt w m
theorem aAM (wd:List Int) (w:World) (hb:wd.length=4) (hr:∀ (k:Nat) (x:Int),wd[k]? = some x->0<=x/\x<=1000) :
  Calls Tryz.prog 279 #[aT wd] w fun e w'=>e=.returned (.int .i64 (4*(bgt wd 0+bgt wd 1+bgt wd 2+bgt wd 3)))/\Below w.heap.size w w':=by
 unfold aT
 have HC:=hid (fun (k:Nat) (x:Int) (h:wd[k]? = some x)=>eP h)
 have hsz:(wd.map (Value.int .i64)).toArray.size=4:=by simp [hb]
 generalize (wd.map (Value.int .i64)).toArray=cs at *
 have HF:=hid (show (Tryz.prog.info? 45).map (·.size)=some cs.size by rw [hsz]; exact bY)
 have Hb:=hid hb
 have Hr:=hid hr
 have HB0:=hid (heap_alloc_new w (.cells cs 45))
 clear hsz hb hr
 go_enter Tryz.func279,Tryz.ntmps279
 go_wp2_with (refine aB rfl 45 (.tmp 1) rfl w.heap.size rfl _ cs _ _ HB0.out Tryz.underlying45 rfl HF.out ?_)
 go_loop [3,7] (fun n i=>∃ (m:Nat),m<=4/\i=.int .i64 m/\n=.int .i64 (jV wd m)/\0<=jV wd m/\jV wd m<=4000*(m:Int)) (fun _ i=>4 - (intOf i).toNat)
 case atStart=>exact ⟨0,by omega,rfl,rfl,by simp [jV],by simp [jV]⟩
 case round =>
  obtain ⟨m,hm,rfl,rfl,h0,h1⟩:=hrel
  by_cases hlt:m < 4
  ·obtain ⟨x,hx⟩:=aE (k:=m) Hb.out hlt
   have hxb:=Hr.out m x hx
   have HS:=hid (show jV wd (m+1)=jV wd m+4*x by rw [<-aD hx]; rfl)
   have hix:=bR (P:=Tryz.prog) Tryz.underlying45 hlt (fun W=>by kernel_rfl) (fun W=>by kernel_rfl) (HC.out _ _ hx)
   have t1:(m:Int) < 4:=by omega
   generalize jV wd m=C at *
   clear hx
   go_wp2
   go_round
   case rel=>exact ⟨m+1,by omega,by go_num,jB (by rw [HS.out]),by rw [HS.out]; omega,by rw [HS.out]; omega⟩
   case measure=>simp [intOf]; omega
  ·have hm4:m=4:=by omega
   subst hm4
   have t1:¬ (((4:Nat):Int) < 4):=by omega
   have HE:=hid (show jV wd 4=4*(bgt wd 0+bgt wd 1+bgt wd 2+bgt wd 3) by unfold jV jV jV jV jV; omega)
   go_wp2
   go_ret
   exact ⟨cE HE.out,aL _ _⟩
end
end Go.Proofs.YtnbbfblaipjcmaaGreatDoor
