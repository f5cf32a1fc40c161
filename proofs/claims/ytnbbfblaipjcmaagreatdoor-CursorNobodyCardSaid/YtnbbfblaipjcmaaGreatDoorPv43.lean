/- ParP, ParQ, ParA, ParG, ParH. Conditions: as each theorem states. -/
import Derived.Lib.TrimByte
import Derived.Lib.SlBy2
import Derived.Test.YtnbbfblaipjcmaaGreatDoorPv41
import Derived.Test.YtnbbfblaipjcmaaGreatDoorPv38
namespace Go.Proofs.YtnbbfblaipjcmaaGreatDoor
section
open Go.RowKit Go.Lib
theorem wO {bs xs:List Nat} {o:Nat} (h:o+xs.length<=bs.length) (i:Nat):(aS bs o xs).getD i 0=if o<=i/\i < o+xs.length then xs.getD (i - o) 0 else bs.getD i 0:=by
 rw [List.getD_eq_getElem?_getD,lN h]
 split
 ·rw [List.getD_eq_getElem?_getD]
 ·rw [List.getD_eq_getElem?_getD]
def fD:List (Nat × List Nat)->Nat->Nat->Nat
 | [],_,v=>v
 | p :: r,i,v=>fD r i (if p.1<=i/\i < p.1+p.2.length then p.2.getD (i - p.1) 0 else v)
theorem wK {i:Nat}:∀ {l:List (Nat × List Nat)} {bs:List Nat},nP bs.length l->(lays bs l).getD i 0=fD l i (bs.getD i 0)
 | [],_,_=>rfl
 | p :: r,bs,hf=>by
  have h1:=hf p (by simp)
  show (lays (aS bs p.1 p.2) r).getD i 0=_
  rw [wK (l:=r) (by rw [cT h1]; exact fun q hq=>hf q (by simp [hq])),wO h1]
  rfl
theorem rV (a b:List (Nat × List Nat)) (i v:Nat):fD (a ++ b) i v=fD b i (fD a i v):=by
 induction a generalizing v with
 | nil=>rfl
 | cons p r ih=>exact ih _
def aDX (i:Nat) (l:List (Nat × List Nat)):Prop:=∀ p ∈ l,i < p.1\/p.1+p.2.length<=i
theorem l7 {i:Nat}:∀ {l:List (Nat × List Nat)} {v:Nat},aDX i l->fD l i v=v
 | [],_,_=>rfl
 | p :: r,v,hi=>by
  show fD r i _=v
  rw [if_neg (by have:=hi p (by simp); omega)]
  exact l7 (l:=r) (fun q hq=>hi q (by simp [hq]))
def bM (bs:List Nat) (a:Nat):Nat->Nat
 | 0=>0
 | m+1=>bM bs a m*256+bs.getD (a+m) 0
theorem wQ {X Y:List Nat} {a b:Nat}:∀ (m:Nat),(∀ j,j < m->X.getD (a+j) 0=Y.getD (b+j) 0)->bM X a m=bM Y b m
 | 0,_=>rfl
 | m+1,h=>by
  unfold bM
  rw [wQ m (fun j hj=>h j (by omega)),h m (by omega)]
theorem sZ {X:List Nat} (hX:∀ x ∈ X,x < 256) (a:Nat):∀ m,bM X a m < 256 ^ m
 | 0=>by unfold bM; decide
 | m+1=>by
  have ih:=sZ hX a m
  have hb:X.getD (a+m) 0 < 256:=by
   rw [List.getD_eq_getElem?_getD]
   cases h:X[a+m]? with
   | none=>exact (by decide:(0:Nat) < 256)
   | some y=>exact hX y (List.mem_of_getElem? h)
  unfold bM
  rw [Nat.pow_succ]
  generalize bM X a m=r at *
  generalize X.getD (a+m) 0=y at *
  generalize 256 ^ m=P at *
  omega
theorem sV {size v j:Nat} (h:j < size):(cP size v).getD j 0=v / 2 ^ (8*(size - 1 - j)) % 256:=by rw [List.getD_eq_getElem?_getD,QE h]; rfl
theorem fP {X:List Nat} {a v:Nat} (h:∀ j,j < 4->X.getD (a+j) 0=(cP 4 v).getD j 0) (hv:v < 4294967296):bM X a 4=v:=by
 have e0:=(h 0 (by omega)).trans (sV (by omega))
 have e1:=(h 1 (by omega)).trans (sV (by omega))
 have e2:=(h 2 (by omega)).trans (sV (by omega))
 have e3:=(h 3 (by omega)).trans (sV (by omega))
 show (((0*256+X.getD (a+0) 0)*256+X.getD (a+1) 0)*256+X.getD (a+2) 0)*256+X.getD (a+3) 0=v
 rw [e0,e1,e2,e3]
 simp only [Nat.reduceMul,Nat.reduceSub,Nat.reducePow,Nat.sub_zero,Nat.sub_self,Nat.mul_zero,Nat.pow_zero]
 omega
theorem QP {X:List Nat} {a v:Nat} (h:∀ j,j < 2->X.getD (a+j) 0=(cP 2 v).getD j 0) (hv:v < 65536):bM X a 2=v:=by
 have e0:=(h 0 (by omega)).trans (sV (by omega))
 have e1:=(h 1 (by omega)).trans (sV (by omega))
 show (0*256+X.getD (a+0) 0)*256+X.getD (a+1) 0=v
 rw [e0,e1]
 simp only [Nat.reduceMul,Nat.reduceSub,Nat.reducePow,Nat.sub_zero,Nat.sub_self,Nat.mul_zero,Nat.pow_zero]
 omega
/-! Names. -/
def cA (bs:List Nat) (o n:Nat):List Nat:=(List.range n).map fun j=>bs.getD (o+j) 0
theorem eO (bs:List Nat) (o n:Nat):(cA bs o n).length=n:=by simp [cA]
theorem gR {bs:List Nat} {o n j:Nat} (h:j < n):(cA bs o n)[j]? = some (bs.getD (o+j) 0):=by
 unfold cA
 rw [List.getElem?_map,List.getElem?_range h]; rfl
theorem FI {X Y:List Nat} {a b n:Nat} (h:∀ j,j < n->X.getD (a+j) 0=Y.getD (b+j) 0):cA X a n=cA Y b n:=by
 unfold cA
 exact List.map_congr_left fun j hj=>h j (List.mem_range.1 hj)
def oF (l:List Nat):List UInt8:=l.map UInt8.ofNat
def uX (bs:List Nat) (o:Nat):ByteArray:=⟨(trimRightB (oF (cA bs o 32)) 0).toArray⟩
theorem TV (k:Nat) (l:List UInt8) (h:∀ x,l.head? = some x->x ≠ 0):(List.replicate k (0:UInt8) ++ l).dropWhile (· == 0)=l:=by
 induction k with
 | zero =>
  cases l with
  | nil=>rfl
  | cons x r =>
   have:=h x rfl
   show List.dropWhile (· == 0) (x :: r)=_
   rw [List.dropWhile_cons,if_neg (by simpa using this)]
 | succ k ih =>
  show List.dropWhile (· == 0) ((0:UInt8) :: (List.replicate k 0 ++ l))=l
  rw [List.dropWhile_cons,if_pos (by decide),ih]
theorem WB (l:List UInt8) (k:Nat) (h:∀ x ∈ l,x ≠ 0):trimRightB (l ++ List.replicate k 0) 0=l:=by
 unfold trimRightB
 rw [List.reverse_append,List.reverse_replicate,TV k l.reverse (fun x hx=>h x (by
  have:=List.mem_of_mem_head? (by rw [hx]; rfl)
  simpa using this)),List.reverse_reverse]
theorem V7 (s:ByteArray):oF (jD s)=s.data.toList:=by
 unfold oF jD
 rw [List.map_map]
 exact (List.map_congr_left fun x _=>by simp).trans (List.map_id _)
theorem P8 {s:ByteArray} (h:dK s=true):∀ x ∈ s.data.toList,x ≠ 0:=by
 unfold dK at h
 simp only [Bool.and_eq_true,List.all_eq_true] at h
 intro x hx hx0
 have:=h.2 x hx
 subst hx0
 revert this
 decide
theorem o6 {s:ByteArray} (h:dK s=true):s.size<=32:=by
 unfold dK at h
 simp only [Bool.and_eq_true,decide_eq_true_eq] at h
 exact h.1.2
theorem ZR {X:List Nat} {o:Nat} {s:ByteArray} (hs:dK s=true) (h:∀ j,j < 32->X.getD (o+j) 0=(jD s).getD j 0):uX X o=s:=by
 have h32:=o6 hs
 have e:cA X o 32=jD s ++ List.replicate (32 - s.size) 0:=by
  refine List.ext_getElem? fun j=>?_
  by_cases hj:j < 32
  ·rw [gR hj,h j hj,List.getD_eq_getElem?_getD]
   by_cases hk:j < s.size
   ·rw [List.getElem?_append_left (by rw [eG]; exact hk),List.getElem?_eq_getElem (by rw [eG]; exact hk)]; rfl
   ·rw [List.getElem?_eq_none (by rw [eG]; omega),List.getElem?_append_right (by rw [eG]; omega),List.getElem?_replicate,if_pos (by rw [eG]; omega)]; rfl
  ·rw [List.getElem?_eq_none (by rw [eO]; omega),List.getElem?_eq_none (by rw [List.length_append,eG,List.length_replicate]; omega)]
 unfold uX
 rw [e]
 have e2:oF (jD s ++ List.replicate (32 - s.size) 0)=s.data.toList ++ List.replicate (32 - s.size) 0:=by
  have:=V7 s
  unfold oF at *
  rw [List.map_append,this,List.map_replicate]
  rfl
 rw [e2,WB _ _ (P8 hs)]
/-! Entries. -/
def fH (bs:List Nat) (o:Nat):MetaV:=⟨uX bs o,bM bs (o+32) 4,bM bs (o+36) 4,(bs.getD (o+56) 0:Nat),decide (bs.getD (o+57) 0=1),bM bs (o+40) 4,bM bs (o+44) 4,bM bs (o+48) 4,bM bs (o+52) 4⟩
def qQ (bs:List Nat) (o:Nat):Bool:=(cA bs (o+58) 6).all fun x=>decide (x=0)
def qY (bs:List Nat) (o:Nat):Bool:=qQ bs o && (decide (bs.getD (o+57) 0<=1) && (fH bs o).right)
def eC (bs:List Nat) (n:Nat):List MetaV:=(List.range n).map fun i=>fH bs (16+i*64)
def kG (bs:List Nat):Nat->Bool
 | 0=>true
 | m+1=>kG bs m && qY bs (16+m*64) && (decide (m=0) || bV (fH bs (16+(m - 1)*64)).name (fH bs (16+m*64)).name)
def gX (bs:List Nat):Nat:=bM bs 8 2
def kQ (bs:List Nat):Nat:=bs.getD 10 0
def jO (bs:List Nat):Bool:=decide (cA bs 0 4 ≠ [67,65,76,49]) || (decide (bM bs 11 4 ≠ 0) || decide (bs.getD 15 0 ≠ 0))
def jR (bs:List Nat):Bool:=decide (kQ bs < 24) || (decide (96 < kQ bs) || (decide (64 < gX bs) || decide (bM bs 4 4 ≠ bs.length)))
def qP (bs:List Nat):Bool:=decide (lD (bs.take (16+gX bs*64)) ≠ (bM bs (16+gX bs*64) 4:Nat))
def MetaV.same (x y:MetaV):Bool:=x.name.toList == y.name.toList && (x.length == y.length && (x.rate == y.rate && (x.channels == y.channels && (x.loop == y.loop && (x.from_ == y.from_ && (x.to_ == y.to_ && (x.sums == y.sums && x.first == y.first)))))))
theorem MetaV.same_self (x:MetaV):x.same x=true:=by unfold MetaV.same; simp
theorem MetaV.same_eq {x y:MetaV} (h:x.same y=true):x=y:=by
 obtain ⟨n1,a1,b1,c1,d1,e1,f1,g1,h1⟩:=x
 obtain ⟨n2,a2,b2,c2,d2,e2,f2,g2,h2⟩:=y
 unfold MetaV.same at h
 simp only [Bool.and_eq_true,beq_iff_eq] at h
 obtain ⟨q1,rfl,rfl,rfl,rfl,rfl,rfl,rfl,rfl⟩:=h
 rw [ByteArray.toList_eq,ByteArray.toList_eq] at q1
 rw [CX q1]
theorem CL:∀ (L:List MetaV),allEq MetaV.same L L=true
 | []=>rfl
 | x :: r=>by
  show (x.same x && allEq MetaV.same r r)=true
  rw [MetaV.same_self,CL r]; rfl
theorem ND:∀ {L M:List MetaV},allEq MetaV.same L M=true->L=M
 | [],[],_=>rfl
 | [],_ :: _,h=>by cases h
 | _ :: _,[],h=>by cases h
 | x :: r,y :: s,h=>by
  have h':(x.same y && allEq MetaV.same r s)=true:=h
  rw [Bool.and_eq_true] at h'
  rw [MetaV.same_eq h'.1,ND h'.2]
def pF (bs:List Nat):Bool:=decide (upZ (bL (kQ bs) (eC bs (gX bs)) (gX bs)) 64 ≠ bs.length) || (decide (4194304 < bs.length) || !allEq MetaV.same (dA (kQ bs) (eC bs (gX bs)) (gX bs)) (eC bs (gX bs)))
def eK (bs:List Nat):Int :=
 if bs.length < 20 then 2 else if jO bs=true then 4 else if jR bs=true then 12 else if bs.length < 20+gX bs*64 then 2
 else if qP bs=true then 9 else if kG bs (gX bs)=false then 4 else if pF bs=true then 12 else 0
end
section
open Go.RowKit Go.Lib
set_option linter.unusedVariables false
structure GoodE (x:MetaV):Prop where
 name:dK x.name=true
 len:0<=x.length/\x.length < 4294967296
 rate:0<=x.rate/\x.rate < 4294967296
 ch:0<=x.channels/\x.channels<=255
 f:0<=x.from_/\x.from_ < 4294967296
 t:0<=x.to_/\x.to_ < 4294967296
 sums:0<=x.sums/\x.sums < 4294967296
 first:0<=x.first/\x.first < 4294967296
theorem gH (o:Nat) (x:MetaV) (i v:Nat) (hi:i ≠ o+57):fD (dM o x) i v=fD [(o,jD x.name),(o+32,cP 4 x.length.toNat),(o+36,cP 4 x.rate.toNat),(o+40,cP 4 x.from_.toNat),(o+44,cP 4 x.to_.toNat),(o+48,cP 4 x.sums.toNat),(o+52,cP 4 x.first.toNat),(o+56,[x.channels.toNat])] i v:=by
 unfold dM
 rw [rV]
 refine l7 fun p hp=>?_
 split at hp
 ·rw [List.mem_singleton] at hp
  subst hp
  simp only [List.length_cons,List.length_nil]
  omega
 ·simp at hp
theorem YW {o:Nat} {x:MetaV} (hx:x.name.size<=32) {j:Nat} (hj:j < 32):fD (dM o x) (o+j) 0=(jD x.name).getD j 0:=by
 rw [gH _ _ _ _ (by omega)]
 simp only [fD]
 iterate 7 rw [if_neg (by simp only [bF,List.length_cons,List.length_nil]; omega)]
 by_cases hk:j < x.name.size
 ·rw [if_pos (by rw [eG]; omega)]
  congr 1; omega
 ·rw [if_neg (by rw [eG]; omega),List.getD_eq_getElem?_getD,List.getElem?_eq_none (by rw [eG]; omega)]
  rfl
theorem aCF {o:Nat} {x:MetaV} (hx:x.name.size<=32) {j:Nat} (hj:j < 4):fD (dM o x) (o+32+j) 0=(cP 4 x.length.toNat).getD j 0:=by
 rw [gH _ _ _ _ (by omega)]
 simp only [fD]
 iterate 6 rw [if_neg (by simp only [bF,List.length_cons,List.length_nil]; omega)]
 rw [if_pos (by rw [bF]; omega)]
 congr 1; omega
theorem aCG {o:Nat} {x:MetaV} (hx:x.name.size<=32) {j:Nat} (hj:j < 4):fD (dM o x) (o+36+j) 0=(cP 4 x.rate.toNat).getD j 0:=by
 rw [gH _ _ _ _ (by omega)]
 simp only [fD]
 iterate 5 rw [if_neg (by simp only [bF,List.length_cons,List.length_nil]; omega)]
 rw [if_pos (by rw [bF]; omega)]
 congr 1; omega
theorem aCH {o:Nat} {x:MetaV} (hx:x.name.size<=32) {j:Nat} (hj:j < 4):fD (dM o x) (o+40+j) 0=(cP 4 x.from_.toNat).getD j 0:=by
 rw [gH _ _ _ _ (by omega)]
 simp only [fD]
 iterate 4 rw [if_neg (by simp only [bF,List.length_cons,List.length_nil]; omega)]
 rw [if_pos (by rw [bF]; omega)]
 congr 1; omega
theorem aCI {o:Nat} {x:MetaV} (hx:x.name.size<=32) {j:Nat} (hj:j < 4):fD (dM o x) (o+44+j) 0=(cP 4 x.to_.toNat).getD j 0:=by
 rw [gH _ _ _ _ (by omega)]
 simp only [fD]
 iterate 3 rw [if_neg (by simp only [bF,List.length_cons,List.length_nil]; omega)]
 rw [if_pos (by rw [bF]; omega)]
 congr 1; omega
theorem aCJ {o:Nat} {x:MetaV} (hx:x.name.size<=32) {j:Nat} (hj:j < 4):fD (dM o x) (o+48+j) 0=(cP 4 x.sums.toNat).getD j 0:=by
 rw [gH _ _ _ _ (by omega)]
 simp only [fD]
 iterate 2 rw [if_neg (by simp only [bF,List.length_cons,List.length_nil]; omega)]
 rw [if_pos (by rw [bF]; omega)]
 congr 1; omega
theorem aCK {o:Nat} {x:MetaV} (hx:x.name.size<=32) {j:Nat} (hj:j < 4):fD (dM o x) (o+52+j) 0=(cP 4 x.first.toNat).getD j 0:=by
 rw [gH _ _ _ _ (by omega)]
 simp only [fD]
 rw [if_neg (by simp only [List.length_cons,List.length_nil]; omega)]
 rw [if_pos (by rw [bF]; omega)]
 congr 1; omega
theorem aCL {o:Nat} {x:MetaV}:fD (dM o x) (o+56) 0=x.channels.toNat:=by
 rw [gH _ _ _ _ (by omega)]
 simp only [fD]
 rw [if_pos (by simp only [List.length_cons,List.length_nil]; omega)]
 rw [show o+56 - (o+56)=0 by omega]
 rfl
theorem aCM {o:Nat} {x:MetaV} (hx:x.name.size<=32):fD (dM o x) (o+57) 0=if x.loop=true then 1 else 0:=by
 unfold dM
 rw [rV]
 have h0:fD [(o,jD x.name),(o+32,cP 4 x.length.toNat),(o+36,cP 4 x.rate.toNat),(o+40,cP 4 x.from_.toNat),(o+44,cP 4 x.to_.toNat),(o+48,cP 4 x.sums.toNat),(o+52,cP 4 x.first.toNat),(o+56,[x.channels.toNat])] (o+57) 0=0:=by
  simp only [fD]
  iterate 7 rw [if_neg (by simp only [bF,List.length_cons,List.length_nil]; omega)]
  rw [if_neg (by rw [eG]; omega)]
 rw [h0]
 split
 ·simp only [fD]
  rw [if_pos (by simp only [List.length_cons,List.length_nil]; omega),show o+57 - (o+57)=0 by omega]
  rfl
 ·rfl
theorem aCN {o:Nat} {x:MetaV} (hx:x.name.size<=32) {j:Nat} (hj:58<=j):fD (dM o x) (o+j) 0=0:=by
 rw [gH _ _ _ _ (by omega)]
 simp only [fD]
 iterate 7 rw [if_neg (by simp only [bF,List.length_cons,List.length_nil]; omega)]
 rw [if_neg (by rw [eG]; omega)]
theorem OC {X:List Nat} {o:Nat} {x:MetaV} (hx:GoodE x) (hX:∀ j,j < 64->X.getD (o+j) 0=fD (dM o x) (o+j) 0):fH X o=x/\qQ X o=true/\X.getD (o+57) 0<=1:=by
 have h32:=o6 hx.name
 have hX':∀ k j,k+j < 64->X.getD (o+k+j) 0=fD (dM o x) (o+k+j) 0:=fun k j h=>by
  rw [Nat.add_assoc]; exact hX (k+j) h
 have e0:=ZR hx.name (X:=X) (o:=o) (fun j hj=>(hX j (by omega)).trans (YW h32 hj))
 have e1:=fP (X:=X) (a:=o+32) (v:=x.length.toNat) (fun j hj=>(hX' 32 j (by omega)).trans (aCF h32 hj)) (by have:=hx.len; omega)
 have e2:=fP (X:=X) (a:=o+36) (v:=x.rate.toNat) (fun j hj=>(hX' 36 j (by omega)).trans (aCG h32 hj)) (by have:=hx.rate; omega)
 have e3:=fP (X:=X) (a:=o+40) (v:=x.from_.toNat) (fun j hj=>(hX' 40 j (by omega)).trans (aCH h32 hj)) (by have:=hx.f; omega)
 have e4:=fP (X:=X) (a:=o+44) (v:=x.to_.toNat) (fun j hj=>(hX' 44 j (by omega)).trans (aCI h32 hj)) (by have:=hx.t; omega)
 have e5:=fP (X:=X) (a:=o+48) (v:=x.sums.toNat) (fun j hj=>(hX' 48 j (by omega)).trans (aCJ h32 hj)) (by have:=hx.sums; omega)
 have e6:=fP (X:=X) (a:=o+52) (v:=x.first.toNat) (fun j hj=>(hX' 52 j (by omega)).trans (aCK h32 hj)) (by have:=hx.first; omega)
 have e7:=(hX 56 (by omega)).trans aCL
 have e8:=(hX 57 (by omega)).trans (aCM h32)
 refine ⟨?_,?_,?_⟩
 ·unfold fH
  rw [e0,e1,e2,e3,e4,e5,e6,e7,e8]
  obtain ⟨_,hl,hr,hc,hf,ht,hs,hi⟩:=hx
  obtain ⟨nm,len,rate,ch,lp,f,t,sums,first⟩:=x
  simp only at *
  rw [Int.toNat_of_nonneg hl.1,Int.toNat_of_nonneg hr.1,Int.toNat_of_nonneg hc.1,Int.toNat_of_nonneg hf.1,Int.toNat_of_nonneg ht.1,Int.toNat_of_nonneg hs.1,Int.toNat_of_nonneg hi.1]
  cases lp <;> rfl
 ·unfold qQ
  rw [List.all_eq_true]
  intro y hy
  unfold cA at hy
  obtain ⟨j,hj,rfl⟩:=List.mem_map.1 hy
  have hj6:=List.mem_range.1 hj
  rw [Nat.add_assoc,hX (58+j) (by omega),aCN h32 (by omega)]
  rfl
 ·rw [e8]; split <;> omega
/-! A head. -/
theorem I2 (L:List MetaV):∀ m,∀ p ∈ cQ L m,16<=p.1
 | 0=>fun p hp=>by simp [cQ] at hp
 | m+1=>fun p hp=>by
  unfold cQ at hp
  rcases List.mem_append.1 hp with h1 | h1
  ·exact I2 L m p h1
  ·cases hx:L[m]? with
   | none=>rw [hx] at h1; simp at h1
   | some x =>
    rw [hx] at h1
    simp only at h1
    unfold dM at h1
    split at h1
    ·simp only [List.mem_append,List.mem_cons,List.not_mem_nil,or_false] at h1
     rcases h1 with (rfl | rfl | rfl | rfl | rfl | rfl | rfl | rfl) | rfl <;> simp only <;> omega
    ·simp only [List.mem_append,List.mem_cons,List.not_mem_nil,or_false] at h1
     rcases h1 with rfl | rfl | rfl | rfl | rfl | rfl | rfl | rfl <;> simp only <;> omega
theorem aBj {o i:Nat} {x:MetaV} (hx:x.name.size<=32) (hi:i < o\/o+58<=i) (v:Nat):fD (dM o x) i v=v:=by
 refine l7 fun p hp=>?_
 have h2:=zJ (off:=o) (n:=o+58) hx (Nat.le_refl _) p hp
 have h1:o<=p.1:=by
  unfold dM at hp
  split at hp
  ·simp only [List.mem_append,List.mem_cons,List.not_mem_nil,or_false] at hp
   rcases hp with (rfl | rfl | rfl | rfl | rfl | rfl | rfl | rfl) | rfl <;> simp only <;> omega
  ·simp only [List.mem_append,List.mem_cons,List.not_mem_nil,or_false] at hp
   rcases hp with rfl | rfl | rfl | rfl | rfl | rfl | rfl | rfl <;> simp only <;> omega
 omega
theorem WV {L:List MetaV} (hL:∀ x ∈ L,x.name.size<=32) {m j:Nat} {x:MetaV} (hx:L[m]? = some x) (hj:j < 64) (v:Nat):∀ k,k<=L.length->fD (cQ L k) (16+m*64+j) v=if m < k then fD (dM (16+m*64) x) (16+m*64+j) v else v
 | 0,_=>by rw [if_neg (by omega)]; rfl
 | k+1,hk=>by
  obtain ⟨y,hy⟩:∃ y,L[k]? = some y:=⟨_,List.getElem?_eq_getElem (by omega)⟩
  rw [zK hy,rV,WV hL hx hj v k (by omega)]
  by_cases hmk:m=k
  ·subst hmk
   rw [hx] at hy
   injection hy with hy
   subst hy
   rw [if_neg (by omega),if_pos (by omega)]
  ·rw [aBj (hL y (List.mem_of_getElem? hy)) (by omega)]
   by_cases h:m < k
   ·rw [if_pos h,if_pos (by omega)]
   ·rw [if_neg h,if_neg (by omega)]
section
variable {bs : List Nat} {L : List MetaV} {size N n : Nat}
structure HeadIn (bs:List Nat) (L:List MetaV) (size N n:Nat):Prop where
 len:bs.length=N
 cnt:L.length=n
 room:20+n*64<=N
 zero:∀ i,i < 16+n*64->bs.getD i 0=0
 good:∀ x ∈ L,GoodE x
theorem HeadIn.fits (h:HeadIn bs L size N n):nP bs.length (eT N n size ++ cQ L n):=by
 intro p hp
 rw [h.len]
 have:=h.room
 rcases List.mem_append.1 hp with h1 | h1
 ·exact qD (n:=N) (N:=N) (by omega) p h1
 ·exact nT (fun x hx=>o6 (h.good x hx).name) n (by omega) p h1
theorem HeadIn.mid_len (h:HeadIn bs L size N n):(lays bs (eT N n size ++ cQ L n)).length=N:=nA h.len (by have:=h.fits; rwa [h.len] at this)
theorem HeadIn.eq (h:HeadIn bs L size N n):bD bs L size=aS (lays bs (eT N n size ++ cQ L n)) (16+n*64) (cP 4 (lD ((lays bs (eT N n size ++ cQ L n)).take (16+n*64))).toNat):=by
 unfold bD
 rw [h.len,h.cnt]
theorem HeadIn.out_len (h:HeadIn bs L size N n):(bD bs L size).length=N:=by
 rw [h.eq,cT (by rw [bF,h.mid_len]; have:=h.room; omega),h.mid_len]
theorem HeadIn.gd (h:HeadIn bs L size N n) {i:Nat} (hi:i < 16+n*64):(bD bs L size).getD i 0=fD (eT N n size ++ cQ L n) i 0:=by
 rw [h.eq,wO (by rw [bF,h.mid_len]; have:=h.room; omega),if_neg (by omega),wK h.fits,h.zero i hi]
theorem HeadIn.far (h:HeadIn bs L size N n) {i:Nat} (hi:20+n*64<=i):(bD bs L size).getD i 0=bs.getD i 0:=by
 rw [h.eq,wO (by rw [bF,h.mid_len]; have:=h.room; omega),if_neg (by rw [bF]; omega),wK h.fits]
 refine l7 fun p hp=>.inr ?_
 have hN:nP (16+n*64) (eT N n size ++ cQ L n):=by
  intro q hq
  rcases List.mem_append.1 hq with h1 | h1
  ·exact qD (n:=N) (by omega) q h1
  ·exact nT (fun x hx=>o6 (h.good x hx).name) n (by omega) q h1
 have:=hN p hp
 omega
theorem HeadIn.low (h:HeadIn bs L size N n) {i:Nat} (hi:i < 16):(bD bs L size).getD i 0=fD (eT N n size) i 0:=by
 rw [h.gd (by omega),rV]
 exact l7 fun p hp=>.inl (by have:=I2 L n p hp; omega)
theorem HeadIn.ent (h:HeadIn bs L size N n) {m j:Nat} {x:MetaV} (hx:L[m]? = some x) (hj:j < 64):(bD bs L size).getD (16+m*64+j) 0=fD (dM (16+m*64) x) (16+m*64+j) 0:=by
 have hm:=(List.getElem?_eq_some_iff.1 hx).1
 rw [h.cnt] at hm
 rw [h.gd (by omega),rV,l7 (l:=eT N n size) (fun p hp=>.inr (by have:=qD (n:=N) (N:=16) (c:=n) (size:=size) (by omega) p hp; omega))]
 have:=WV (fun y hy=>o6 (h.good y hy).name) hx hj 0 n (by rw [h.cnt]; exact Nat.le_refl _)
 rw [this,if_pos hm]
theorem HeadIn.sum (h:HeadIn bs L size N n):bM (bD bs L size) (16+n*64) 4=(lD ((bD bs L size).take (16+n*64))).toNat:=by
 have ht:(bD bs L size).take (16+n*64)=(lays bs (eT N n size ++ cQ L n)).take (16+n*64):=by
  rw [h.eq]
  unfold aS
  rw [List.append_assoc,List.take_append_of_le_length (by rw [List.length_take,h.mid_len]; have:=h.room; omega),List.take_take,Nat.min_self]
 rw [ht]
 refine fP (fun j hj=>?_) (by have:=sM ((lays bs (eT N n size ++ cQ L n)).take (16+n*64)); omega)
 rw [h.eq,wO (by rw [bF,h.mid_len]; have:=h.room; omega),if_pos (by rw [bF]; omega)]
 congr 1
 omega
theorem HeadIn.cntZ_ (h:HeadIn bs L size N n) (hn:n<=64):gX (bD bs L size)=n:=by
 unfold gX
 refine QP (fun j hj=>?_) (by omega)
 rw [h.low (by omega)]
 unfold eT
 simp only [fD]
 rw [if_neg (by simp only [List.length_cons,List.length_nil]; omega),if_pos (by rw [bF]; omega)]
 congr 1; omega
theorem HeadIn.len_ (h:HeadIn bs L size N n) (hN:N < 4294967296):bM (bD bs L size) 4 4=N:=by
 refine fP (fun j hj=>?_) hN
 rw [h.low (by omega)]
 unfold eT
 simp only [fD]
 iterate 2 rw [if_neg (by simp only [bF,List.length_cons,List.length_nil]; omega)]
 rw [if_pos (by rw [bF]; omega)]
 congr 1; omega
theorem HeadIn.sizeZ_ (h:HeadIn bs L size N n):kQ (bD bs L size)=size:=by
 unfold kQ
 rw [h.low (by omega)]
 unfold eT
 simp only [fD]
 rw [if_pos (by simp only [List.length_cons,List.length_nil]; omega)]
 rfl
theorem HeadIn.nought (h:HeadIn bs L size N n) {i:Nat} (h1:11<=i) (h2:i < 16):(bD bs L size).getD i 0=0:=by
 rw [h.low h2]
 unfold eT
 simp only [fD]
 iterate 4 rw [if_neg (by simp only [bF,List.length_cons,List.length_nil]; omega)]
theorem HeadIn.sign (h:HeadIn bs L size N n):jO (bD bs L size)=false:=by
 have e1:cA (bD bs L size) 0 4=[67,65,76,49]:=by
  have g:∀ i,i < 4->(bD bs L size).getD (0+i) 0=[67,65,76,49].getD i 0:=fun i hi=>by
   rw [h.low (by omega)]
   unfold eT
   simp only [fD]
   iterate 3 rw [if_neg (by simp only [bF,List.length_cons,List.length_nil]; omega)]
   rw [if_pos (by simp only [List.length_cons,List.length_nil]; omega)]
   congr 1; omega
  have e:cA (bD bs L size) 0 4=[(bD bs L size).getD (0+0) 0,(bD bs L size).getD (0+1) 0,(bD bs L size).getD (0+2) 0,(bD bs L size).getD (0+3) 0]:=rfl
  rw [e,g 0 (by omega),g 1 (by omega),g 2 (by omega),g 3 (by omega)]
  rfl
 have e2:bM (bD bs L size) 11 4=0:=by
  show (((0*256+(bD bs L size).getD (11+0) 0)*256+(bD bs L size).getD (11+1) 0)*256+(bD bs L size).getD (11+2) 0)*256+(bD bs L size).getD (11+3) 0=0
  rw [h.nought (by omega) (by omega),h.nought (by omega) (by omega),h.nought (by omega) (by omega),h.nought (by omega) (by omega)]
 have e3:(bD bs L size).getD 15 0=0:=h.nought (by omega) (by omega)
 unfold jO
 rw [e1,e2,e3]
 decide
theorem HeadIn.dirAt (h:HeadIn bs L size N n) {m:Nat} {x:MetaV} (hx:L[m]? = some x):fH (bD bs L size) (16+m*64)=x:=(OC (h.good x (List.mem_of_getElem? hx)) (fun j hj=>h.ent hx hj)).1
theorem HeadIn.dirZ_ (h:HeadIn bs L size N n):eC (bD bs L size) n=L:=by
 refine List.ext_getElem? fun m=>?_
 unfold eC
 rw [List.getElem?_map]
 by_cases hm:m < n
 ·obtain ⟨x,hx⟩:∃ x,L[m]? = some x:=⟨_,List.getElem?_eq_getElem (by rw [h.cnt]; exact hm)⟩
  rw [List.getElem?_range hm,hx]
  exact congrArg some (h.dirAt hx)
 ·rw [List.getElem?_eq_none (by simp; omega),List.getElem?_eq_none (by rw [h.cnt]; omega)]
  rfl
theorem HeadIn.dirTo_ (h:HeadIn bs L size N n) (hr:∀ x ∈ L,x.right=true) (hs:∀ m x y,L[m]? = some x->L[m+1]? = some y->bV x.name y.name=true):∀ m,m<=n->kG (bD bs L size) m=true
 | 0,_=>rfl
 | m+1,hm=>by
  obtain ⟨x,hx⟩:∃ x,L[m]? = some x:=⟨_,List.getElem?_eq_getElem (by rw [h.cnt]; omega)⟩
  have ih:=h.dirTo_ hr hs m (by omega)
  have hxm:=List.mem_of_getElem? hx
  obtain ⟨e1,e2,e3⟩:=OC (h.good x hxm) (fun j hj=>h.ent hx hj)
  have hlast:(decide (m=0) || bV (fH (bD bs L size) (16+(m - 1)*64)).name (fH (bD bs L size) (16+m*64)).name)=true:=by
   cases m with
   | zero=>rfl
   | succ k =>
    obtain ⟨y,hy⟩:∃ y,L[k]? = some y:=⟨_,List.getElem?_eq_getElem (by rw [h.cnt]; omega)⟩
    rw [e1,show k+1 - 1=k by omega,h.dirAt hy,hs k y x hy hx]
    simp
  unfold kG
  rw [ih,hlast]
  unfold qY
  rw [e1,e2,hr x hxm,decide_eq_true e3]
  rfl
theorem HeadIn.parse (h:HeadIn bs L size N n) (h1:24<=size) (h2:size<=96) (hn:n<=64) (hN:N<=4194304) (hr:∀ x ∈ L,x.right=true) (hs:∀ m x y,L[m]? = some x->L[m+1]? = some y->bV x.name y.name=true)
  (hu:upZ (bL size L n) 64=N) (hm:dA size L n=L):eK (bD bs L size)=0:=by
 have hl:=h.out_len
 have hrm:=h.room
 unfold eK
 rw [if_neg (by omega),if_neg (by rw [h.sign]; decide)]
 have e1:jR (bD bs L size)=false:=by
  unfold jR
  rw [h.sizeZ_,h.cntZ_ hn,h.len_ (by omega),hl]
  simp only [Bool.or_eq_false_iff,decide_eq_false_iff_not]
  omega
 rw [if_neg (by rw [e1]; decide),h.cntZ_ hn,if_neg (by omega)]
 have e2:qP (bD bs L size)=false:=by
  unfold qP
  rw [h.cntZ_ hn,h.sum]
  have:=sM ((bD bs L size).take (16+n*64))
  simp only [decide_eq_false_iff_not,ne_eq,Decidable.not_not]
  omega
 have e3:pF (bD bs L size)=false:=by
  unfold pF
  rw [h.cntZ_ hn,h.sizeZ_,h.dirZ_,hm,hu,hl,CL]
  simp only [Bool.or_eq_false_iff,decide_eq_false_iff_not,Bool.not_true,and_true]
  omega
 rw [if_neg (by rw [e2]; decide),if_neg (by rw [h.dirTo_ hr hs n (Nat.le_refl _)]; decide),if_neg (by rw [e3]; decide)]
end
end
section
open Go.RowKit Go.Lib
theorem aDH {V y:Nat} (hV:V < 4294967296) (hy:y < 256):bits .or .i64 ((V:Int)*256) (y:Int)=(V:Int)*256+(y:Int):=by
 have h0:(V:Int)*256=((V*256:Nat):Int):=by omega
 rw [h0]
 have h1:bits .or .i64 ((V*256:Nat):Int) (y:Int)=((V*256 ||| y:Nat):Int):=by
  have hx:V*256 ||| y < 2 ^ 62:=Nat.or_lt_two_pow (by omega) (by omega)
  show IntKind.i64.wrap ((BitVec.ofInt 64 ((V*256:Nat):Int) ||| BitVec.ofInt 64 (y:Int)).toNat:Int)=_
  rw [BitVec.toNat_or,ofInt_u64 _ (by omega),ofInt_u64 _ (by omega)]
  exact IntWalk.i64_in _ (by omega)
 rw [h1]
 have h2:V*256 ||| y=V*256+y:=by
  have:=Nat.two_pow_add_eq_or_of_lt (i:=8) (b:=y) (by omega) V
  rw [show V*256=2 ^ 8*V by omega]
  exact this.symm
 rw [h2]
 omega
set_option maxRecDepth 100000 in
set_option maxHeartbeats 4000000 in
theorem E0 (bs:List Nat) (A:Option Addr) (n cap at_ size:Nat) (w:World) (hn:bs.length=n) (hr:Row w w.heap.size A (u8s bs)) (hb:∀ x ∈ bs,x < 256) (ha:at_+size<=n) (hl:n<=1000000000) (hs:size<=4) :
  Calls Tryz.prog 93 #[.slice A n cap,.int .i64 at_,.int .i64 size] w fun e w'=>e=.returned (.int .i64 (bM bs at_ size:Nat))/\w=w':=by
 have HB:=Lib.hid (fun m (h:m<=size)=>(show bM bs at_ m < 4294967296 from Nat.lt_of_lt_of_le (sZ hb at_ m) (by
  have:256 ^ m<=256 ^ 4:=Nat.pow_le_pow_right (by decide) (by omega)
  exact this)))
 have HS:=Lib.hid (fun m=>(show bM bs at_ (m+1)=bM bs at_ m*256+bs.getD (at_+m) 0 from rfl))
 have Hr:=Lib.hid hr
 have Hb:=Lib.hid hb
 have Hn:=Lib.hid hn
 clear hr hb hn
 go_enter Tryz.func93,Tryz.ntmps93
 go_wp2
 go_loopw [7,10] (fun v i wr=>∃ m:Nat,m<=size/\i=.int .i64 m/\v=.int .i64 (bM bs at_ m:Nat)/\w=wr) (fun _ i _=>size - (intOf i).toNat)
 case atStart=>exact ⟨0,by omega,rfl,rfl,rfl⟩
 case round =>
  obtain ⟨m,hm,rfl,rfl,rfl⟩:=hrel
  by_cases hlt:m < size
  ·have t1:(m:Int) < (size:Int):=by omega
   have t2:(0:Int)<=(m:Int):=by omega
   obtain ⟨y,hy⟩:=aE (k:=at_+m) Hn.out (by omega)
   have hyb:=Hb.out y (List.mem_of_getElem? hy)
   have hyd:bs.getD (at_+m) 0=y:=by rw [List.getD_eq_getElem?_getD,hy]; rfl
   have HS2:=HS.out m
   rw [hyd] at HS2
   obtain ⟨b,off,rfl,hbl,hc⟩:=Hr.out (at_+m) (.int .u8 y) (d9 hy)
   have hbd:=HB.out m hm
   generalize bM bs at_ m=V at *
   have Hs2:=Lib.hid HS2
   have hor:=aDH hbd hyb
   have hw1:IntKind.i64.wrap ((V:Int)*256)=(V:Int)*256:=IntWalk.i64_in _ (by omega)
   clear hy hyd HS2 hbl
   go_wp2
   go_roundw
   case rel=>exact ⟨m+1,by omega,by go_num,by rw [Hs2.out]; push_cast; rfl,trivial⟩
   case measure=>simp [intOf]; omega
  ·have hmn:m=size:=by omega
   subst hmn
   have t1:¬ ((m:Int) < (m:Int)):=by omega
   go_wp2
   go_ret
   exact ⟨rfl,rfl⟩
end
section
open Go.RowKit Go.Lib
theorem NP {B first sums size ch k:Nat} {fs:List FrameV} (h1:B<=first) (h2:B<=sums):∀ i,∀ p ∈ fV first sums size ch k fs i,B<=p.1
 | 0=>fun p hp=>by simp [fV] at hp
 | i+1=>fun p hp=>by
  unfold fV at hp
  rcases List.mem_append.1 hp with h | h
  ·exact NP h1 h2 i p h
  ·cases hx:fs[i]? with
   | none=>rw [hx] at h; simp at h
   | some x =>
    rw [hx] at h
    simp only [mY,List.mem_cons,List.not_mem_nil,or_false] at h
    rcases h with rfl | rfl <;> simp only <;> omega
theorem PK {B first sums size:Nat} {rows:List (List Int)} (h1:B<=first) (h2:B<=sums):∀ k,∀ p ∈ eU first sums size rows k,B<=p.1
 | 0=>fun p hp=>by simp [eU] at hp
 | k+1=>fun p hp=>by
  unfold eU at hp
  rcases List.mem_append.1 hp with h | h
  ·exact PK h1 h2 k p h
  ·cases hx:rows[k]? with
   | none=>rw [hx] at h; simp at h
   | some d=>rw [hx] at h; exact NP h1 h2 _ p h
theorem uJ {size:Int} {L M:List MetaV} (hl:L.length=M.length) (h:∀ (i:Nat) x y,L[i]? = some x->M[i]? = some y->bC x=bC y):∀ m,bL size L m=bL size M m
 | 0=>by unfold bL; rw [hl]
 | m+1=>by
  have ih:=uJ (size:=size) hl h m
  cases hx:L[m]? with
  | none =>
   have hy:M[m]? = none:=by
    rw [List.getElem?_eq_none_iff] at hx ⊢
    omega
   have e1:bL size L (m+1)=bL size L m:=by
    show (match L[m]? with | some x=>_ | none=>_)=_
    rw [hx]
   have e2:bL size M (m+1)=bL size M m:=by
    show (match M[m]? with | some x=>_ | none=>_)=_
    rw [hy]
   rw [e1,e2,ih]
  | some x =>
   have hm:=(List.getElem?_eq_some_iff.1 hx).1
   obtain ⟨y,hy⟩:∃ y,M[m]? = some y:=⟨_,List.getElem?_eq_getElem (by omega)⟩
   rw [fU hx,fU hy,ih,h m x y hx hy]
theorem PX (size:Int) (L:List MetaV):dA size (dA size L L.length) L.length=dA size L L.length:=by
 have hl:=lJ size L L.length
 refine List.ext_getElem? fun i=>?_
 by_cases hi:i < L.length
 ·obtain ⟨x,hx⟩:∃ x,L[i]? = some x:=⟨_,List.getElem?_eq_getElem hi⟩
  have h1:=gV (size:=size) hx L.length
  rw [if_pos hi] at h1
  rw [gV h1 L.length,if_pos hi,h1]
  have ha:=uJ (size:=size) (L:=dA size L L.length) (M:=L) hl (fun j a b h2 h3=>by
   rw [gV h3 L.length] at h2
   split at h2
   ·injection h2 with h2; rw [<-h2]; rfl
   ·injection h2 with h2; rw [h2]) i
  unfold plc
  simp only [ha]
  rfl
 ·rw [List.getElem?_eq_none (by rw [lJ]; omega),List.getElem?_eq_none (by omega)]
section
variable {size : Nat} {SS : List SampV}
structure CanP (size:Nat) (SS:List SampV):Prop where
 lo:24<=size
 hi:size<=96
 many:SS.length<=8
 fine:∀ s ∈ SS,Fine s
 right:∀ s ∈ SS,(aM s).right=true
 asc:∀ m x y,SS[m]? = some x->SS[m+1]? = some y->bV x.name y.name=true
theorem CanP.few (h:CanP size SS):∀ x ∈ SS.map aM,J9 x:=fun x hx=>by
 obtain ⟨s,hs,rfl⟩:=List.mem_map.1 hx
 exact uT (h.fine s hs)
theorem CanP.bd (h:CanP size SS) (m:Nat) (hm:m<=SS.length):0<=bL size (SS.map aM) m/\bL size (SS.map aM) m<=20000:=by
 have:=vQ (size:=(size:Int)) (by have:=h.lo; omega) (by have:=h.hi; omega) h.few m
 rw [List.length_map] at this
 have:=h.many
 omega
theorem CanP.len_eq (h:CanP size SS):(bU size SS:Int)=upZ (bL size (SS.map aM) SS.length) 64:=by
 unfold bU
 have hb:=h.bd SS.length (Nat.le_refl _)
 have hu:=sF (n:=bL (size:Int) (SS.map aM) SS.length) (b:=64) (by omega) (.inr rfl)
 rw [Int.toNat_of_nonneg (by omega)]
theorem CanP.base (h:CanP size SS) (m:Nat):20+64*(SS.length:Int)<=bL size (SS.map aM) m:=by
 have h1:=sH (size:=(size:Int)) (by have:=h.lo; omega) h.few (Nat.zero_le m)
 have e0:bL (size:Int) (SS.map aM) 0=16+(SS.length:Int)*64+4:=by show 16+((SS.map aM).length:Int)*64+4=_; rw [List.length_map]
 rw [e0] at h1
 omega
theorem CanP.len_bd (h:CanP size SS):20+SS.length*64<=bU size SS/\bU size SS<=30000:=by
 have he:=h.len_eq
 have hb:=h.bd SS.length (Nat.le_refl _)
 have h0:=h.base SS.length
 have hu:=sF (n:=bL (size:Int) (SS.map aM) SS.length) (b:=64) (by omega) (.inr rfl)
 have hx:upZ (bL (size:Int) (SS.map aM) SS.length) 64<=30000:=by
  unfold upZ
  generalize bL (size:Int) (SS.map aM) SS.length=a at *
  omega
 omega
def aH (size:Nat) (SS:List SampV):List MetaV:=dA size (SS.map aM) SS.length
theorem fO (size:Nat) (SS:List SampV):(aH size SS).length=SS.length:=by unfold aH; rw [lJ,List.length_map]
theorem fM {m:Nat} {s:SampV} (hs:SS[m]? = some s):(aH size SS)[m]? = some (plc size (SS.map aM) m (aM s)):=by
 have hm:=(List.getElem?_eq_some_iff.1 hs).1
 have hx:(SS.map aM)[m]? = some (aM s):=by rw [List.getElem?_map,hs]; rfl
 unfold aH
 rw [gV hx,if_pos hm]
theorem QM {x:MetaV} (hx:x ∈ aH size SS):∃ m s,SS[m]? = some s/\x=plc size (SS.map aM) m (aM s):=by
 obtain ⟨m,hm,rfl⟩:=List.mem_iff_getElem.1 hx
 rw [fO] at hm
 refine ⟨m,SS[m],List.getElem?_eq_getElem hm,?_⟩
 have h1:=fM (size:=size) (List.getElem?_eq_getElem hm)
 rw [List.getElem?_eq_getElem (by rw [fO]; exact hm)] at h1
 exact Option.some.inj h1
theorem VN {x:MetaV} (h:x.right=true):dK x.name=true:=by
 unfold MetaV.right at h
 simp only [Bool.and_eq_true] at h
 exact h.1.1.1.1.1.1
theorem s7 {x:MetaV} (h:x.right=true):(1<=x.length/\x.length<=1048576)/\(1<=x.rate/\x.rate<=192000)/\(1<=x.channels/\x.channels<=2)/\(0<=x.from_/\x.from_<=1048576)/\(0<=x.to_/\x.to_<=1048576):=by
 unfold MetaV.right at h
 simp only [Bool.and_eq_true,Bool.or_eq_true,decide_eq_true_eq] at h
 obtain ⟨⟨⟨⟨⟨⟨h1,h2⟩,h3⟩,h4⟩,h5⟩,h6⟩,h7⟩:=h
 have hf:(0<=x.from_/\x.from_<=1048576)/\(0<=x.to_/\x.to_<=1048576):=by
  unfold kM at h7
  split at h7 <;> simp only [Bool.and_eq_true,decide_eq_true_eq] at h7 <;> omega
 exact ⟨by omega,by omega,by omega,hf.1,hf.2⟩
theorem aBs {x:MetaV} (h:x.right=true) (hs:0<=x.sums/\x.sums < 4294967296) (hf:0<=x.first/\x.first < 4294967296):GoodE x:=by
 obtain ⟨h1,h2,h3,h4,h5⟩:=s7 h
 exact ⟨VN h,by omega,by omega,by omega,by omega,by omega,hs,hf⟩
theorem CanP.goodE (h:CanP size SS):∀ x ∈ aH size SS,GoodE x/\x.right=true:=fun x hx=>by
 obtain ⟨m,s,hs,rfl⟩:=QM hx
 have hm:=(List.getElem?_eq_some_iff.1 hs).1
 have hsm:=List.mem_of_getElem? hs
 have hr:(plc size (SS.map aM) m (aM s)).right=true:=h.right s hsm
 have hb:=h.bd m (by omega)
 have hF:=lF (h.few _ (List.mem_map.2 ⟨s,hsm,rfl⟩))
 refine ⟨aBs hr ⟨hb.1,by show bL size (SS.map aM) m < _; omega⟩ ?_,hr⟩
 show 0<=upZ (bL size (SS.map aM) m+4*bC (aM s)) 16/\upZ (bL size (SS.map aM) m+4*bC (aM s)) 16 < _
 unfold upZ
 generalize bL (size:Int) (SS.map aM) m=a at *
 generalize bC (aM s)=F at *
 omega
theorem CanP.head (h:CanP size SS):HeadIn (lays (List.replicate (bU size SS) 0) (cK size SS (aH size SS) SS.length)) (aH size SS) size (bU size SS) SS.length:=by
 have hfit:nP (bU size SS) (cK size SS (aH size SS) SS.length):=nZ h.lo h.hi h.fine h.len_eq SS.length
 have hbd:=h.len_bd
 refine ⟨nA (by simp) hfit,fO size SS,hbd.1,fun i hi=>?_,fun x hx=>(h.goodE x hx).1⟩
 rw [wK (by rw [List.length_replicate]; exact hfit)]
 have h0:(List.replicate (bU size SS) 0).getD i 0=0:=by
  rw [List.getD_eq_getElem?_getD,List.getElem?_replicate]
  split <;> rfl
 rw [h0]
 refine l7 fun p hp=>.inl ?_
 have key:∀ m,∀ p ∈ cK size SS (aH size SS) m,20+64*SS.length<=p.1:=by
  intro m
  induction m with
  | zero=>intro p hp; simp [cK] at hp
  | succ m ih =>
   intro p hp
   unfold cK at hp
   rcases List.mem_append.1 hp with h3 | h3
   ·exact ih p h3
   ·cases hs:SS[m]? with
    | none=>rw [hs] at h3; simp at h3
    | some s =>
     rw [hs,fM hs] at h3
     have hb:=h.base m
     have hF:=lF (h.few _ (List.mem_map.2 ⟨s,List.mem_of_getElem? hs,rfl⟩))
     have hge:=sF (n:=bL size (SS.map aM) m+4*bC (aM s)) (b:=16) (by omega) (.inl rfl)
     refine PK ?_ ?_ _ p h3
     ·show 20+64*SS.length<=(upZ (bL size (SS.map aM) m+4*bC (aM s)) 16).toNat
      omega
     ·show 20+64*SS.length<=(bL size (SS.map aM) m).toNat
      omega
 have:=key _ p hp
 omega
theorem nG (size:Nat) (SS:List SampV):bG size SS=bD (lays (List.replicate (bU size SS) 0) (cK size SS (aH size SS) SS.length)) (aH size SS) size:=rfl
theorem lL (h:CanP size SS):(bG size SS).length=bU size SS:=by rw [nG]; exact h.head.out_len
theorem EU (h:CanP size SS):kQ (bG size SS)=size:=by rw [nG]; exact h.head.sizeZ_
theorem JR (h:CanP size SS):gX (bG size SS)=SS.length:=by rw [nG]; exact h.head.cntZ_ (by have:=h.many; omega)
theorem JS (h:CanP size SS):eC (bG size SS) SS.length=aH size SS:=by rw [nG]; exact h.head.dirZ_
theorem AF (h:CanP size SS):eK (bG size SS)=0:=by
 rw [nG]
 have hat:bL (size:Int) (aH size SS) SS.length=bL size (SS.map aM) SS.length:=uJ (by rw [fO,List.length_map]) (fun j a b h2 h3=>by
  unfold aH at h2
  rw [gV h3] at h2
  split at h2
  ·injection h2 with h2; rw [<-h2]; rfl
  ·injection h2 with h2; rw [h2]) _
 refine h.head.parse h.lo h.hi (by have:=h.many; omega) (by have:=h.len_bd; omega) (fun x hx=>(h.goodE x hx).2) (fun m x y hx hy=>?_) (by rw [hat]; exact h.len_eq.symm) ?_
 ·have hm:=(List.getElem?_eq_some_iff.1 hy).1
  rw [fO] at hm
  have hs1:SS[m]? = some SS[m]:=List.getElem?_eq_getElem (by omega)
  have hs2:SS[m+1]? = some SS[m+1]:=List.getElem?_eq_getElem hm
  rw [fM hs1] at hx
  rw [fM hs2] at hy
  injection hx with hx
  injection hy with hy
  rw [<-hx,<-hy]
  exact h.asc m _ _ hs1 hs2
 ·have:=PX (size:Int) (SS.map aM)
  rw [List.length_map] at this
  exact this
end
end
section
open Go.RowKit Go.Lib Go.Sort
def nlB (x y:List UInt8):Bool:=decide (compareBytes x y < 0)
theorem aBS:∀ (x y:List UInt8),decide (x < y)=nlB x y
 | [],[]=>by simp [nlB,compareBytes]
 | [],_ :: _=>by simp [nlB,compareBytes]
 | _ :: _,[]=>by simp [nlB,compareBytes]
 | u :: r,v :: s=>by
  have ih:=aBS r s
  unfold nlB at *
  unfold compareBytes
  simp only [List.cons_lt_cons_iff]
  by_cases h1:u < v
  ·simp [h1]
  ·by_cases h2:v < u
   ·have h3:u ≠ v:=fun e=>by subst e; exact h1 h2
    simp [h1,h2,h3]
   ·have h3:u=v:=RS (Nat.le_antisymm (sE h2) (sE h1))
    subst h3
    simp [h1,<-ih]
theorem EL (x y:List UInt8):decide (x<=y) = !nlB y x:=by
 rw [<-aBS]
 have:(x<=y) = ¬ (y < x):=rfl
 simp only [this]
 by_cases h:y < x <;> simp [h]
theorem EM (x y:List UInt8):nlB x y=bV ⟨x.toArray⟩ ⟨y.toArray⟩:=rfl
theorem aBR {x y:List UInt8} (h1:nlB x y=false) (h2:nlB y x=false):x=y:=by
 have:=yF (a:=⟨x.toArray⟩) (b:=⟨y.toArray⟩) h1 h2
 have h:=congrArg (fun b:ByteArray=>b.data.toList) this
 simpa using h
theorem wX {ss:List SampV} (h:TX ss=false):(ss.map (·.name.data.toList)).Nodup:=by
 have hp:(gD ss).Perm (ss.map (·.name.data.toList)):=List.mergeSort_perm _ _
 refine hp.nodup_iff.1 ?_
 have hs:(gD ss).Pairwise fun x y=>decide (x<=y)=true:=by
  refine List.pairwise_mergeSort (fun a b c h1 h2=>?_) (fun a b=>?_) _
  ·rw [EL] at *
   simp only [Bool.not_eq_true',EM] at *
   exact nC h2 h1
  ·rw [EL,EL]
   cases h1:nlB b a
   ·rfl
   ·have:=uV (a:=⟨b.toArray⟩) (b:=⟨a.toArray⟩) h1
    rw [EM,this]
    rfl
 have hl:=rE ss
 unfold TX rK at h
 generalize gD ss=l at *
 rw [List.pairwise_iff_getElem] at hs
 unfold List.Nodup
 rw [List.pairwise_iff_getElem]
 intro i j hi hj hij he
 rw [List.any_eq_false] at h
 have hne:=h i (List.mem_range.2 (by omega))
 have h1:l[i]=l[i+1]'(by omega):=by
  refine aBR ?_ ?_
  ·by_cases hij1:i+1=j
   ·subst hij1
    rw [<-he,EM]
    exact uW _
   ·have h2:=hs (i+1) j (by omega) hj (by omega)
    rw [EL,<-he] at h2
    simpa using h2
  ·have h2:=hs i (i+1) hi (by omega) (by omega)
   rw [EL] at h2
   simpa using h2
 apply hne
 rw [List.getElem?_eq_getElem hi,List.getElem?_eq_getElem (by omega),h1]
 simp
theorem aAt {ss:List SampV} (h:TX ss=false):(dF ss).Pairwise fun x y=>bV x.name y.name=true:=by
 have hz:=XN ss 0
 obtain ⟨p2,s2⟩:=qO (fun x:Int × SampV=>(x.1,x.2.name)) (ss.zipIdx.map fun p=>((p.2:Int),p.1)) hz
 have hnd:=wX h
 have hnd2:((dF ss).map (·.name.data.toList)).Nodup:=((nJ ss).map _).nodup_iff.2 hnd
 have hs3:(dF ss).Pairwise fun x y=>bV y.name x.name=false:=by
  unfold dF
  rw [List.pairwise_map]
  refine s2.imp fun {x y} hxy=>?_
  rw [yJ] at hxy
  rcases hxy with h1 | ⟨h1,_⟩
  ·exact uV h1
  ·exact h1
 unfold List.Nodup at hnd2
 rw [List.pairwise_map] at hnd2
 refine (hs3.and hnd2).imp fun {x y} ⟨h1,h2⟩=>?_
 cases h3:bV x.name y.name
 ·exact absurd (congrArg (fun b:ByteArray=>b.data.toList) (yF h3 h1)) h2
 ·rfl
theorem KR {ss:List SampV} (h:dD ss=0):TX ss=false:=by
 unfold dD at h
 split at h
 ·cases h
 ·split at h
  ·rename_i h1; exact absurd h h1
  ·split at h
   ·cases h
   ·rename_i h2; simpa using h2
theorem aCA {size:Nat} {ss:List SampV} (h1:24<=size) (h2:size<=96) (hl:ss.length<=8) (hsm:∀ s ∈ ss,s.small) (h:dD ss=0):CanP size (dF ss):=by
 have hc:=IX h
 have hp:=nJ ss
 refine ⟨h1,h2,by rw [hp.length_eq]; exact hl,fun s hs=>tN (hc s (hp.subset hs)) (hsm s (hp.subset hs)),fun s hs=>sA (hc s (hp.subset hs)),fun m x y hx hy=>?_⟩
 have hm:=(List.getElem?_eq_some_iff.1 hy).1
 have:=List.pairwise_iff_getElem.1 (aAt (KR h)) m (m+1) (by omega) hm (by omega)
 rw [List.getElem?_eq_getElem (by omega)] at hx
 rw [List.getElem?_eq_getElem hm] at hy
 injection hx with hx
 injection hy with hy
 rw [<-hx,<-hy]
 exact this
end
end Go.Proofs.YtnbbfblaipjcmaaGreatDoor
