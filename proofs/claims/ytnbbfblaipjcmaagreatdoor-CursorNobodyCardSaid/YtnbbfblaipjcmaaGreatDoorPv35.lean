/- Names, Samp. Conditions: as each theorem states. -/
import Derived.Lib.Bytealg
import Derived.Test.YtnbbfblaipjcmaaGreatDoorPv11
import Derived.Test.YtnbbfblaipjcmaaGreatDoorPv03
namespace Go.Proofs.YtnbbfblaipjcmaaGreatDoor
section
open Go.Lib
theorem IY:∀ (a:List UInt8),compareBytes a a=0
 | []=>rfl
 | x :: r=>by
  unfold compareBytes
  rw [if_neg (UInt8.lt_irrefl x),if_neg (UInt8.lt_irrefl x)]
  exact IY r
theorem tZ {a b:UInt8}:a < b ↔ a.toNat < b.toNat:=UInt8.lt_iff_toNat_lt
theorem RS {a b:UInt8} (h:a.toNat=b.toNat):a=b:=UInt8.toNat_inj.1 h
theorem sE {a b:UInt8} (h:¬ a < b):b.toNat<=a.toNat:=Nat.not_lt.1 fun h2=>h (tZ.2 h2)
theorem uO:∀ (a b:List UInt8),(compareBytes a b = -1/\compareBytes b a=1)\/(compareBytes a b=1/\compareBytes b a = -1)\/(compareBytes a b=0/\compareBytes b a=0/\a=b)
 | [],[]=>.inr (.inr ⟨rfl,rfl,rfl⟩)
 | [],_ :: _=>.inl ⟨rfl,rfl⟩
 | _ :: _,[]=>.inr (.inl ⟨rfl,rfl⟩)
 | x :: r,y :: s=>by
  unfold compareBytes
  rcases Nat.lt_trichotomy x.toNat y.toNat with h | h | h
  ·rw [if_pos (tZ.2 h),if_neg (fun h2=>by have:=tZ.1 h2; omega),if_pos (tZ.2 h)]
   exact .inl ⟨rfl,rfl⟩
  ·obtain rfl:=RS h
   rw [if_neg (UInt8.lt_irrefl x),if_neg (UInt8.lt_irrefl x),if_neg (UInt8.lt_irrefl x),if_neg (UInt8.lt_irrefl x)]
   rcases uO r s with h1 | h1 | ⟨h1,h2,h3⟩
   ·exact .inl h1
   ·exact .inr (.inl h1)
   ·exact .inr (.inr ⟨h1,h2,by rw [h3]⟩)
  ·rw [if_neg (fun h2=>by have:=tZ.1 h2; omega),if_pos (tZ.2 h),if_pos (tZ.2 h)]
   exact .inr (.inl ⟨rfl,rfl⟩)
theorem CZ:∀ (a b c:List UInt8),compareBytes a b < 0->compareBytes b c < 0->compareBytes a c < 0
 | [],[],_,h,_=>absurd h (by simp [compareBytes])
 | [],_ :: _,[],_,h=>absurd h (by simp [compareBytes])
 | [],_ :: _,_ :: _,_,_=>by simp [compareBytes]
 | _ :: _,[],_,h,_=>absurd h (by simp [compareBytes])
 | _ :: _,_ :: _,[],_,h=>absurd h (by simp [compareBytes])
 | x :: r,y :: s,z :: t,h1,h2=>by
  unfold compareBytes at *
  have ih:=CZ r s t
  by_cases e1:x < y
  ·by_cases e2:y < z
   ·rw [if_pos (tZ.2 (Nat.lt_trans (tZ.1 e1) (tZ.1 e2)))]; omega
   ·rw [if_neg e2] at h2
    by_cases e3:z < y
    ·rw [if_pos e3] at h2; omega
    ·obtain rfl:y=z:=RS (Nat.le_antisymm (sE e3) (sE e2))
     rw [if_pos e1]; omega
  ·rw [if_neg e1] at h1
   by_cases e4:y < x
   ·rw [if_pos e4] at h1; omega
   ·obtain rfl:x=y:=RS (Nat.le_antisymm (sE e4) (sE e1))
    rw [if_neg e4] at h1
    by_cases e2:x < z
    ·rw [if_pos e2]; omega
    ·rw [if_neg e2] at h2
     by_cases e3:z < x
     ·rw [if_pos e3] at h2; omega
     ·rw [if_neg e3] at h2
      rw [if_neg e2,if_neg e3]
      exact ih h1 h2
def bV (a b:ByteArray):Bool:=decide (compareBytes a.data.toList b.data.toList < 0)
theorem CX {a b:ByteArray} (h:a.data.toList=b.data.toList):a=b:=by
 apply ByteArray.ext; exact Array.toList_inj.1 h
theorem uW (a:ByteArray):bV a a=false:=by unfold bV; rw [IY]; rfl
theorem uV {a b:ByteArray} (h:bV a b=true):bV b a=false:=by
 unfold bV at *
 rcases uO a.data.toList b.data.toList with ⟨_,h4⟩ | ⟨h3,_⟩ | ⟨h3,_⟩
 ·rw [h4]; rfl
 ·rw [h3] at h; simp at h
 ·rw [h3] at h; simp at h
theorem qF {a b c:ByteArray} (h1:bV a b=true) (h2:bV b c=true):bV a c=true:=by
 unfold bV at *
 simp only [decide_eq_true_eq] at *
 exact CZ _ _ _ h1 h2
theorem yF {a b:ByteArray} (h1:bV a b=false) (h2:bV b a=false):a=b:=by
 unfold bV at *
 rcases uO a.data.toList b.data.toList with ⟨h3,h4⟩ | ⟨h3,h4⟩ | ⟨_,_,h3⟩
 ·simp [h3] at h1
 ·simp [h4] at h2
 ·exact CX h3
end
section
open Go.RowKit Go.Lib
structure SampV where
 name:ByteArray
 rate:Int
 lp:Bool
 f:Int
 t:Int
 rows:List (List Int)
instance:Inhabited SampV:=⟨⟨ByteArray.empty,0,false,0,0,[]⟩⟩
structure HSamp where
 nm:ByteArray
 rate:Int
 lp:Bool
 f:Int
 t:Int
 a:Option Addr
 len:Nat
 cap:Nat
instance:Inhabited HSamp:=⟨⟨ByteArray.empty,0,false,0,0,none,0,0⟩⟩
def HSamp.cells (h:HSamp):List Value:=[.string h.nm,.int .i64 h.rate,.bool h.lp,.int .i64 h.f,.int .i64 h.t,.slice h.a h.len h.cap]
def HSamp.fits (w:World) (B:Nat) (h:HSamp) (s:SampV):Prop :=
 (h.nm=s.name/\h.rate=s.rate/\h.lp=s.lp/\h.f=s.f/\h.t=s.t/\h.len=s.rows.length)/\s.rows.length<=h.cap/\h.cap<=9223372036854775807/\∃ vs,Row w B h.a vs/\RowsAt w B vs s.rows
theorem HSamp.fits.below {w w':World} {B:Nat} {h:HSamp} {s:SampV} (k:h.fits w B s) (hb:Below B w w'):h.fits w' B s:=by
 obtain ⟨h1,h2,h3,vs,h4,h5⟩:=k
 exact ⟨h1,h2,h3,vs,h4.below hb,h5.below hb⟩
theorem HSamp.fits.more {w:World} {B B':Nat} {h:HSamp} {s:SampV} (k:h.fits w B s) (hb:B<=B'):h.fits w B' s:=by
 obtain ⟨h1,h2,h3,vs,h4,h5⟩:=k
 exact ⟨h1,h2,h3,vs,h4.more hb,h5.more hb⟩
structure ASamp where
 idx:Int
 h:HSamp
 s:SampV
instance:Inhabited ASamp:=⟨⟨0,default,default⟩⟩
def ASamp.cells (x:ASamp):List Value:=x.h.cells
def eW (L:List (HSamp × SampV)):List Value:=(L.map fun p=>p.1.cells).flatten
structure SampsAt (w:World) (B:Nat) (A:Option Addr) (L:List (HSamp × SampV)):Prop where
 row:Row w B A (eW L)
 fits:∀ p ∈ L,p.1.fits w B p.2
theorem SampsAt.below {w w':World} {B:Nat} {A:Option Addr} {L:List (HSamp × SampV)} (k:SampsAt w B A L) (hb:Below B w w'):SampsAt w' B A L:=⟨k.row.below hb,fun p hp=>(k.fits p hp).below hb⟩
theorem SampsAt.more {w:World} {B B':Nat} {A:Option Addr} {L:List (HSamp × SampV)} (k:SampsAt w B A L) (hb:B<=B'):SampsAt w B' A L:=⟨k.row.more hb,fun p hp=>(k.fits p hp).more hb⟩
theorem SampsAt.later {w w':World} {A:Option Addr} {L:List (HSamp × SampV)} (k:SampsAt w w.heap.size A L) (hb:Below w.heap.size w w'):SampsAt w' w'.heap.size A L:=(k.below hb).more hb.size
theorem LF:∀ x:ASamp,x.cells.length=6:=fun _=>rfl
theorem UY:∀ x:ASamp,∀ v ∈ x.cells,v.oneCell'=true:=by
 intro x v hv
 simp only [ASamp.cells,HSamp.cells,List.mem_cons,List.not_mem_nil,or_false] at hv
 rcases hv with rfl | rfl | rfl | rfl | rfl | rfl <;> rfl
theorem OY (L:List (HSamp × SampV)) {k:Nat} {p:HSamp × SampV} (h:L[k]? = some p) (j:Nat) (hj:j < 6):(eW L)[k*6+j]? = p.1.cells[j]?:=by
 unfold eW
 rw [mX 6 (L.map fun p=>p.1.cells) (fun cs hcs=>by obtain ⟨z,_,rfl⟩:=List.mem_map.1 hcs; rfl) k j hj]
 simp [h]
theorem BK {w:World} {B:Nat} {A:Option Addr} {L:List (HSamp × SampV)} (hr:Row w B A (eW L)) {k:Nat} {p:HSamp × SampV} (h:L[k]? = some p) :
  ∃ b off,A=some ⟨b,off,none⟩/\b < B/\∀ j v,p.1.cells[j]? = some v->w.cell? ⟨b,off+k*6+j,none⟩=some v:=by
 have h0:=OY L h 0 (by omega)
 obtain ⟨b,off,hA,hb,_⟩:=hr (k*6+0) (.string p.1.nm) h0
 refine ⟨b,off,hA,hb,fun j v hv=>?_⟩
 have hj:j < 6:=by have:=(List.getElem?_eq_some_iff.1 hv).1; simpa [HSamp.cells] using this
 have h1:=OY L h j hj
 rw [hv] at h1
 obtain ⟨b',off',hA',_,hc⟩:=hr (k*6+j) v h1
 rw [hA] at hA'
 injection hA' with hA'
 injection hA' with e1 e2
 subst e1 e2
 rw [Nat.add_assoc]; exact hc
/-! In the order of their names. -/
def mK (x y:ASamp):Int:=compareBytes x.h.nm.data.toList y.h.nm.data.toList
def n6 (x y:Int × ByteArray):Bool:=bV x.2 y.2 || (!bV y.2 x.2 && decide (x.1 < y.1))
theorem MF {α:Type} (f:α->ByteArray):Sort.SWO (fun x y=>bV (f x) (f y)) :=
 ⟨fun x=>uW _,fun x y z h1 h2=>qF h1 h2,fun x y z h1 h2=>by
  cases h:bV (f x) (f z)
  ·rfl
  ·exfalso
   cases h3:bV (f y) (f x)
   ·rw [yF h1 h3] at h; rw [h] at h2; cases h2
   ·have:=qF h3 h
    rw [this] at h2; cases h2⟩
theorem RC:Sort.SWO (ltOf mK):=MF fun x:ASamp=>x.h.nm
theorem aAg (x y:Int × ByteArray) (h:n6 x y=true):n6 y x=false:=by
 unfold n6 at *
 simp only [Bool.or_eq_true,Bool.and_eq_true,Bool.not_eq_true',decide_eq_true_eq] at h
 rcases h with h | ⟨h1,h2⟩
 ·rw [uV h,h]; simp
 ·rw [h1]; simp; omega
theorem JV (x:Int × ByteArray):n6 x x=false:=by unfold n6; rw [uW]; simp
theorem nC {a b c:ByteArray} (h1:bV a b=false) (h2:bV b c=false):bV a c=false:=(MF fun x:ByteArray=>x).ntrans a b c h1 h2
theorem yJ (x y:Int × ByteArray):n6 x y=true ↔ (bV x.2 y.2=true\/(bV y.2 x.2=false/\x.1 < y.1)):=by
 unfold n6; simp
theorem JW (x y:Int × ByteArray):n6 x y=false ↔ (bV x.2 y.2=false/\(bV y.2 x.2=true\/¬ x.1 < y.1)):=by
 unfold n6
 simp only [Bool.or_eq_false_iff,Bool.and_eq_false_iff,Bool.not_eq_false',decide_eq_false_iff_not]
theorem aAE {α:Type} (f:α->Int × ByteArray):Sort.SWO (fun x y=>n6 (f x) (f y)):=by
 refine ⟨fun x=>JV _,fun x y z h1 h2=>?_,fun x y z h1 h2=>?_⟩
 ·rw [yJ] at *
  rcases h1 with h1 | ⟨h1,h1'⟩
  ·rcases h2 with h2 | ⟨h2,_⟩
   ·exact .inl (qF h1 h2)
   ·left
    cases h3:bV (f x).2 (f z).2
    ·rw [nC h3 h2] at h1; cases h1
    ·rfl
  ·rcases h2 with h2 | ⟨h2,h2'⟩
   ·left
    cases h3:bV (f x).2 (f z).2
    ·rw [nC h1 h3] at h2; cases h2
    ·rfl
   ·exact .inr ⟨nC h2 h1,by omega⟩
 ·rw [JW] at *
  obtain ⟨h11,h12⟩:=h1
  obtain ⟨h21,h22⟩:=h2
  refine ⟨nC h11 h21,?_⟩
  cases h:bV (f z).2 (f x).2
  ·right
   rcases h12 with h12 | h12
   ·rw [nC h21 h] at h12; cases h12
   ·rcases h22 with h22 | h22
    ·rw [nC h h11] at h22; cases h22
    ·omega
  ·exact .inl rfl
theorem qO {α:Type} [Inhabited α] (f:α->Int × ByteArray) (L:List α) (hinc:L.Pairwise fun x y=>(f x).1 < (f y).1) :
  (dJ (fun x y=>bV (f x).2 (f y).2) L).Perm L/\(dJ (fun x y=>bV (f x).2 (f y).2) L).Pairwise fun x y=>n6 (f x) (f y)=true:=by
 have hS:=MF fun x:α=>(f x).2
 have hp:=gJ _ hS L
 refine ⟨hp,?_⟩
 have e1:dJ (fun x y=>bV (f x).2 (f y).2) L=dJ (fun x y=>n6 (f x) (f y)) L:=wW _ _ (fun x=>(f x).1) (fun x y hxy=>by
  have:¬ (f x).1 < (f y).1:=by omega
  simp [n6,this]) L hinc
 have hs:=qN _ (aAE f) L
 rw [<-e1] at hs
 have hne:(dJ (fun x y=>bV (f x).2 (f y).2) L).Pairwise fun x y=>(f x).1 ≠ (f y).1:=by
  refine (hp.pairwise_iff (fun {x y} h=>Ne.symm h)).2 (hinc.imp fun {x y} h=>?_)
  omega
 refine (hs.and hne).imp fun {x y} ⟨h1,h2⟩=>?_
 rw [JW] at h1
 rw [yJ]
 obtain ⟨h3,h4⟩:=h1
 rcases h4 with h4 | h4
 ·exact .inl h4
 ·exact .inr ⟨h3,by omega⟩
def dF (ss:List SampV):List SampV:=(dJ (fun x y:Int × SampV=>bV x.2.name y.2.name) (ss.zipIdx.map fun p=>((p.2:Int),p.1))).map (·.2)
theorem XN (ss:List SampV):∀ k,((ss.zipIdx k).map fun p=>((p.2:Int),p.1)).Pairwise fun x y:Int × SampV=>x.1 < y.1:=by
 induction ss with
 | nil=>intro k; exact List.Pairwise.nil
 | cons s r ih =>
  intro k
  rw [List.zipIdx_cons,List.map_cons,List.pairwise_cons]
  refine ⟨fun x hx=>?_,ih (k+1)⟩
  obtain ⟨p,hp,rfl⟩:=List.mem_map.1 hx
  have:=List.le_snd_of_mem_zipIdx hp
  simp only
  omega
theorem VW (L:List ASamp) (hn:∀ x ∈ L,x.h.nm=x.s.name) (hidx:L.map (fun x=>(x.idx,x.s))=(L.map (·.s)).zipIdx.map fun p=>((p.2:Int),p.1)) :
  (dJ (ltOf mK) L).map (·.s)=dF (L.map (·.s)):=by
 have hz:=XN (L.map (·.s)) 0
 have hinc:L.Pairwise fun x y=>x.idx < y.idx:=by
  rw [<-hidx,List.pairwise_map] at hz
  exact hz
 obtain ⟨p1,s1⟩:=qO (fun x:ASamp=>(x.idx,x.h.nm)) L hinc
 obtain ⟨p2,s2⟩:=qO (fun x:Int × SampV=>(x.1,x.2.name)) ((L.map (·.s)).zipIdx.map fun p=>((p.2:Int),p.1)) hz
 have e:(dJ (ltOf mK) L).map (fun x=>(x.idx,x.s))=dJ (fun x y:Int × SampV=>bV x.2.name y.2.name) ((L.map (·.s)).zipIdx.map fun p=>((p.2:Int),p.1)):=by
  refine nF (fun x y:Int × SampV=>n6 (x.1,x.2.name) (y.1,y.2.name)=true) (fun x=>by rw [JV]; simp) (fun x y h=>by rw [aAg _ _ h]; simp) _ _ ?_ ?_ s2
  ·refine List.Perm.trans (p1.map fun x=>(x.idx,x.s)) ?_
   rw [hidx]; exact p2.symm
  ·rw [List.pairwise_map]
   refine List.Pairwise.imp_of_mem (fun {x y} hx hy h=>?_) s1
   rw [<-hn x (p1.subset hx),<-hn y (p1.subset hy)]
   exact h
 unfold dF
 rw [<-e,List.map_map]
 rfl
theorem nJ (ss:List SampV):(dF ss).Perm ss:=by
 unfold dF
 have hp:=gJ _ (MF fun x:Int × SampV=>x.2.name) (ss.zipIdx.map fun p=>((p.2:Int),p.1))
 have:=hp.map (·.2)
 rw [List.map_map] at this
 have e:(ss.zipIdx.map ((fun x:Int × SampV=>x.2) ∘ fun p=>((p.2:Int),p.1)))=ss:=by
  show ss.zipIdx.map (fun p=>p.1)=ss
  exact List.zipIdx_map_fst 0 ss
 rw [e] at this
 exact this
end
end Go.Proofs.YtnbbfblaipjcmaaGreatDoor
