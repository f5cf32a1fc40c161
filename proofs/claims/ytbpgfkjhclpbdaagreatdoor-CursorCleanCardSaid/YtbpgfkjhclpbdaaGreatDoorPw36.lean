/- Names, Samp. Conditions: as each theorem states. -/
import Derived.Lib.Bytealg
import Derived.Test.YtbpgfkjhclpbdaaGreatDoorPw11
namespace Go.Proofs.YtbpgfkjhclpbdaaGreatDoor
open Tryz
open Go.RowKit Go.Lib
section
open Go.Lib
theorem KR:∀ (a:List UInt8),compareBytes a a=0
 | []=>rfl
 | x::r=>by
  unfold compareBytes;rw[sL (aIO x),sL (aIO x)];exact KR r
theorem vN{a b:UInt8}:a<b ↔ a.toNat<b.toNat:=UInt8.lt_iff_toNat_lt
theorem VF{a b:UInt8}(h:a.toNat=b.toNat):a=b:=UInt8.toNat_inj.1 h
theorem tV{a b:UInt8}(h:¬ a<b):b.toNat<=a.toNat:=Nat.not_lt.1 fun h2=>h (vN.2 h2)
theorem wG:∀ (a b:List UInt8),(compareBytes a b = -1/\compareBytes b a=1)\/(compareBytes a b=1/\compareBytes b a = -1)\/(compareBytes a b=0/\compareBytes b a=0/\a=b)
 | [],[]=>.inr (.inr ⟨rfl,rfl,rfl⟩)
 | [],_::_=>.inl ⟨rfl,rfl⟩
 | _::_,[]=>.inr (.inl ⟨rfl,rfl⟩)
 | x::r,y::s=>by
  unfold compareBytes;rcases aJu x.toNat y.toNat with h|h|h
  ·rw[FN (vN.2 h),sL (fun h2=>by have:=vN.1 h2;omega),FN (vN.2 h)];exact .inl ⟨rfl,rfl⟩
  ·obtain rfl:=VF h;rw[sL (aIO x),sL (aIO x),sL (aIO x),sL (aIO x)];rcases wG r s with h1|h1|⟨h1,h2,d⟩
   ·exact .inl h1
   ·exact .inr (.inl h1)
   ·exact .inr (.inr ⟨h1,h2,by rw[d]⟩)
  ·rw[sL (fun h2=>by have:=vN.1 h2;omega),FN (vN.2 h),FN (vN.2 h)];exact .inr (.inl ⟨rfl,rfl⟩)
theorem FD:∀ (a b c:List UInt8),compareBytes a b<0->compareBytes b c<0->compareBytes a c<0
 | [],[],_,h,_=>absurd h (by simp[compareBytes])
 | [],_::_,[],_,h=>absurd h (by simp[compareBytes])
 | [],_::_,_::_,_,_=>by simp[compareBytes]
 | _::_,[],_,h,_=>absurd h (by simp[compareBytes])
 | _::_,_::_,[],_,h=>absurd h (by simp[compareBytes])
 | x::r,y::s,z::t,h1,h2=>by
  unfold compareBytes at *
  have J:=FD r s t
  by_cases G:x<y
  ·by_cases d:y<z
   ·rw[FN (vN.2 (Nat.lt_trans (vN.1 G) (vN.1 d)))];omega
   ·rw[sL d]at h2
    by_cases F:z<y
    ·rw[FN F]at h2;omega
    ·obtain rfl:y=z:=VF (aJt (tV F) (tV d));rw[FN G];omega
  ·rw[sL G]at h1
   by_cases I:y<x
   ·rw[FN I]at h1;omega
   ·obtain rfl:x=y:=VF (aJt (tV I) (tV G));rw[sL I]at h1
    by_cases d:x<z
    ·rw[FN d];omega
    ·rw[sL d]at h2
     by_cases F:z<x
     ·rw[FN F]at h2;omega
     ·rw[sL F]at h2;rw[sL d,sL F];exact J h1 h2
def cB(a b:ByteArray):Bool:=decide (compareBytes a.data.toList b.data.toList<0)
theorem E0{a b:ByteArray}(h:a.data.toList=b.data.toList):a=b:=by
 apply ByteArray.ext;exact aHX.1 h
theorem wP(a:ByteArray):cB a a=false:=by unfold cB;rw[KR];rfl
theorem wO{a b:ByteArray}(h:cB a b=true):cB b a=false:=by
 unfold cB at *
 rcases wG a.data.toList b.data.toList with ⟨_,t⟩|⟨d,_⟩|⟨d,_⟩
 ·rw[t];rfl
 ·rw[d]at h;simp at h
 ·rw[d]at h;simp at h
theorem rM{a b c:ByteArray}(h1:cB a b=true)(h2:cB b c=true):cB a c=true:=by
 unfold cB at *
 simp only[aGy]at *
 exact FD _ _ _ h1 h2
theorem AL{a b:ByteArray}(h1:cB a b=false)(h2:cB b a=false):a=b:=by
 unfold cB at *
 rcases wG a.data.toList b.data.toList with ⟨d,h⟩|⟨d,h⟩|⟨_,_,d⟩
 ·simp[d]at h1
 ·simp[h]at h2
 ·exact E0 d
end
structure aFM where
 name:ByteArray
 rate:Int
 lp:Bool
 f:Int
 t:Int
 rows:List (List Int)
instance:Inhabited aFM:=⟨⟨ByteArray.empty,0,false,0,0,[]⟩⟩
structure aFR where
 nm:ByteArray
 rate:Int
 lp:Bool
 f:Int
 t:Int
 a:Option Addr
 len:Nat
 cap:Nat
instance:Inhabited aFR:=⟨⟨ByteArray.empty,0,false,0,0,none,0,0⟩⟩
def aFR.cells(h:aFR):List Value:=[.string h.nm,.int .i64 h.rate,.bool h.lp,.int .i64 h.f,.int .i64 h.t,.slice h.a h.len h.cap]
def aFR.fits(w:World)(B:Nat)(h:aFR)(s:aFM):Prop :=
 (h.nm=s.name/\h.rate=s.rate/\h.lp=s.lp/\h.f=s.f/\h.t=s.t/\h.len=s.rows.length)/\s.rows.length<=h.cap/\h.cap<=9223372036854775807/\∃ vs,Row w B h.a vs/\RowsAt w B vs s.rows
theorem aFR.fits.below{w w':World}{B:Nat}{h:aFR}{s:aFM}(k:h.fits w B s)(hb:Below B w w'):h.fits w' B s:=by
 obtain⟨h1,h2,d,vs,t,z⟩:=k;exact⟨h1,h2,d,vs,t.below hb,z.below hb⟩
theorem aFR.fits.more{w:World}{B d:Nat}{h:aFR}{s:aFM}(k:h.fits w B s)(hb:B<=d):h.fits w d s:=by
 obtain⟨h1,h2,t,vs,z,F⟩:=k;exact⟨h1,h2,t,vs,z.more hb,F.more hb⟩
structure aFZ where
 idx:Int
 h:aFR
 s:aFM
instance:Inhabited aFZ:=⟨⟨0,default,default⟩⟩
def aFZ.cells(x:aFZ):List Value:=x.h.cells
def fK(L:List (aFR × aFM)):List Value:=(L.map fun p=>p.1.cells).flatten
structure aFX(w:World)(B:Nat)(A:Option Addr)(L:List (aFR × aFM)):Prop where
 row:Row w B A (fK L)
 fits:∀ p∈L,p.1.fits w B p.2
theorem aFX.below{w w':World}{B:Nat}{A:Option Addr}{L:List (aFR × aFM)}(k:aFX w B A L)(hb:Below B w w'):aFX w' B A L:=⟨k.row.below hb,fun p d=>(k.fits p d).below hb⟩
theorem aFX.more{w:World}{B d:Nat}{A:Option Addr}{L:List (aFR × aFM)}(k:aFX w B A L)(hb:B<=d):aFX w d A L:=⟨k.row.more hb,fun p h=>(k.fits p h).more hb⟩
theorem aFX.later{w w':World}{A:Option Addr}{L:List (aFR × aFM)}(k:aFX w w.heap.size A L)(hb:Below w.heap.size w w'):aFX w' w'.heap.size A L:=(k.below hb).more hb.size
theorem OD:∀ x:aFZ,x.cells.length=6:=fun _=>rfl
theorem YB:∀ x:aFZ,∀ v∈x.cells,v.oneCell'=true:=by
 intro x v d;simp only[aFZ.cells,aFR.cells,aGw,aGV,aGS]at d;rcases d with rfl|rfl|rfl|rfl|rfl|rfl <;> rfl
theorem ST(L:List (aFR × aFM)){k:Nat}{p:aFR × aFM}(h:L[k]? = some p)(j:Nat)(t:j<6):(fK L)[k*6+j]? = p.1.cells[j]?:=by
 unfold fK;rw[mU 6 (L.map fun p=>p.1.cells) (fun F d=>by obtain⟨z,_,rfl⟩:=aGq.1 d;rfl) k j t];simp[h]
theorem DW{w:World}{B:Nat}{A:Option Addr}{L:List (aFR × aFM)}(t:Row w B A (fK L)){k:Nat}{p:aFR × aFM}(h:L[k]? = some p):
  ∃ b off,A=some ⟨b,off,none⟩/\b<B/\∀ j v,p.1.cells[j]? = some v->w.cell? ⟨b,off+k*6+j,none⟩=some v:=by
 have I:=ST L h 0 (by omega);obtain⟨b,off,hA,hb,_⟩:=t (k*6+0) (.string p.1.nm) I;refine⟨b,off,hA,hb,fun j v z=>?_⟩;have O:j<6:=by have:=(aGi.1 z).1;simpa[aFR.cells] using this
 have h1:=ST L h j O;rw[z]at h1;obtain⟨U,V,d,_,J⟩:=t (k*6+j) v h1;rw[hA]at d;injection d with d
 injection d with F G
 subst F G;rw[aG4];exact J
/-! In the order of their names. -/
def nJ(x y:aFZ):Int:=compareBytes x.h.nm.data.toList y.h.nm.data.toList
def o5(x y:Int × ByteArray):Bool:=cB x.2 y.2||(!cB y.2 x.2&&decide (x.1<y.1))
theorem PE{α:Type}(f:α->ByteArray):Sort.SWO (fun x y=>cB (f x) (f y)) :=
 ⟨fun x=>wP _,fun x y z h1 h2=>rM h1 h2,fun x y z h1 h2=>by
  cases h:cB (f x) (f z)
  ·rfl
  ·exfalso;cases d:cB (f y) (f x)
   ·rw[AL h1 d]at h;rw[h]at h2;cases h2
   ·have:=rM d h;rw[this]at h2;cases h2⟩
theorem U2:Sort.SWO (ltOf nJ):=PE fun x:aFZ=>x.h.nm
theorem aBQ(x y:Int × ByteArray)(h:o5 x y=true):o5 y x=false:=by
 unfold o5 at *
 simp only[aHw,aGu,aIQ,aGy]at h;rcases h with h|⟨h1,h2⟩
 ·rw[wO h,h];simp
 ·rw[h1];simp;omega
theorem MD(x:Int × ByteArray):o5 x x=false:=by unfold o5;rw[wP];simp
theorem oC{a b c:ByteArray}(h1:cB a b=false)(h2:cB b c=false):cB a c=false:=(PE fun x:ByteArray=>x).ntrans a b c h1 h2
theorem AP(x y:Int × ByteArray):o5 x y=true ↔ (cB x.2 y.2=true\/(cB y.2 x.2=false/\x.1<y.1)):=by
 unfold o5;simp
theorem MF(x y:Int × ByteArray):o5 x y=false ↔ (cB x.2 y.2=false/\(cB y.2 x.2=true\/¬ x.1<y.1)):=by
 unfold o5;simp only[aJC,aJ5,Bool.not_eq_false',aI8]
theorem aCe{α:Type}(f:α->Int × ByteArray):Sort.SWO (fun x y=>o5 (f x) (f y)):=by
 refine⟨fun x=>MD _,fun x y z h1 h2=>?_,fun x y z h1 h2=>?_⟩
 ·rw[AP]at *
  rcases h1 with h1|⟨h1,J⟩
  ·rcases h2 with h2|⟨h2,_⟩
   ·exact .inl (rM h1 h2)
   ·left;cases F:cB (f x).2 (f z).2
    ·rw[oC F h2]at h1;cases h1
    ·rfl
  ·rcases h2 with h2|⟨h2,O⟩
   ·left;cases F:cB (f x).2 (f z).2
    ·rw[oC h1 F]at h2;cases h2
    ·rfl
   ·exact .inr ⟨oC h2 h1,by omega⟩
 ·rw[MF]at *
  obtain⟨G,d⟩:=h1;obtain⟨I,t⟩:=h2;refine⟨oC G I,?_⟩;cases h:cB (f z).2 (f x).2
  ·right;rcases d with d|d
   ·rw[oC I h]at d;cases d
   ·rcases t with t|t
    ·rw[oC h G]at t;cases t
    ·omega
  ·exact .inl rfl
theorem rU{α:Type} [Inhabited α](f:α->Int × ByteArray)(L:List α)(t:L.Pairwise fun x y=>(f x).1<(f y).1):
  (dW (fun x y=>cB (f x).2 (f y).2) L).Perm L/\(dW (fun x y=>cB (f x).2 (f y).2) L).Pairwise fun x y=>o5 (f x) (f y)=true:=by
 have J:=PE fun x:α=>(f x).2
 have z:=iE _ J L;refine⟨z,?_⟩;have G:dW (fun x y=>cB (f x).2 (f y).2) L=dW (fun x y=>o5 (f x) (f y)) L:=y9 _ _ (fun x=>(f x).1) (fun x y U=>by
  have:¬ (f x).1<(f y).1:=by omega
  simp[o5,this]) L t
 have F:=rT _ (aCe f) L;rw[<-G]at F;have O:(dW (fun x y=>cB (f x).2 (f y).2) L).Pairwise fun x y=>(f x).1≠(f y).1:=by
  refine (z.pairwise_iff (fun {x y} h=>aHr h)).2 (t.imp fun {x y} h=>?_);omega
 refine (F.and O).imp fun {x y} ⟨h1,h2⟩=>?_
 rw[MF]at h1;rw[AP];obtain⟨I,d⟩:=h1;rcases d with d|d
 ·exact .inl d
 ·exact .inr ⟨I,by omega⟩
def cV(d:List aFM):List aFM:=(dW (fun x y:Int × aFM=>cB x.2.name y.2.name) (d.zipIdx.map fun p=>((p.2:Int),p.1))).map (·.2)
theorem aAD(d:List aFM):∀ k,((d.zipIdx k).map fun p=>((p.2:Int),p.1)).Pairwise fun x y:Int × aFM=>x.1<y.1:=by
 induction d with
 | nil=>intro k;exact List.Pairwise.nil
 | cons s r z =>
  intro k;rw[List.zipIdx_cons,aHF,aJn];refine⟨fun x t=>?_,z (k+1)⟩;obtain⟨p,h,rfl⟩:=aGq.1 t;have:=List.le_snd_of_mem_zipIdx h;simp only;omega
theorem ZH(L:List aFZ)(F:∀ x∈L,x.h.nm=x.s.name)(z:L.map (fun x=>(x.idx,x.s))=(L.map (·.s)).zipIdx.map fun p=>((p.2:Int),p.1)):
  (dW (ltOf nJ) L).map (·.s)=cV (L.map (·.s)):=by
 have d:=aAD (L.map (·.s)) 0;have G:L.Pairwise fun x y=>x.idx<y.idx:=by
  rw[<-z,aIu]at d;exact d
 obtain⟨t,U⟩:=rU (fun x:aFZ=>(x.idx,x.h.nm)) L G;obtain⟨O,V⟩:=rU (fun x:Int × aFM=>(x.1,x.2.name)) ((L.map (·.s)).zipIdx.map fun p=>((p.2:Int),p.1)) d;have e:(dW (ltOf nJ) L).map (fun x=>(x.idx,x.s))=dW (fun x y:Int × aFM=>cB x.2.name y.2.name) ((L.map (·.s)).zipIdx.map fun p=>((p.2:Int),p.1)):=by
  refine oD (fun x y:Int × aFM=>o5 (x.1,x.2.name) (y.1,y.2.name)=true) (fun x=>by rw[MD];simp) (fun x y h=>by rw[aBQ _ _ h];simp) _ _ ?_ ?_ V
  ·refine List.Perm.trans (t.map fun x=>(x.idx,x.s)) ?_;rw[z];exact O.symm
  ·rw[aIu];refine List.Pairwise.imp_of_mem (fun {x y} I J h=>?_) U;rw[<-F x (t.subset I),<-F y (t.subset J)];exact h
 unfold cV;rw[<-e,aHj]
 rfl
theorem oI(d:List aFM):(cV d).Perm d:=by
 unfold cV;have h:=iE _ (PE fun x:Int × aFM=>x.2.name) (d.zipIdx.map fun p=>((p.2:Int),p.1));have:=h.map (·.2);rw[aHj]at this;have e:(d.zipIdx.map ((fun x:Int × aFM=>x.2) ∘ fun p=>((p.2:Int),p.1)))=d:=by
  show d.zipIdx.map (fun p=>p.1)=d;exact List.zipIdx_map_fst 0 d
 rw[e]at this;exact this
end Go.Proofs.YtbpgfkjhclpbdaaGreatDoor
