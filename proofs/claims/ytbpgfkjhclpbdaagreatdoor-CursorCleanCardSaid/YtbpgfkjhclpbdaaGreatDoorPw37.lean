/- SampB. Conditions: as each theorem states. -/
import Derived.Ground.SlsfProg
import Derived.WalkSpells
import Derived.Test.YtbpgfkjhclpbdaaGreatDoorPw34
import Derived.Test.YtbpgfkjhclpbdaaGreatDoorPw36
set_option maxRecDepth 100000
namespace Go.Proofs.YtbpgfkjhclpbdaaGreatDoor
open Tryz
open Go.RowKit Go.Shelf
/-! slices.insertionSortCmpFunc at this program. -/
def aDq:Go.Shelf.Ren:=⟨fun|20=>199|n=>n,fun|24=>119|22=>22|3=>3|25=>246|4=>4|0=>0|n=>n,fun|n=>n⟩
theorem aFF:Go.Proofs.SlLaysF0.n20 prog aDq:={
 mixed:=by kernel_rfl
 f20:=⟨f199.name,by decide,func199.trans (aGp some (by kernel_rfl))⟩
 t0:=underlying0
 a0:=isAgg0
 z0:=sizeOf0
 v0:=zeroValue0
 t3:=underlying3
 a3:=isAgg3
 z3:=sizeOf3
 v3:=zeroValue3
 t4:=underlying4
 a4:=isAgg4
 z4:=sizeOf4
 v4:=zeroValue4
 t22:=underlying22
 a22:=isAgg22
 z22:=sizeOf22
 v22:=zeroValue22
 t25:=underlying246
 a25:=isAgg246
 z25:=sizeOf246
 v25:=zeroValue246 }
theorem RP(W:World)(d h:Obj):((W.alloc d).alloc h)=Sort.grow (W.drewN 0) #[d,h]:=by
 rw[aJc,aJc,Sort.grow_grow]
 rfl
theorem ZG(x y:aFR)(W:World):
  Calls prog 141 #[.agg x.cells.toArray,.agg y.cells.toArray] W fun e w'=>e=.returned (.int .i64 (Lib.compareBytes x.nm.data.toList y.nm.data.toList))/\w'=((W.alloc (.cells x.cells.toArray 119)).alloc (.cells y.cells.toArray 119)):=by
 obtain⟨d,r1,V,f1,t1,F,O,I⟩:=x;obtain⟨h,r2,Z,f2,t2,G,U,J⟩:=y;simp only[aFR.cells];have t:=aGC (fun W=>DG d h W);generalize Lib.compareBytes d.data.toList h.data.toList=z at *
 go_enter func141,ntmps141;go_wp2_with (go_at_call 142;refine (t.out _).mono ?_;rintro e w' ⟨rfl,rfl⟩)
 go_ret
 exact⟨rfl,rfl⟩
theorem aBz(blk off size:Nat)(w:World):CmpLays prog 141 #[] aFZ.cells 6 nJ blk off size w:=by
 intro m os d _ x y;generalize sortWorldK aFZ.cells 6 w blk off m d os=W;refine (ZG x.h y.h W).mono ?_;rintro e w' ⟨he,t⟩;exact⟨he,0,_,t.trans (RP W _ _)⟩
theorem aB4{α:Type} [Inhabited α](lt:α->α->Bool)(d:Sort.SWO lt)(l:List α):(dW lt l).length=l.length:=(iE lt d l).length_eq
theorem aBq(A:Option Addr)(cap:Nat)(d:Value)(w:World):Calls prog 199 #[.slice A 0 cap,.int .i64 0,.int .i64 0,d] w fun e w'=>e=.returned (.tuple #[])/\w=w':=by
 go_enter func199,ntmps199;go_wp2;refine aHD 1 ?_;rw[rounds_succ];go_wp2
 go_end0
 exact⟨rfl,rfl⟩
def zO(B:Nat)(W:World)(A:Option Addr)(l:List aFZ)(e:Ending)(w':World):Prop:=e=.returned (.tuple #[])/\kH aFZ.cells 6 B w' A l/\Below B W w'
theorem aDp(d:aFZ->aFZ->Int)(g:Nat)(z:Sort.SWO (ltOf d))(G:∀ blk off size w,CmpLays prog g #[] aFZ.cells 6 d blk off size w)(F:∀ args w,(callFunc g args).run prog w=.ok (.enter g args) w)
 (l:List aFZ)(A:Option Addr)(cap B:Nat)(w:World)(hh:kH aFZ.cells 6 B w A l)(I:l.length<=1000000):
  Calls prog 199 #[.slice A l.length cap,.int .i64 0,.int .i64 l.length,.func (.func g) #[] #[]] w (zO B w A (dW (ltOf d) l)):=by
 rcases hh with rfl|⟨k,rfl,t,hk,hh⟩
 ·refine (aBq A cap _ w).mono ?_;rintro e w' ⟨he,rfl⟩;exact⟨he,.inl (List.perm_nil.1 (iE _ z [])),aGj _ _⟩
 ·have h:=AnyQ.insertionSortCmpFunc aFF 6 (fun w=>by kernel_rfl) (fun w=>by kernel_rfl) aFZ.cells OD YB d g #[] k 0 cap 0 l.length l.toArray w F (G _ _ _ _) hh hk (aG3 _) (by simp) (by simp;omega);refine Calls.mono (show Calls prog 199 #[.slice (some ⟨k,0,none⟩) l.length cap,.int .i64 0,.int .i64 l.length,.func (.func g) #[] #[]] w _ from h) ?_;rintro e w' ⟨he,n,os,rfl⟩;refine⟨he,?_,sM _ _ _ _ _ _ _ _ B t hk⟩;have:=yN (enc:=aFZ.cells) (k:=6) t hk hh (m:=dW (ltOf d) l) (aB4 _ z l) n os;exact this
set_option maxHeartbeats 1000000 in
theorem UT(d:aFZ->aFZ->Int)(g:Nat)(z:Sort.SWO (ltOf d))(F:∀ blk off size w,CmpLays prog g #[] aFZ.cells 6 d blk off size w)(t:∀ args w,(callFunc g args).run prog w=.ok (.enter g args) w)
 (l:List aFZ)(A:Option Addr)(cap B:Nat)(w:World)(hh:kH aFZ.cells 6 B w A l)(U:l.length<=19):
  Calls prog 140 #[.slice A l.length cap,.func (.func g) #[] #[]] w (zO B w A (dW (ltOf d) l)):=by
 have I:=aGC (aDp d g z F t l A cap B w hh (by omega));generalize dW (ltOf d) l=L at *
 obtain⟨n,G⟩:∃ n,l.length=n:=⟨_,rfl⟩;rw[G]at I U ⊢;have V:¬ ((20:Int)<=(n:Int)):=by omega
 have W:¬ ((20:Int)<(n:Int)):=by omega
 have h:Calls prog 171 #[.slice A n cap,.int .i64 n,.func (.func g) #[] #[]] w (zO B w A L):=by
  clear G hh t F z;go_enter func171,ntmps171;go_wp2_with fail
  refine aHD 1 ?_;rw[rounds_succ];go_wp2_with fail
  refine I.out.mono ?_;rintro e w' ⟨rfl,h1,h2⟩;have J:=aGC h1;have O:=aGC h2;clear h1 h2;go_wp2_with fail
  refine aHD 1 ?_;rw[rounds_succ];go_wp2_with fail
  go_end0
  exact⟨rfl,J.out,O.out⟩
 have h:=aGC h;clear G hh t F z;go_enter func140,ntmps140;go_wp2_with fail
 refine h.out.mono ?_;rintro e w' ⟨rfl,h1,h2⟩;go_wp2_with fail
 go_end0
 exact⟨rfl,h1,h2⟩
end Go.Proofs.YtbpgfkjhclpbdaaGreatDoor
