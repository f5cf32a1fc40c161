/- SampB. Conditions: as each theorem states. -/
import Derived.Ground.SlsfProg
import Derived.WalkSpells
import Derived.Test.YtnbbfblaipjcmaaGreatDoorPv33
import Derived.Test.YtnbbfblaipjcmaaGreatDoorPv35
set_option maxRecDepth 100000
namespace Go.Proofs.YtnbbfblaipjcmaaGreatDoor
open Go.RowKit Go.Shelf
/-! slices.insertionSortCmpFunc at this program. -/
def aBF:Go.Shelf.Ren:=⟨fun | 20=>228 | n=>n,fun | 24=>138 | 22=>22 | 3=>3 | 25=>274 | 4=>4 | 0=>0 | n=>n,fun | n=>n⟩
theorem aDY:Go.Proofs.SlLaysF0.n20 Tryz.prog aBF:={
 mixed:=by kernel_rfl
 f20:=⟨Tryz.f228.name,by decide,Tryz.func228.trans (congrArg some (by kernel_rfl))⟩
 t0:=Tryz.underlying0
 a0:=Tryz.isAgg0
 z0:=Tryz.sizeOf0
 v0:=Tryz.zeroValue0
 t3:=Tryz.underlying3
 a3:=Tryz.isAgg3
 z3:=Tryz.sizeOf3
 v3:=Tryz.zeroValue3
 t4:=Tryz.underlying4
 a4:=Tryz.isAgg4
 z4:=Tryz.sizeOf4
 v4:=Tryz.zeroValue4
 t22:=Tryz.underlying22
 a22:=Tryz.isAgg22
 z22:=Tryz.sizeOf22
 v22:=Tryz.zeroValue22
 t25:=Tryz.underlying274
 a25:=Tryz.isAgg274
 z25:=Tryz.sizeOf274
 v25:=Tryz.zeroValue274 }
theorem OB (W:World) (o1 o2:Obj):((W.alloc o1).alloc o2)=Sort.grow (W.drewN 0) #[o1,o2]:=by
 rw [Sort.alloc_eq_grow,Sort.alloc_eq_grow,Sort.grow_grow]
 rfl
theorem VV (x y:HSamp) (W:World) :
  Calls Tryz.prog 171 #[.agg x.cells.toArray,.agg y.cells.toArray] W fun e w'=>e=.returned (.int .i64 (Lib.compareBytes x.nm.data.toList y.nm.data.toList))/\w'=((W.alloc (.cells x.cells.toArray 138)).alloc (.cells y.cells.toArray 138)):=by
 obtain ⟨n1,r1,p1,f1,t1,a1,l1,c1⟩:=x
 obtain ⟨n2,r2,p2,f2,t2,a2,l2,c2⟩:=y
 simp only [HSamp.cells]
 have HC:=Lib.hid (fun W=>AV n1 n2 W)
 generalize Lib.compareBytes n1.data.toList n2.data.toList=z at *
 go_enter Tryz.func171,Tryz.ntmps171
 go_wp2_with (go_at_call 172; refine (HC.out _).mono ?_; rintro e w' ⟨rfl,rfl⟩)
 go_ret
 exact ⟨rfl,rfl⟩
theorem ZS (blk off size:Nat) (w:World):CmpLays Tryz.prog 171 #[] ASamp.cells 6 mK blk off size w:=by
 intro m os dk _ x y
 generalize sortWorldK ASamp.cells 6 w blk off m dk os=W
 refine (VV x.h y.h W).mono ?_
 rintro e w' ⟨he,hw⟩
 exact ⟨he,0,_,hw.trans (OB W _ _)⟩
theorem aAu {α:Type} [Inhabited α] (lt:α->α->Bool) (hS:Sort.SWO lt) (l:List α):(dJ lt l).length=l.length:=(gJ lt hS l).length_eq
theorem ZI (A:Option Addr) (cap:Nat) (fv:Value) (w:World):Calls Tryz.prog 228 #[.slice A 0 cap,.int .i64 0,.int .i64 0,fv] w fun e w'=>e=.returned (.tuple #[])/\w=w':=by
 go_enter Tryz.func228,Tryz.ntmps228
 go_wp2
 refine wp_loop_rounds 1 ?_
 rw [rounds_succ]
 go_wp2
 go_end0
 exact ⟨rfl,rfl⟩
def xK (B:Nat) (W:World) (A:Option Addr) (l:List ASamp) (e:Ending) (w':World):Prop:=e=.returned (.tuple #[])/\jT ASamp.cells 6 B w' A l/\Below B W w'
theorem aBE (cf:ASamp->ASamp->Int) (g:Nat) (hS:Sort.SWO (ltOf cf)) (hl:∀ blk off size w,CmpLays Tryz.prog g #[] ASamp.cells 6 cf blk off size w) (eg:∀ args w,(callFunc g args).run Tryz.prog w=.ok (.enter g args) w)
  (l:List ASamp) (A:Option Addr) (cap B:Nat) (w:World) (hh:jT ASamp.cells 6 B w A l) (hlen:l.length<=1000000) :
  Calls Tryz.prog 228 #[.slice A l.length cap,.int .i64 0,.int .i64 l.length,.func (.func g) #[] #[]] w (xK B w A (dJ (ltOf cf) l)):=by
 rcases hh with rfl | ⟨k,rfl,hBk,hk,hh⟩
 ·refine (ZI A cap _ w).mono ?_
  rintro e w' ⟨he,rfl⟩
  exact ⟨he,.inl (List.perm_nil.1 (gJ _ hS [])),Below.refl _ _⟩
 ·have h:=AnyQ.insertionSortCmpFunc aDY 6 (fun w=>by kernel_rfl) (fun w=>by kernel_rfl) ASamp.cells LF UY cf g #[] k 0 cap 0 l.length l.toArray w eg (hl _ _ _ _) hh hk (Nat.zero_le _) (by simp) (by simp; omega)
  refine Calls.mono (show Calls Tryz.prog 228 #[.slice (some ⟨k,0,none⟩) l.length cap,.int .i64 0,.int .i64 l.length,.func (.func g) #[] #[]] w _ from h) ?_
  rintro e w' ⟨he,n,os,rfl⟩
  refine ⟨he,?_,rD _ _ _ _ _ _ _ _ B hBk hk⟩
  have:=wG (enc:=ASamp.cells) (k:=6) hBk hk hh (m:=dJ (ltOf cf) l) (aAu _ hS l) n os
  exact this
set_option maxHeartbeats 1000000 in
theorem QZ (cf:ASamp->ASamp->Int) (g:Nat) (hS:Sort.SWO (ltOf cf)) (hl:∀ blk off size w,CmpLays Tryz.prog g #[] ASamp.cells 6 cf blk off size w) (eg:∀ args w,(callFunc g args).run Tryz.prog w=.ok (.enter g args) w)
  (l:List ASamp) (A:Option Addr) (cap B:Nat) (w:World) (hh:jT ASamp.cells 6 B w A l) (hlen:l.length<=19) :
  Calls Tryz.prog 170 #[.slice A l.length cap,.func (.func g) #[] #[]] w (xK B w A (dJ (ltOf cf) l)):=by
 have HI:=Lib.hid (aBE cf g hS hl eg l A cap B w hh (by omega))
 generalize dJ (ltOf cf) l=L at *
 obtain ⟨n,hn⟩:∃ n,l.length=n:=⟨_,rfl⟩
 rw [hn] at HI hlen ⊢
 have t1:¬ ((20:Int)<=(n:Int)):=by omega
 have t2:¬ ((20:Int) < (n:Int)):=by omega
 have HS:Calls Tryz.prog 198 #[.slice A n cap,.int .i64 n,.func (.func g) #[] #[]] w (xK B w A L):=by
  clear hn hh eg hl hS
  go_enter Tryz.func198,Tryz.ntmps198
  go_wp2_with fail
  refine wp_loop_rounds 1 ?_
  rw [rounds_succ]
  go_wp2_with fail
  refine HI.out.mono ?_
  rintro e w' ⟨rfl,h1,h2⟩
  have H1:=Lib.hid h1
  have H2:=Lib.hid h2
  clear h1 h2
  go_wp2_with fail
  refine wp_loop_rounds 1 ?_
  rw [rounds_succ]
  go_wp2_with fail
  go_end0
  exact ⟨rfl,H1.out,H2.out⟩
 have HS:=Lib.hid HS
 clear hn hh eg hl hS
 go_enter Tryz.func170,Tryz.ntmps170
 go_wp2_with fail
 refine HS.out.mono ?_
 rintro e w' ⟨rfl,h1,h2⟩
 go_wp2_with fail
 go_end0
 exact ⟨rfl,h1,h2⟩
end Go.Proofs.YtnbbfblaipjcmaaGreatDoor
