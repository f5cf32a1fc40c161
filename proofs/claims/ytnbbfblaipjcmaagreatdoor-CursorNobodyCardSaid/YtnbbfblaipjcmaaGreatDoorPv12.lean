/- ToneD, ToneE, ToneF, ToneG, ToneH, ToneI. Conditions: as each theorem states. -/
import Derived.Ground.SlsfProg
import Derived.IntWalk
import Derived.Deep.RegionWith
import Derived.Test.YtnbbfblaipjcmaaGreatDoorPv09
import Derived.Test.YtnbbfblaipjcmaaGreatDoorPv10
import Derived.Test.YtnbbfblaipjcmaaGreatDoorPv06
import Derived.Test.YtnbbfblaipjcmaaGreatDoorPv11
set_option maxRecDepth 100000
set_option maxHeartbeats 4000000
namespace Go.Proofs.YtnbbfblaipjcmaaGreatDoor
section
open Go.Lib (hid)
open Go.RowKit Go.Shelf
structure ToneV where
 idx:Int
 val:Int
deriving DecidableEq
def ToneV.cells (t:ToneV):List Value:=[.int .i64 t.idx,.int .i64 t.val]
def ToneV.big (t:ToneV):Prop:=(-2305843009213693952<=t.idx/\t.idx<=2305843009213693952)/\-4611686018427387904<=t.val/\t.val<=4611686018427387904
structure BTone where
 t:ToneV
 h:t.big
instance:Inhabited BTone:=⟨⟨⟨0,0⟩,by simp [ToneV.big]⟩⟩
def BTone.cells (t:BTone):List Value:=t.t.cells
theorem KM:∀ x:BTone,x.cells.length=2:=fun _=>rfl
theorem aDw:∀ x:BTone,∀ v ∈ x.cells,v.oneCell'=true:=by
 intro x v hv
 simp only [BTone.cells,ToneV.cells,List.mem_cons,List.not_mem_nil,or_false] at hv
 rcases hv with rfl | rfl <;> rfl
def kE (x y:BTone):Int:=rP (eA y.t.val - eA x.t.val) (-1) 1
def lC (x y:BTone):Int:=x.t.idx - y.t.idx
theorem DD (W:World) (o1 o2:Obj) (n:Nat):((W.alloc o1).alloc o2).drewN n=Sort.grow (W.drewN n) #[o1,o2]:=by
 rw [Sort.alloc_eq_grow,Sort.alloc_eq_grow,Sort.grow_grow]
 rfl
theorem aBK (xi xv yi yv:Int) (W:World) (h1:-4611686018427387904<=xv/\xv<=4611686018427387904) (h2:-4611686018427387904<=yv/\yv<=4611686018427387904) :
  Calls Tryz.prog 274 #[.agg #[.int .i64 xi,.int .i64 xv],.agg #[.int .i64 yi,.int .i64 yv]] W fun e w'=>e=.returned (.int .i64 (rP (eA yv - eA xv) (-1) 1))/\∃ n,w'=((W.alloc (.cells #[.int .i64 xi,.int .i64 xv] 169)).alloc (.cells #[.int .i64 yi,.int .i64 yv] 169)).drewN n:=by
 have b1:=A8 h1
 have b2:=A8 h2
 have HX:=hid (fun W=>vL xv W (by omega) (by omega))
 have HY:=hid (fun W=>vL yv W (by omega) (by omega))
 obtain ⟨b11,b12⟩:=b1
 obtain ⟨b21,b22⟩:=b2
 generalize eA xv=a at *
 generalize eA yv=c at *
 have hwr:IntKind.i64.wrap (c - a)=c - a:=IntWalk.i64_in _ (by omega)
 clear h1 h2
 go_enter Tryz.func274,Tryz.ntmps274
 go_wp2
 go_quiet ((first | (go_at_call_of 260 (Value.int .i64 xv); exact Calls.quiet_of_same ((HX.out _).mono fun _ _ h=>⟨h.1,h.2.symm⟩)) | (go_at_call_of 260 (Value.int .i64 yv); exact Calls.quiet_of_same ((HY.out _).mono fun _ _ h=>⟨h.1,h.2.symm⟩)) | (go_at_call 152; exact Calls.quiet_of_same ((xH _ _ _ _).mono fun _ _ h=>⟨h.1,h.2.symm⟩))))
 go_wp2
 go_ret
 exact ⟨rfl,_,rfl⟩
theorem aCY (xi xv yi yv:Int) (W:World) (h1:-2305843009213693952<=xi/\xi<=2305843009213693952) (h2:-2305843009213693952<=yi/\yi<=2305843009213693952) :
  Calls Tryz.prog 276 #[.agg #[.int .i64 xi,.int .i64 xv],.agg #[.int .i64 yi,.int .i64 yv]] W fun e w'=>e=.returned (.int .i64 (xi - yi))/\w'=((W.alloc (.cells #[.int .i64 xi,.int .i64 xv] 169)).alloc (.cells #[.int .i64 yi,.int .i64 yv] 169)):=by
 obtain ⟨h11,h12⟩:=h1
 obtain ⟨h21,h22⟩:=h2
 go_enter Tryz.func276,Tryz.ntmps276
 go_wp2
 go_ret
 exact ⟨rfl,rfl⟩
theorem ZL (blk off size:Nat) (w:World):CmpLays Tryz.prog 274 #[] BTone.cells 2 kE blk off size w:=by
 intro m os dk _ x y
 generalize sortWorldK BTone.cells 2 w blk off m dk os=W
 refine (aBK x.t.idx x.t.val y.t.idx y.t.val W x.h.2 y.h.2).mono ?_
 rintro e w' ⟨he,n,hw⟩
 exact ⟨he,n,_,hw.trans (DD _ _ _ _)⟩
theorem aBy (blk off size:Nat) (w:World):CmpLays Tryz.prog 276 #[] BTone.cells 2 lC blk off size w:=by
 intro m os dk _ x y
 generalize sortWorldK BTone.cells 2 w blk off m dk os=W
 refine (aCY x.t.idx x.t.val y.t.idx y.t.val W x.h.1 y.h.1).mono ?_
 rintro e w' ⟨he,hw⟩
 exact ⟨he,0,_,hw.trans (DD W _ _ 0)⟩
/-! slices.insertionSortCmpFunc at this program. -/
def aBG:Go.Shelf.Ren:=⟨fun | 20=>290 | n=>n,fun | 24=>169 | 22=>46 | 3=>3 | 25=>372 | 4=>4 | 0=>0 | n=>n,fun | n=>n⟩
theorem aDZ:Go.Proofs.SlLaysF0.n20 Tryz.prog aBG:={
 mixed:=by kernel_rfl
 f20:=⟨Tryz.f290.name,by decide,Tryz.func290.trans (congrArg some (by kernel_rfl))⟩
 t0:=Tryz.underlying0
 a0:=Tryz.isAgg0
 z0:=Tryz.sizeOf0
 v0:=Tryz.zeroValue0
 t3:=Tryz.underlying3
 a3:=Tryz.isAgg3
 z3:=Tryz.sizeOf3
 v3:=Tryz.zeroValue3
 t4:=Tryz.underlying4
 a4:=Tryz.isAgg4
 z4:=Tryz.sizeOf4
 v4:=Tryz.zeroValue4
 t22:=Tryz.underlying46
 a22:=Tryz.isAgg46
 z22:=Tryz.sizeOf46
 v22:=Tryz.zeroValue46
 t25:=Tryz.underlying372
 a25:=Tryz.isAgg372
 z25:=Tryz.sizeOf372
 v25:=Tryz.zeroValue372 }
theorem pK {α:Type} [Inhabited α] (lt:α->α->Bool) (hS:Sort.SWO lt) (l:List α):(dJ lt l).length=l.length:=(gJ lt hS l).length_eq
theorem ZJ (A:Option Addr) (cap:Nat) (fv:Value) (w:World):Calls Tryz.prog 290 #[.slice A 0 cap,.int .i64 0,.int .i64 0,fv] w fun e w'=>e=.returned (.tuple #[])/\w=w':=by
 go_enter Tryz.func290,Tryz.ntmps290
 go_wp2
 refine wp_loop_rounds 1 ?_
 rw [rounds_succ]
 go_wp2
 go_end0
 exact ⟨rfl,rfl⟩
def rJ (B:Nat) (W:World) (A:Option Addr) (l:List BTone) (e:Ending) (w':World):Prop:=e=.returned (.tuple #[])/\jT BTone.cells 2 B w' A l/\Below B W w'
theorem PB (cf:BTone->BTone->Int) (g:Nat) (hS:Sort.SWO (ltOf cf)) (hl:∀ blk off size w,CmpLays Tryz.prog g #[] BTone.cells 2 cf blk off size w) (eg:∀ args w,(callFunc g args).run Tryz.prog w=.ok (.enter g args) w)
  (l:List BTone) (A:Option Addr) (cap B:Nat) (w:World) (hh:jT BTone.cells 2 B w A l) (hlen:l.length<=1000000) :
  Calls Tryz.prog 290 #[.slice A l.length cap,.int .i64 0,.int .i64 l.length,.func (.func g) #[] #[]] w (rJ B w A (dJ (ltOf cf) l)):=by
 rcases hh with rfl | ⟨k,rfl,hBk,hk,hh⟩
 ·refine (ZJ A cap _ w).mono ?_
  rintro e w' ⟨he,rfl⟩
  exact ⟨he,.inl (List.perm_nil.1 (gJ _ hS [])),Below.refl _ _⟩
 ·have h:=AnyQ.insertionSortCmpFunc aDZ 2 (fun w=>by kernel_rfl) (fun w=>by kernel_rfl) BTone.cells KM aDw cf g #[] k 0 cap 0 l.length l.toArray w eg (hl _ _ _ _) hh hk (Nat.zero_le _) (by simp) (by simp; omega)
  refine Calls.mono (show Calls Tryz.prog 290 #[.slice (some ⟨k,0,none⟩) l.length cap,.int .i64 0,.int .i64 l.length,.func (.func g) #[] #[]] w _ from h) ?_
  rintro e w' ⟨he,n,os,rfl⟩
  refine ⟨he,?_,rD _ _ _ _ _ _ _ _ B hBk hk⟩
  have:=wG (enc:=BTone.cells) (k:=2) hBk hk hh (m:=dJ (ltOf cf) l) (pK _ hS l) n os
  exact this
theorem Q1 (cf:BTone->BTone->Int) (g:Nat) (hS:Sort.SWO (ltOf cf)) (hl:∀ blk off size w,CmpLays Tryz.prog g #[] BTone.cells 2 cf blk off size w) (eg:∀ args w,(callFunc g args).run Tryz.prog w=.ok (.enter g args) w)
  (l:List BTone) (A:Option Addr) (cap B:Nat) (w:World) (hh:jT BTone.cells 2 B w A l) (hlen:l.length<=19) :
  Calls Tryz.prog 273 #[.slice A l.length cap,.func (.func g) #[] #[]] w (rJ B w A (dJ (ltOf cf) l)):=by
 have HI:=hid (PB cf g hS hl eg l A cap B w hh (by omega))
 generalize dJ (ltOf cf) l=L at *
 obtain ⟨n,hn⟩:∃ n,l.length=n:=⟨_,rfl⟩
 rw [hn] at HI hlen ⊢
 have t1:¬ ((20:Int)<=(n:Int)):=by omega
 have t2:¬ ((20:Int) < (n:Int)):=by omega
 have HS:Calls Tryz.prog 286 #[.slice A n cap,.int .i64 n,.func (.func g) #[] #[]] w (rJ B w A L):=by
  clear hn hh eg hl hS
  go_enter Tryz.func286,Tryz.ntmps286
  go_wp2_with fail
  refine wp_loop_rounds 1 ?_
  rw [rounds_succ]
  go_wp2_with fail
  refine HI.out.mono ?_
  rintro e w' ⟨rfl,h1,h2⟩
  have H1:=hid h1
  have H2:=hid h2
  clear h1 h2
  go_wp2_with fail
  refine wp_loop_rounds 1 ?_
  rw [rounds_succ]
  go_wp2_with fail
  go_end0
  exact ⟨rfl,H1.out,H2.out⟩
 have HS:=hid HS
 clear hn hh eg hl hS
 go_enter Tryz.func273,Tryz.ntmps273
 go_wp2_with fail
 refine HS.out.mono ?_
 rintro e w' ⟨rfl,h1,h2⟩
 go_wp2_with fail
 go_end0
 exact ⟨rfl,h1,h2⟩
theorem aAv (cf:BTone->BTone->Int) (g:Nat) (hS:Sort.SWO (ltOf cf)) (hl:∀ blk off size w,CmpLays Tryz.prog g #[] BTone.cells 2 cf blk off size w) (eg:∀ args w,(callFunc g args).run Tryz.prog w=.ok (.enter g args) w)
  (l:List BTone) (A:Option Addr) (cap B:Nat) (w:World) (hh:jT BTone.cells 2 B w A l) (hlen:l.length<=12) :
  Calls Tryz.prog 275 #[.slice A l.length cap,.func (.func g) #[] #[]] w (rJ B w A (dJ (ltOf cf) l)):=by
 have HI:=hid (PB cf g hS hl eg l A cap B w hh (by omega))
 generalize dJ (ltOf cf) l=L at *
 obtain ⟨n,hn⟩:∃ n,l.length=n:=⟨_,rfl⟩
 rw [hn] at HI hlen ⊢
 have t1:(n:Int)<=12:=by omega
 have HS:∀ z:Int,Calls Tryz.prog 287 #[.slice A n cap,.int .i64 0,.int .i64 n,.int .i64 z,.func (.func g) #[] #[]] w (rJ B w A L):=by
  intro z
  clear hn hh eg hl hS
  go_enter Tryz.func287,Tryz.ntmps287
  go_wp2_with fail
  refine wp_loop_rounds 1 ?_
  rw [rounds_succ]
  go_wp2_with fail
  refine HI.out.mono ?_
  rintro e w' ⟨rfl,h1,h2⟩
  go_wp2_with fail
  go_end0
  exact ⟨rfl,h1,h2⟩
 have HS:=hid HS
 clear hn hh eg hl hS
 go_enter Tryz.func275,Tryz.ntmps275
 go_wp2_with fail
 refine (aA7 _ _ (by omega) (by omega)).mono ?_
 rintro e w' ⟨rfl,rfl⟩
 generalize Lib.bitLen _=z
 go_wp2_with fail
 refine (HS.out _).mono ?_
 rintro e w' ⟨rfl,h1,h2⟩
 go_wp2_with fail
 go_end0
 exact ⟨rfl,h1,h2⟩
end
section
open Go.RowKit
def kS (b:List Int) (k:Nat):ToneV:=⟨k,bgt b k⟩
def iE (b:List Int) (m:Nat):List ToneV:=((List.range m).filter fun (k:Nat)=>lI b (k:Int)).map (kS b)
def mW (b:List Int):List ToneV:=((List.range 16).filter fun (k:Nat)=>lI b (k:Int) && decide (CJ b k<=1)).map (kS b)
def tV (x y:ToneV):Bool:=decide (eA y.val < eA x.val) || (decide (eA x.val=eA y.val) && decide (x.idx < y.idx))
theorem MH (b:List Int) (m:Nat):iE b (m+1)=iE b m ++ if lI b (m:Int)=true then [kS b m] else []:=by
 unfold iE
 rw [List.range_succ,List.filter_append,List.map_append]
 congr 1
 cases h:lI b (m:Int) <;> simp [h]
theorem JY (m:Nat):(List.range m).Pairwise (· < ·):=List.pairwise_lt_range
theorem RG (b:List Int) (m:Nat):(iE b m).Pairwise fun x y=>x.idx < y.idx:=by
 unfold iE
 rw [List.pairwise_map]
 refine ((JY m).filter _).imp fun {a c} h=>?_
 show (a:Int) < (c:Int)
 omega
theorem YD (b:List Int) (k:Nat):((iE b 16).filter fun u=>tV u (kS b k)).length=CJ b k:=by
 unfold iE CJ WS
 rw [List.filter_map,List.length_map,List.filter_filter]
 congr 1
 refine List.filter_congr fun j _=>?_
 unfold aA2 tV kS
 simp only [Function.comp]
 rw [Bool.and_comm]
 congr 2
 have:((j:Int) < (k:Int)) ↔ j < k:=by omega
 rw [decide_eq_decide.2 this]
theorem aBl (b:List Int):(iE b 16).filter (fun t=>decide (((iE b 16).filter fun u=>tV u t).length<=1))=mW b:=by
 unfold mW
 conv=>lhs; arg 2; unfold iE
 rw [List.filter_map,List.filter_filter]
 congr 1
 refine List.filter_congr fun k _=>?_
 simp only [Function.comp]
 rw [YD,Bool.and_comm]
theorem Y6 (b:List Int):(mW b).length<=16:=by
 unfold mW
 have:=List.length_filter_le (fun k:Nat=>lI b (k:Int) && decide (CJ b k<=1)) (List.range 16)
 simpa using this
/-! The sorts' orders. -/
def iO (x y:BTone):Bool:=tV x.t y.t
theorem rW (x y:BTone):ltOf kE x y=decide (eA y.t.val < eA x.t.val):=by
 unfold ltOf kE rP
 rw [decide_eq_decide]
 split
 ·omega
 ·split <;> omega
theorem AA (x y:BTone):ltOf lC x y=decide (x.t.idx < y.t.idx):=by
 unfold ltOf lC
 rw [decide_eq_decide]; omega
theorem FJ:Sort.SWO (ltOf kE):=⟨fun x=>by rw [rW]; simp,fun x y z=>by rw [rW,rW,rW]; simp; omega,fun x y z=>by rw [rW,rW,rW]; simp; omega⟩
theorem xB:Sort.SWO (ltOf lC):=⟨fun x=>by rw [AA]; simp,fun x y z=>by rw [AA,AA,AA]; simp; omega,fun x y z=>by rw [AA,AA,AA]; simp; omega⟩
theorem FK:Sort.SWO iO:=⟨fun x=>by unfold iO tV; simp,fun x y z=>by unfold iO tV; simp; omega,fun x y z=>by unfold iO tV; simp; omega⟩
theorem aB5 (x:BTone):iO x x=false:=FK.irrefl x
theorem aB4 (x y:BTone) (h:iO x y=true):iO y x=false:=by
 unfold iO tV at *; simp at *; omega
theorem wY (b:List Int) (ts:List BTone) (h:ts.map BTone.t=iE b 16) :
  (dJ (ltOf lC) ((dJ (ltOf kE) ts).take 2)).map BTone.t=mW b:=by
 have hinc:ts.Pairwise fun x y=>x.t.idx < y.t.idx:=by
  have:=RG b 16
  rw [<-h,List.pairwise_map] at this
  exact this
 have e1:dJ (ltOf kE) ts=dJ iO ts:=wW _ _ (fun x=>x.t.idx) (fun x y hxy=>by
  rw [rW]; unfold iO tV
  have:¬ x.t.idx < y.t.idx:=by omega
  simp [this]) ts hinc
 rw [e1]
 have hperm:=gJ iO FK ts
 generalize hS:dJ iO ts=S at *
 have hsort:=qN iO FK ts
 rw [hS] at hsort
 have hne:S.Pairwise fun x y=>x.t.idx ≠ y.t.idx:=by
  refine (hperm.pairwise_iff (fun {x y} h=>Ne.symm h)).2 (hinc.imp fun {x y} h=>?_)
  omega
 have hprec:S.Pairwise fun x y=>iO x y=true:=by
  refine (hsort.and hne).imp fun {x y} ⟨h1,h2⟩=>?_
  unfold iO tV at *
  simp at *
  omega
 have htake:=Y7 iO aB5 aB4 S hprec
 rw [<-htake]
 have hrank:∀ t,(S.filter fun u=>iO u t).length=(ts.filter fun u=>iO u t).length:=fun t=>(hperm.filter _).length_eq
 have e2:(S.filter fun t=>decide ((S.filter fun u=>iO u t).length<=1))=S.filter fun t=>decide ((ts.filter fun u=>iO u t).length<=1):=by
  refine List.filter_congr fun t _=>?_
  rw [hrank]
 rw [e2]
 have hp2:=hperm.filter (fun t=>decide ((ts.filter fun u=>iO u t).length<=1))
 generalize hT:S.filter (fun t=>decide ((ts.filter fun u=>iO u t).length<=1))=T at *
 have hp3:=(gJ (ltOf lC) xB T).trans hp2
 have hs3:=qN (ltOf lC) xB T
 have hinc2:=hinc.filter (fun t=>decide ((ts.filter fun u=>iO u t).length<=1))
 have hne3:(dJ (ltOf lC) T).Pairwise fun x y=>x.t.idx ≠ y.t.idx:=by
  refine (hp3.pairwise_iff (fun {x y} h=>Ne.symm h)).2 (hinc2.imp fun {x y} h=>?_)
  omega
 have hfin:=nF (fun x y:BTone=>x.t.idx < y.t.idx) (fun x=>by omega) (fun x y h=>by omega) _ _ hp3 ((hs3.and hne3).imp fun {x y} ⟨h1,h2⟩=>by
  rw [AA] at h1; simp at h1; omega) hinc2
 rw [hfin,<-aBl,<-h,List.filter_map]
 congr 1
 refine List.filter_congr fun t _=>?_
 simp only [Function.comp]
 rw [List.filter_map,List.length_map]
 rfl
end
section
open Go.Lib (hid)
open Go.RowKit
def aW (ts:List ToneV):List Value:=(ts.map ToneV.cells).flatten
theorem aBC:(Tryz.prog.info? 169).map (fun i=>(i.zero,i.size,i.bytes))=some (some (.agg #[.int .i64 0,.int .i64 0]),2,16):=by kernel_rfl
theorem aBb (ts:List BTone):(ts.map BTone.cells).flatten=aW (ts.map BTone.t):=by
 unfold aW; rw [List.map_map]; rfl
def IJ (W:World) (ts:List ToneV) (e:Ending) (w':World):Prop:=∃ A c,e=.returned (.slice A ts.length c)/\ts.length<=c/\c<=9223372036854775807/\(ts=[]\/∃ g,A=some ⟨g,0,none⟩/\W.heap.size<=g)/\Row w' w'.heap.size A (aW ts)/\Below W.heap.size W w'
theorem MG (b:List Int) (w:World) (hb:b.length=16) (hr:BigB b) :
  Calls Tryz.prog 261 #[aT b] w (IJ w (mW b)):=by
 obtain ⟨i0,hi,hz0,hz1,hz2⟩:=info_parts aBC
 have HIs:=hid (fun (i:Int) W=>WA b i W hb hr)
 have HS:=hid (wY b)
 unfold aT at HIs ⊢
 have HC:=hid (fun (k:Nat) (x:Int) (h:b[k]? = some x)=>eP h)
 have hsz:(b.map (Value.int .i64)).toArray.size=16:=by simp [hb]
 generalize (b.map (Value.int .i64)).toArray=cs at *
 have HF:=hid (show (Tryz.prog.info? 48).map (·.size)=some cs.size by rw [hsz]; exact bS)
 have Hb:=hid hb
 have HR:=hid hr
 have hB:=hid (heap_alloc_new w (.cells cs 48))
 clear hb hr hsz
 go_enter Tryz.func261,Tryz.ntmps261
 go_wp2_with (first | fail | (refine aB rfl 48 (.tmp 1) rfl w.heap.size rfl _ cs _ _ hB.out Tryz.underlying48 rfl HF.out ?_))
 go_loopw [3,7] (fun o i wr=>∃ (m:Nat) (ts:List BTone) (A:Option Addr) (c:Nat),m<=16/\i=.int .i64 m/\ts.map BTone.t=iE b m/\ts.length<=m/\o=.slice A ts.length c/\c<=9223372036854775807 /\
   wr.ownsRow (w.heap.size+1) 169 2 (.slice A ts.length c) ts.length ((ts.map BTone.cells).flatten)/\Below (w.heap.size+1) (w.alloc (.cells cs 48)) wr) (fun _ i _=>(16 - intOf i).toNat)
 case atStart=>exact ⟨0,[],none,0,by omega,by go_num,rfl,by simp,rfl,by omega,World.ownsRow_nil _ _ _ _,Below.refl _ _⟩
 case round =>
  obtain ⟨m,ts,A,c,hm,rfl,hts,hlen,rfl,hc63,hown,hbel⟩:=hrel
  have Hts:=hid hts
  have Hown:=hid hown
  have Hbel:=hid hbel
  have Hge:=hid (bJ hown)
  have hsz1:w.heap.size+1<=wr.heap.size:=by have:=hbel.size; simp at this; omega
  have hB2:=hid ((hbel.block w.heap.size (by omega)).trans hB.out)
  clear hts hown hbel
  by_cases hlt:m < 16
  ·have t1:(m:Int) < 16:=by omega
   obtain ⟨x,hx⟩:=aE (k:=m) Hb.out (by omega)
   have hc2:=HC.out _ _ hx
   have hxb:=HR.out _ _ hx
   obtain ⟨T,hT⟩:∃ T,lI b (m:Int)=T:=⟨_,rfl⟩
   have HIm:=hid (HIs.out (m:Int))
   rw [hT] at HIm
   have HTS:=hid (MH b m)
   rw [hT] at HTS
   have hx2:=hid (aD hx)
   have hix:=bR (P:=Tryz.prog) Tryz.underlying48 hlt (fun W=>by kernel_rfl) (fun W=>by kernel_rfl) hc2
   clear hx hT
   cases T
   ·go_wp2_with (first | (go_at_call 272; refine (HIm.out _).mono ?_; rintro e w1 ⟨rfl,hb1⟩) | (refine aB rfl 48 (.tmp 1) rfl w.heap.size rfl _ cs _ _ hB2.out Tryz.underlying48 rfl HF.out ?_))
    go_roundw
    case rel=>exact ⟨m+1,ts,A,c,by omega,by go_num,by rw [HTS.out,<-Hts.out]; simp,by omega,rfl,hc63,cS Hown.out hb1,kC Hbel.out (by simp) hb1⟩
    case measure=>simp [intOf]; omega
   ·go_wp2_with (first | (go_at_call 272; refine (HIm.out _).mono ?_; rintro e w1 ⟨rfl,hb1⟩; have own1:=cS Hown.out hb1; have hsz2:=Nat.le_trans hsz1 hb1.size) | (at_builtin; refine c9 _ rfl (.tmp 14) (.tmp 18) 46 rfl (w.heap.size+1) 169 i0 _ 2 16 Tryz.underlying46 hi hz0 hz1 hz2 rfl (by omega) _ ts.length ((ts.map BTone.cells).flatten) rfl (own1.alloc _) (w1.heap.size+1) (some ⟨w1.heap.size,0,none⟩) 1 1 [.int .i64 m,.int .i64 x] rfl rfl (Row.new w1 _ _) (by intro u hu; simp at hu; rcases hu with rfl | rfl <;> rfl) (by omega) (by omega) (by simp; omega) ?_; intro A2 cc w2 hown2 hgrow hat hcc) | (refine aB rfl 48 (.tmp 1) rfl w.heap.size rfl _ cs _ _ hB2.out Tryz.underlying48 rfl HF.out ?_))
    go_roundw
    case rel =>
     have hb2:Below (w.heap.size+1) (w.alloc (.cells cs 48)) w2:=((kC Hbel.out (by simp) hb1).alloc (by omega) _).grown hgrow (by simp; omega) (fun g h=>Hge.out g h)
     refine ⟨m+1,ts ++ [⟨⟨m,x⟩,by unfold ToneV.big; simp only; omega⟩],A2,cc,by omega,by go_num,by rw [HTS.out,<-Hts.out,List.map_append]; unfold kS; rw [hx2.out]; rfl,by simp; omega,by simp,iY hown2,?_,hb2⟩
     rw [List.length_append,List.map_append,List.flatten_append]
     exact hown2
    case measure=>simp [intOf]; omega
  ·have hm16:m=16:=by omega
   subst hm16
   have HSS:=hid (HS.out ts Hts.out)
   have Hl:=hid (pK (ltOf kE) FJ ts)
   have HQ:=hid (Q1 kE 274 FJ ZL (fun args w=>by kernel_rfl) ts A c (w.heap.size+1) wr (JB KM (by omega) Hown.out) (by omega))
   have hlc:=sW Hown.out
   obtain ⟨A',c',he,_,hnil⟩:=iL Hown.out
   injection he with he1 _ he3
   subst he1 he3
   clear hlt HS HIs HC
   have HS1:=hid (show (dJ (ltOf kE) ts).length=ts.length from pK (ltOf kE) FJ ts)
   generalize dJ (ltOf kE) ts=S at *
   obtain ⟨n,hn⟩:∃ n,ts.length=n:=⟨_,rfl⟩
   rw [hn] at HQ HS1 hlen hlc hnil ⊢
   have Hn:=hid hn
   have hsz2:=hsz1
   clear hn Hl Hown
   go_wp2_with fail
   refine HQ.out.mono ?_
   rintro e w1 ⟨rfl,hh1,hb1⟩
   have Hh1:=hid (UX KM hh1 2)
   have Hb1:=hid hb1
   have hl2:(S.take 2).length=min n 2:=by rw [List.length_take,HS1.out]; omega
   have HR1:=hid (show (dJ (ltOf lC) (S.take 2)).length=(S.take 2).length from pK (ltOf lC) xB (S.take 2))
   have HQ2:=hid (aAv lC 276 xB aBy (fun args w=>by kernel_rfl) (S.take 2) A c (w.heap.size+1) w1 Hh1.out (by omega))
   rw [hl2] at HQ2 HR1
   clear hh1 hb1 HQ hl2
   generalize dJ (ltOf lC) (S.take 2)=R at *
   have hRl:(mW b).length=min n 2:=by rw [<-HSS.out,List.length_map]; exact HR1.out
   have HRl:=hid hRl
   clear hRl
   have fin:∀ w2,jT BTone.cells 2 (w.heap.size+1) w2 A R->Below (w.heap.size+1) w1 w2->min n 2<=c->IJ w (mW b) (.returned (.slice A (min n 2) c)) w2:=by
    intro w2 hh2 hb2 hle
    refine ⟨A,c,by rw [HRl.out],by rw [HRl.out]; exact hle,hc63,?_,?_,?_⟩
    ·rcases hh2 with h0 | ⟨g,hg,hB,_⟩
     ·exact .inl (by rw [<-HSS.out,h0]; rfl)
     ·exact .inr ⟨g,hg,by omega⟩
    ·have:=JC KM hh2
     rw [aBb,HSS.out] at this
     exact this
    ·exact (aL _ _).trans (((Hbel.out.trans Hb1.out).trans hb2).mono (by omega))
   have Fin:=hid fin
   clear fin
   rcases A with _ | ad
   ·obtain ⟨hn0,hc0⟩:=hnil rfl
    subst hn0 hc0
    rw [show min 0 2=0 by rfl] at HQ2 Fin
    clear hnil
    have hm:(min (0:Int) 2).toNat=0:=rfl
    go_wp2_with fail
    refine HQ2.out.mono ?_
    rintro e w2 ⟨rfl,hh2,hb2⟩
    have HF2:=hid (Fin.out w2 hh2 hb2 (by omega))
    clear hh2 hb2
    go_wp2_with fail
    go_ret
    exact HF2.out
   ·clear hnil
    by_cases h2:n<=2
    ·rw [show min n 2=n by omega] at HQ2 Fin
     have t1:¬ 2 < n:=by omega
     have hm:min (n:Int) 2=(n:Int):=by omega
     go_wp2_with fail
     refine HQ2.out.mono ?_
     rintro e w2 ⟨rfl,hh2,hb2⟩
     have HF2:=hid (Fin.out w2 hh2 hb2 (by omega))
     clear hh2 hb2
     go_wp2_with fail
     go_ret
     exact HF2.out
    ·rw [show min n 2=2 by omega] at HQ2 Fin
     have t1:2 < n:=by omega
     have hm:min (n:Int) 2=2:=by omega
     go_wp2_with fail
     refine HQ2.out.mono ?_
     rintro e w2 ⟨rfl,hh2,hb2⟩
     have HF2:=hid (Fin.out w2 hh2 hb2 (by omega))
     clear hh2 hb2
     go_wp2_with fail
     go_ret
     exact HF2.out
end
section
open Go.RowKit
end
section
open Go.RowKit
def aDS (b:List Int) (k:Nat):Bool:=lI b (k:Int) && decide (CJ b k<=1)
theorem nL {w:World} {B:Nat} {A:Option Addr} {ts:List ToneV} (hr:Row w B A (aW ts)) {k:Nat} {t:ToneV} (h:ts[k]? = some t) :
  ∃ b off,A=some ⟨b,off,none⟩/\b < B/\w.cell? ⟨b,off+k*2,none⟩=some (.int .i64 t.idx)/\w.cell? ⟨b,off+k*2+1,none⟩=some (.int .i64 t.val):=by
 have h0:(aW ts)[k*2+0]? = some (.int .i64 t.idx):=by
  unfold aW
  rw [mX 2 (ts.map ToneV.cells) (fun cs hcs=>by obtain ⟨z,_,rfl⟩:=List.mem_map.1 hcs; rfl) k 0 (by omega)]
  simp [h,ToneV.cells]
 have h1:(aW ts)[k*2+1]? = some (.int .i64 t.val):=by
  unfold aW
  rw [mX 2 (ts.map ToneV.cells) (fun cs hcs=>by obtain ⟨z,_,rfl⟩:=List.mem_map.1 hcs; rfl) k 1 (by omega)]
  simp [h,ToneV.cells]
 obtain ⟨b,off,hA,hb,hc⟩:=hr _ _ h0
 obtain ⟨b',off',hA',_,hc'⟩:=hr _ _ h1
 rw [hA] at hA'
 injection hA' with hA'
 injection hA' with e1 e2
 subst e1 e2
 exact ⟨b,off,hA,hb,by simpa using hc,by rw [Nat.add_assoc]; exact hc'⟩
end
section
open Go.Lib (hid)
open Go.RowKit
def mM (b:List Int) (t:ToneV):List Int:=if 0<=t.idx/\t.idx < 16 then b.set t.idx.toNat (bgt b t.idx.toNat - t.val) else b
def cY (b:List Int) (ts:List ToneV):List Int:=ts.foldl mM b
theorem QI (b:List Int) (t:ToneV):(mM b t).length=b.length:=by unfold mM; split <;> simp
theorem rZ (b:List Int):∀ (ts:List ToneV),(cY b ts).length=b.length:=by
 intro ts
 unfold cY
 induction ts generalizing b with
 | nil=>rfl
 | cons t r ih=>rw [List.foldl_cons,ih,QI]
theorem ZZ (b:List Int) {ts:List ToneV} {m:Nat} {t:ToneV} (h:ts[m]? = some t):cY b (ts.take (m+1))=mM (cY b (ts.take m)) t:=by
 obtain ⟨hm,rfl⟩:=List.getElem?_eq_some_iff.1 h
 unfold cY
 rw [List.take_succ_eq_append_getElem hm,List.foldl_append]
 rfl
theorem AL (b:List Int) (ts:List ToneV) (A:Option Addr) (cap:Nat) (w:World) (hb:b.length=16) (hl:ts.length<=1000000) (hr:Row w w.heap.size A (aW ts))
  (hbig:∀ m,m<=ts.length->BigB (cY b (ts.take m))) (hv:∀ t ∈ ts,t.big) :
  Calls Tryz.prog 263 #[aT b,.slice A ts.length cap] w fun e w'=>e=.returned (aT (cY b ts))/\Below w.heap.size w w':=by
 unfold aT
 obtain ⟨n,hn⟩:∃ n,ts.length=n:=⟨_,rfl⟩
 have Hr:=hid hr
 have Hbig:=hid hbig
 have Hv:=hid hv
 have Hb:=hid hb
 have hsz:(b.map (Value.int .i64)).toArray.size=16:=by simp [hb]
 have HB0:=hid (Blk.new w 48 (b.map (Value.int .i64)))
 rw [hn] at hl ⊢
 have Hn:=hid hn
 clear hr hbig hv hb hn
 go_enter Tryz.func263,Tryz.ntmps263
 go_wp2_with fail
 go_loopw [9] (fun i wr=>∃ (m:Nat),m<=n/\i=.int .i64 m/\Blk wr w.heap.size 48 ((cY b (ts.take m)).map (Value.int .i64))/\Blk wr (w.heap.size+1) 48 (List.replicate 16 (.int .i64 0))/\Below w.heap.size w wr) (fun i _=>n - (intOf i).toNat)
 case atStart=>exact ⟨0,by omega,rfl,HB0.out.alloc _,Blk.new2 w _ 48 (List.replicate 16 (.int .i64 0)),(aL _ _).alloc (by simp) _⟩
 case round =>
  obtain ⟨m,hm,rfl,hB,hZ,hbel⟩:=hrel
  have HB:=hid hB
  have HZ:=hid hZ
  have Hbel:=hid hbel
  have hcl:=rZ b (ts.take m)
  rw [Hb.out] at hcl
  have hcb:=Hbig.out m (by rw [Hn.out]; exact hm)
  have HO:=hid (fun (t:ToneV) (h:ts[m]? = some t)=>ZZ b h)
  have HL:=hid (show m=n->cY b (ts.take m)=cY b ts from fun h=>by rw [List.take_of_length_le (by rw [Hn.out]; omega)])
  generalize cY b (ts.take m)=cur at *
  have Hcl:=hid hcl
  have Hcb:=hid hcb
  clear hB hZ hbel hcl hcb hsz
  by_cases hlt:m < n
  ·obtain ⟨t,ht⟩:=aE (k:=m) Hn.out hlt
   have HS:=hid (HO.out t ht)
   have hb2:=Hbig.out (m+1) (by rw [Hn.out]; omega)
   rw [HS.out] at hb2
   have htv:=Hv.out t (List.mem_of_getElem? ht)
   obtain ⟨g,off,hA,hg,k0,k1⟩:=nL Hr.out ht
   have c0:=(Hbel.out.cell (p:=⟨g,off+m*2,none⟩) hg).trans k0
   have c1:=(Hbel.out.cell (p:=⟨g,off+m*2+1,none⟩) hg).trans k1
   subst hA
   obtain ⟨ix,vl⟩:=t
   obtain ⟨⟨v1,v2⟩,v3,v4⟩:=htv
   simp only at c0 c1 v1 v2 v3 v4
   clear ht k0 k1
   by_cases hi:0<=ix/\ix < 16
   ·obtain ⟨i1,i2⟩:=hi
    obtain ⟨j,rfl⟩:=Int.eq_ofNat_of_zero_le i1
    have hj:j < 16:=by omega
    obtain ⟨x,hx⟩:=aE (k:=j) Hcl.out hj
    have hxb:=Hcb.out _ _ hx
    have HS2:=hid (show mM cur ⟨(j:Int),vl⟩=cur.set j (x - vl) by
     unfold mM; simp only; rw [if_pos ⟨i1,i2⟩,Int.toNat_natCast,aD hx])
    rw [HS2.out] at hb2
    have hrb:=hb2 j (x - vl) (by rw [List.getElem?_set_self (by rw [Hcl.out]; exact hj)])
    have hwr:IntKind.i64.wrap (x - vl)=x - vl:=IntWalk.i64_in _ (by omega)
    clear hb2
    have hcx:(cur.map (Value.int .i64)).toArray[j]? = some (.int .i64 x):=eP hx
    clear hx
    have t1:(0:Int)<=(j:Int):=i1
    have t2:(j:Int) < 16:=i2
    have hB1:=(HB.out.alloc (.cells #[.int .i64 (j:Int),.int .i64 vl] 169))
    have hN1:=Blk.new wr 169 [.int .i64 (j:Int),.int .i64 vl]
    have HB1:=hid hB1
    have HN1:=hid hN1
    have hx5:=dW hB1
    have hy5:=jY hN1
    clear hB1 hN1
    go_wp2_with fail
    refine aI 8 (by kernel_rfl) (by kernel_rfl) ?_
    simp only [List.take_succ_cons,List.take_zero,List.drop_succ_cons,List.drop_zero]
    repeat (go_big_quiet_step (fail))
    refine wpQuiet_nil ?_
    intro w5 hw'
    have hb5:=aK hw'
    have hB5:=HB1.out.below hb5 (by have:=HB.out.lt; simp; omega)
    have hZ5:=(HZ.out.alloc (.cells #[.int .i64 (j:Int),.int .i64 vl] 169)).below hb5 (by have:=HZ.out.lt; simp; omega)
    have HB5:=hid hB5
    have HZ5:=hid hZ5
    have Hb5:=hid (Hbel.out.trans (((aL wr _).trans (hb5.mono (by simp))).mono Hbel.out.size))
    have ce:w5.cell? ⟨w.heap.size,j,none⟩=some (.int .i64 x):=by rw [hB5.cell]; simpa using hcx
    have fz:=hB5.frozen j
    clear hw' hb5 hx5 hy5 hB5 hZ5
    go_wp2
    go_roundw
    case rel =>
     refine ⟨m+1,by omega,by go_num,?_,HZ5.out.far (by simp) _,Hb5.out.setCell (by simp) _⟩
     rw [HS.out,HS2.out,List.map_set]
     exact HB5.out.set_ j _
    case measure=>simp [intOf]; omega
   ·have HS2:=hid (show mM cur ⟨ix,vl⟩=cur by unfold mM; simp only; rw [if_neg hi])
    have hi2:ix < 0\/16<=ix:=by omega
    clear hi hb2
    rcases hi2 with hi2 | hi2
    ·have t1:¬ ((0:Int)<=ix):=by omega
     have t2:decide ((0:Int)<=ix)=false:=decide_eq_false t1
     go_wp2
     go_roundw
     case rel=>exact ⟨m+1,by omega,by go_num,by rw [HS.out,HS2.out]; exact HB.out.alloc _,HZ.out.alloc _,Hbel.out.alloc (Hbel.out.size) _⟩
     case measure=>simp [intOf]; omega
    ·have t1:(0:Int)<=ix:=by omega
     have t2:¬ (ix < 16):=by omega
     have t3:decide (ix < 16)=false:=decide_eq_false t2
     go_wp2
     go_roundw
     case rel=>exact ⟨m+1,by omega,by go_num,by rw [HS.out,HS2.out]; exact HB.out.alloc _,HZ.out.alloc _,Hbel.out.alloc (Hbel.out.size) _⟩
     case measure=>simp [intOf]; omega
  ·have hmn:m=n:=by omega
   have hce:=HL.out hmn
   have hH:=hid (show wr.heap[w.heap.size]? = some (.cells (cur.map (Value.int .i64)).toArray 48 (0,0)) from HB.out)
   have hH2:=hid (show wr.heap[w.heap.size+1]? = some (.cells (List.replicate 16 (Value.int .i64 0)).toArray 48 (0,0)) from HZ.out)
   have hsz:(cur.map (Value.int .i64)).toArray.size=16:=by simp [Hcl.out]
   have H1:=hid (e9 cur)
   obtain ⟨cs,hcs⟩:∃ cs,(cur.map (Value.int .i64)).toArray=cs:=⟨_,rfl⟩
   have HE:=hid (show cs=((cY b ts).map (Value.int .i64)).toArray by rw [<-hce,hcs])
   rw [hcs] at hH hsz H1
   have HF:=hid (show (Tryz.prog.info? 48).map (·.size)=some cs.size by rw [hsz]; exact bS)
   have Hsz:=hid hsz
   clear hce hsz HO HL hcs
   go_wp2_with (first | (refine aB rfl 48 (.tmp 2) rfl w.heap.size rfl _ cs _ _ hH.out Tryz.underlying48 rfl HF.out ?_) | (refine aA rfl 48 (.tmp 4) (.tmp 30) rfl (w.heap.size+1) rfl _ _ cs rfl hH2.out HF.out (by rw [Hsz.out]; simp) H1.out ?_))
   refine bodyPost_ret (v:=.agg cs) (results_cell_row Tryz.results263 _ _ (w.heap.size+1) 48 cs (0,0) _ rfl (bB wr _ _ _ cs hH2.out) Tryz.underlying48 rfl HF.out) rfl ?_
   exact ⟨by rw [HE.out],aO Hbel.out _ (by omega) _⟩
end
end Go.Proofs.YtnbbfblaipjcmaaGreatDoor
