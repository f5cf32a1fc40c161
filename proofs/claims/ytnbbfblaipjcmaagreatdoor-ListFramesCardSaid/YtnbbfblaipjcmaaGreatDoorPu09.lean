/- ToneA, ToneB, ToneC, LiftA. Conditions: as each theorem states. -/
import Derived.Handy
import Derived.Test.YtnbbfblaipjcmaaGreatDoorPu04
import Derived.Test.YtnbbfblaipjcmaaGreatDoorPu01
import Derived.Test.YtnbbfblaipjcmaaGreatDoorPu05
import Derived.Test.YtnbbfblaipjcmaaGreatDoorPu03
set_option maxRecDepth 100000
set_option maxHeartbeats 1000000
namespace Go.Proofs.YtnbbfblaipjcmaaGreatDoor
section
open Go.Lib (hid)
open Go.RowKit
theorem Band_any (i:Nat) (w:World) (hi:i < 16):Calls Tryz.prog 98 #[.int .i64 i] w fun e w'=>e=.returned (.int .i64 ((i:Int) / 4))/\w=w':=by
 go_enter Tryz.func98,Tryz.ntmps98
 go_wp2
 go_ret
 exact ⟨rfl,rfl⟩
def aroundTo (b:List Int) (i m:Nat):Int:=(List.range m).foldl (fun p d=>if i / 4*4+d=i then p else max p (absZ (bgt b (i / 4*4+d)))) 0
def aroundZ (b:List Int) (i:Nat):Int:=aroundTo b i 4
theorem aroundTo_succ (b:List Int) (i m:Nat):aroundTo b i (m+1)=if i / 4*4+m=i then aroundTo b i m else max (aroundTo b i m) (absZ (bgt b (i / 4*4+m))):=by
 unfold aroundTo; rw [List.range_succ,List.foldl_append]; rfl
theorem absZ_bd {x:Int} (h:-4611686018427387904<=x/\x<=4611686018427387904):0<=absZ x/\absZ x<=4611686018427387904:=by
 unfold absZ; split
 ·omega
 ·split <;> omega
theorem around_any (b:List Int) (i:Nat) (w:World) (hb:b.length=16) (hr:BigB b) (hi:i < 16) :
  Calls Tryz.prog 285 #[blockV b,.int .i64 i] w fun e w'=>e=.returned (.int .i64 (aroundZ b i))/\Below w.heap.size w w':=by
 unfold blockV
 have HC:=hid (fun (k:Nat) (x:Int) (h:b[k]? = some x)=>blk_get h)
 generalize (b.map (Value.int .i64)).toArray=cs at *
 have Hb:=hid hb
 have HR:=hid hr
 clear hb hr
 obtain ⟨q,hq⟩:∃ q,i / 4=q:=⟨_,rfl⟩
 have Hq:=hid hq
 have hq4:q < 4:=by omega
 have hB:=hid (show ∀ W,Calls Tryz.prog 98 #[.int .i64 i] W fun e w'=>e=.returned (.int .i64 (q:Int))/\W=w' from fun W=>(Band_any i W hi).mono fun e w' ⟨he,hw⟩=>⟨he.trans (ret_int (by omega)),hw⟩)
 clear hq
 go_enter Tryz.func285,Tryz.ntmps285
 go_wp2_with (go_at_call 98; refine (hB.out _).mono ?_; rintro e w' ⟨rfl,rfl⟩)
 go_loop [6,7] (fun p k=>∃ (m:Nat) (z:Int),m<=4/\0<=z/\z<=4611686018427387904/\z=aroundTo b i m/\p=.int .i64 z/\k=.int .i64 ((q:Int)*4+m)) (fun p k=>(20 - (intOf k)).toNat)
 case atStart=>exact ⟨0,0,by omega,by omega,by omega,rfl,rfl,by go_num⟩
 case round =>
  obtain ⟨m,z,hm,hz0,hz1,hz,rfl,rfl⟩:=hrel
  have Hz:=hid hz
  clear hz
  by_cases hlt:m < 4
  ·have t1:(q:Int)*4+m < (q:Int)*4+4:=by omega
   obtain ⟨x,hx⟩:=list_get (k:=q*4+m) Hb.out (by omega)
   have hc:=HC.out _ _ hx
   have hxb:=HR.out _ _ hx
   have hab:=absZ_bd hxb
   have HS:=hid (show aroundTo b i (m+1)=if q*4+m=i then z else max z (absZ x) by rw [aroundTo_succ,Hq.out,Hz.out,bgt_get hx])
   clear hx
   by_cases he:q*4+m=i
   ·have t2:(((q:Int)*4+m) == (i:Int))=true:=beq_iff_eq.2 (by omega)
    have t3:(((q:Int)*4+m) != (i:Int))=false:=by rw [bne_eq_false_iff_eq]; omega
    have He:=hid he
    clear he
    go_wp2
    go_round
    case rel=>exact ⟨m+1,z,by omega,hz0,hz1,by rw [HS.out,if_pos He.out],rfl,by go_num⟩
    case measure=>simp [intOf]; omega
   ·have t2:(((q:Int)*4+m) == (i:Int))=false:=beq_eq_false_iff_ne.2 (by omega)
    have t3:(((q:Int)*4+m) != (i:Int))=true:=by rw [bne_iff_ne]; omega
    have He:=hid he
    clear he
    obtain ⟨y,hy⟩:∃ y,absZ x=y:=⟨_,rfl⟩
    rw [hy] at hab HS
    have Hy:=hid hy
    clear hy
    have hmx:z < y\/y<=z:=by omega
    rcases hmx with hmx | hmx
    all_goals
     go_wp2_with (go_at_call 260; refine (Abs_any _ _ (by omega) (by omega)).mono ?_; rw [Hy.out]; rintro e w' ⟨rfl,rfl⟩)
     go_round
     case rel=>exact ⟨m+1,max z y,by omega,by omega,by omega,by rw [HS.out,if_neg He.out],val_int (by first | rfl | omega),by go_num⟩
     case measure=>simp [intOf]; omega
  ·have hm4:m=4:=by omega
   have t1:¬ ((q:Int)*4+m < (q:Int)*4+4):=by omega
   have Hm:=hid hm4
   clear hm4 hlt
   go_wp2
   go_ret
   exact ⟨ret_int (by rw [Hz.out,Hm.out]; rfl),bnew _ _⟩
theorem inf_block:(Tryz.prog.info? 48).map (·.size)=some 16:=by kernel_rfl
def isTone (b:List Int) (i:Int):Bool:=decide (0<=i) && decide (i < 16) && decide (64<=absZ (bgt b i.toNat)) && decide (aroundZ b i.toNat<=absZ (bgt b i.toNat) / 8)
theorem toneIs_any (b:List Int) (i:Int) (w:World) (hb:b.length=16) (hr:BigB b) :
  Calls Tryz.prog 272 #[blockV b,.int .i64 i] w fun e w'=>e=.returned (.bool (isTone b i))/\Below w.heap.size w w':=by
 by_cases hi:0<=i/\i < 16
 ·obtain ⟨h0,h1⟩:=hi
  obtain ⟨n,rfl⟩:=Int.eq_ofNat_of_zero_le h0
  have hn:n < 16:=by omega
  obtain ⟨x,hx⟩:=list_get (k:=n) hb hn
  have HA:=hid (fun W=>around_any b n W hb hr hn)
  have hxb:=hr _ _ hx
  have hab:=absZ_bd hxb
  have HT:=hid (show isTone b (n:Int)=(decide (64<=absZ x) && decide (aroundZ b n<=absZ x / 8)) by unfold isTone; rw [Int.toNat_natCast,bgt_get hx]; have e1:decide ((0:Int)<=(n:Int))=true:=decide_eq_true h0; have e2:decide ((n:Int) < 16)=true:=decide_eq_true h1; rw [e1,e2]; rfl)
  obtain ⟨y,hy⟩:∃ y,absZ x=y:=⟨_,rfl⟩
  obtain ⟨z,hz⟩:∃ z,aroundZ b n=z:=⟨_,rfl⟩
  have hsz:(b.map (Value.int .i64)).toArray.size=16:=by simp [hb]
  rw [hy] at hab HT
  rw [hz] at HA HT
  have Hy:=hid hy
  unfold blockV at HA ⊢
  have hc:=blk_get hx
  generalize (b.map (Value.int .i64)).toArray=cs at *
  have HI:=hid (show (Tryz.prog.info? 48).map (·.size)=some cs.size by rw [hsz]; exact inf_block)
  clear hx hy hz hsz hb hr
  have hB:=hid (heap_alloc_new w (.cells cs 48))
  go_enter Tryz.func272,Tryz.ntmps272
  go_wp2_with (first | (go_at_call 260; refine (Abs_any _ _ (by omega) (by omega)).mono ?_; rw [Hy.out]; rintro e w' ⟨rfl,rfl⟩) | (go_at_call 285; refine (HA.out _).mono ?_; rintro e w1 ⟨rfl,hb1⟩) | (refine wpList_load_row_w rfl 48 (.tmp 2) rfl w.heap.size rfl _ cs _ _ hB.out Tryz.underlying48 rfl HI.out ?_))
  all_goals
   go_ret
   refine ⟨ret_bool (by rw [HT.out,Bool.eq_iff_iff]; simp <;> omega),?_⟩
   first | exact bnext (bnew _ _) hb1 | exact bnew _ _
 ·have hT:=hid (show isTone b i=false by unfold isTone; simp; omega)
  have hi':i < 0\/16<=i:=by omega
  clear hi
  unfold blockV
  generalize (b.map (Value.int .i64)).toArray=cs at *
  rcases hi' with hi' | hi'
  ·have a2:decide (i < 0)=true:=decide_eq_true hi'
   have HH:=hid hi'
   clear hi'
   go_enter Tryz.func272,Tryz.ntmps272
   go_wp2
   go_ret
   exact ⟨ret_bool hT.out.symm,bnew _ _⟩
  ·have a1:¬ i < 0:=by omega
   have a2:decide (i < 0)=false:=decide_eq_false a1
   go_enter Tryz.func272,Tryz.ntmps272
   go_wp2
   go_ret
   exact ⟨ret_bool hT.out.symm,bnew _ _⟩
end
section
open Go.RowKit
end
section
open Go.RowKit
def aheadB (b:List Int) (i k:Nat):Bool:=isTone b (k:Int) && (decide (absZ (bgt b i) < absZ (bgt b k)) || (decide (absZ (bgt b k)=absZ (bgt b i)) && decide (k < i)))
def aheadTo (b:List Int) (i m:Nat):Nat:=((List.range m).filter (aheadB b i)).length
def aheadZ (b:List Int) (i:Nat):Nat:=aheadTo b i 16
end
section
open Go.Lib (hid)
open Go.RowKit
def TurnV.cells (t:TurnV):List Value:=[.int .i64 t.p,.int .i64 t.u]
def TurnV.ok (t:TurnV):Prop:=(0<=t.p/\t.p<=16384)/\0<=t.u/\t.u<=16384
theorem turnK_ok {k:Nat} (hk:k < 8):(turnK k).ok:=by
 have hk8:k=0\/k=1\/k=2\/k=3\/k=4\/k=5\/k=6\/k=7:=by omega
 unfold TurnV.ok
 rcases hk8 with rfl | rfl | rfl | rfl | rfl | rfl | rfl | rfl
 ·rw [turnK_0]; simp
 ·rw [turnK_1]; simp
 ·rw [turnK_2]; simp
 ·rw [turnK_3]; simp
 ·rw [turnK_4]; simp
 ·rw [turnK_5]; simp
 ·rw [turnK_6]; simp
 ·rw [turnK_7]; simp
theorem part_prod {c v B:Int} (hc:0<=c/\c<=16384) (h1:-B<=v) (h2:v<=B):-(16384*B)<=c*v/\c*v<=16384*B:=by
 have hB:0<=B:=by omega
 have a:=Int.mul_le_mul_of_nonneg_left h2 hc.1
 have b:=Int.mul_le_mul_of_nonneg_left h1 hc.1
 have d:=Int.mul_le_mul_of_nonneg_right hc.2 hB
 rw [Int.mul_neg] at b
 omega
theorem part_bd {c v B:Int} (hc:0<=c/\c<=16384) (h1:-B<=v) (h2:v<=B):-(B+1)<=partZ c v/\partZ c v<=B+1:=by
 have h:=part_prod hc h1 h2
 have k:=partZ_lin c v
 omega
theorem part_any (c v:Int) (w:World) (hc:0<=c/\c<=16384) (h1:-17592186044416<=v) (h2:v<=17592186044416) :
  Calls Tryz.prog 185 #[.int .i64 c,.int .i64 v] w fun e w'=>e=.returned (.int .i64 (partZ c v))/\Below w.heap.size w w':=by
 have hp:=part_prod hc h1 h2
 have hw:IntKind.i64.wrap (c*v)=c*v:=IntWalk.i64_in _ (by omega)
 have hb14:-9223372036854775808<=c*v/\c*v<=9223372036854775807:=by omega
 unfold partZ
 have HR:=hid (fun W=>Round_any (c*v) 14 W hb14.1 hb14.2 (by decide) (by decide))
 rw [show (14:Int).toNat=14 from rfl] at HR
 generalize roundZ (c*v) 14=pz at *
 clear hb14 hp h1 h2 hc
 go_enter Tryz.func185,Tryz.ntmps185
 go_wp2_with (go_at_call 155; fail)
 refine (HR.out _).mono ?_
 rintro e w1 ⟨rfl,nd,hnd⟩
 have hb:Below w.heap.size w w1:=by rw [hnd]; exact below_drewN (Below.refl _ _) nd
 clear hnd
 go_wp2
 go_ret
 exact ⟨rfl,hb⟩
def Turnable (a:Int):Prop:=-1099511627776<=a/\a<=1099511627776
theorem liftTurn_any (a b:Int) (t:TurnV) (w:World) (ht:t.ok) (ha:Turnable a) (hb:Turnable b) :
  Calls Tryz.prog 259 #[.int .i64 a,.int .i64 b,.agg #[.int .i64 t.p,.int .i64 t.u]] w fun e w'=>e=.returned (.tuple #[.int .i64 (turnA a b t),.int .i64 (turnB a b t)])/\Below w.heap.size w w':=by
 obtain ⟨p,u⟩:=t
 obtain ⟨hp,hu⟩:=ht
 simp only at hp hu
 have b1:=part_bd hp hb.1 hb.2
 have H1:=hid (fun W=>part_any p b W hp (by have:=hb.1; omega) (by have:=hb.2; omega))
 obtain ⟨ha1,ha2⟩:=ha
 obtain ⟨hb1,hb2⟩:=hb
 have HA:turnA a b ⟨p,u⟩=a+partZ p b+partZ p (b - partZ u (a+partZ p b)):=rfl
 have HB:turnB a b ⟨p,u⟩=b - partZ u (a+partZ p b):=rfl
 rw [HA,HB]
 generalize partZ p b=X at *
 have b2:=part_bd (v:=a+X) (B:=4398046511104) hu (by omega) (by omega)
 have H2:=hid (fun W=>part_any u (a+X) W hu (by omega) (by omega))
 generalize partZ u (a+X)=Y at *
 have b3:=part_bd (v:=b - Y) (B:=8796093022208) hp (by omega) (by omega)
 have H3:=hid (fun W=>part_any p (b - Y) W hp (by omega) (by omega))
 generalize partZ p (b - Y)=Z at *
 have w1:IntKind.i64.wrap (a+X)=a+X:=IntWalk.i64_in _ (by omega)
 have w2:IntKind.i64.wrap (b - Y)=b - Y:=IntWalk.i64_in _ (by omega)
 have w3:IntKind.i64.wrap (a+X+Z)=a+X+Z:=IntWalk.i64_in _ (by omega)
 have HM:=hid (heap_alloc_new w (.cells #[.int .i64 p,.int .i64 u] 97))
 clear HA HB b1 b2 b3 hp hu ha1 ha2 hb1 hb2
 go_enter Tryz.func259,Tryz.ntmps259
 go_wp2_with (go_at_call 185; fail)
 refine (H1.out _).mono ?_
 rintro e v1 ⟨rfl,hv1⟩
 have M1:=hid (hkeep HM.out hv1)
 have B1:=hid (bnext (bnew w _) hv1)
 have c1:=cell_of_row v1 w.heap.size 1 _ _ _ M1.out
 clear hv1
 go_wp2_with (go_at_call 185; fail)
 refine (H2.out _).mono ?_
 rintro e v2 ⟨rfl,hv2⟩
 have M2:=hid (hkeep M1.out hv2)
 have B2:=hid (bnext B1.out hv2)
 have c2:=cell_of_row v2 w.heap.size 0 _ _ _ M2.out
 clear hv2 c1
 go_wp2_with (go_at_call 185; fail)
 refine (H3.out _).mono ?_
 rintro e v3 ⟨rfl,hv3⟩
 go_wp2
 refine bodyPost_ret (results_tmp2 Tryz.results259 _ _ _) rfl ?_
 exact ⟨rfl,bnext B2.out hv3⟩
theorem inf_turn:(Tryz.prog.info? 97).map (·.size)=some 2:=by kernel_rfl
theorem tableTurn_any (k:Nat) (w:World) (hk:k < 8) :
  Calls Tryz.prog 153 #[.int .i64 k] w fun e w'=>e=.returned (.agg #[.int .i64 (turnK k).p,.int .i64 (turnK k).u])/\Below w.heap.size w w':=by
 have hk8:k=0\/k=1\/k=2\/k=3\/k=4\/k=5\/k=6\/k=7:=by omega
 rcases hk8 with rfl | rfl | rfl | rfl | rfl | rfl | rfl | rfl
 all_goals
  first | rw [turnK_0] | rw [turnK_1] | rw [turnK_2] | rw [turnK_3] | rw [turnK_4] | rw [turnK_5] | rw [turnK_6] | rw [turnK_7]
  go_enter Tryz.func153,Tryz.ntmps153
  go_wp2
  refine bodyPost_ret (v:=_) (results_cell_row Tryz.results153 _ _ w.heap.size 97 _ (0,0) _ rfl (heap_alloc_new w _) Tryz.underlying97 rfl inf_turn) rfl ?_
  exact ⟨rfl,bnew _ _⟩
end
end Go.Proofs.YtnbbfblaipjcmaaGreatDoor
