/- ToneA, ToneB, ToneC, LiftA. Conditions: as each theorem states. -/
import Derived.Handy
import Derived.Test.YtnbbfblaipjcmaaGreatDoorPv04
import Derived.Test.YtnbbfblaipjcmaaGreatDoorPv01
import Derived.Test.YtnbbfblaipjcmaaGreatDoorPv05
import Derived.Test.YtnbbfblaipjcmaaGreatDoorPv03
set_option maxRecDepth 100000
set_option maxHeartbeats 1000000
namespace Go.Proofs.YtnbbfblaipjcmaaGreatDoor
section
open Go.Lib (hid)
open Go.RowKit
theorem oK (i:Nat) (w:World) (hi:i < 16):Calls Tryz.prog 98 #[.int .i64 i] w fun e w'=>e=.returned (.int .i64 ((i:Int) / 4))/\w=w':=by
 go_enter Tryz.func98,Tryz.ntmps98
 go_wp2
 go_ret
 exact ⟨rfl,rfl⟩
def mR (b:List Int) (i m:Nat):Int:=(List.range m).foldl (fun p d=>if i / 4*4+d=i then p else max p (eA (bgt b (i / 4*4+d)))) 0
def A9 (b:List Int) (i:Nat):Int:=mR b i 4
theorem GE (b:List Int) (i m:Nat):mR b i (m+1)=if i / 4*4+m=i then mR b i m else max (mR b i m) (eA (bgt b (i / 4*4+m))):=by
 unfold mR; rw [List.range_succ,List.foldl_append]; rfl
theorem A8 {x:Int} (h:-4611686018427387904<=x/\x<=4611686018427387904):0<=eA x/\eA x<=4611686018427387904:=by
 unfold eA; split
 ·omega
 ·split <;> omega
theorem SY (b:List Int) (i:Nat) (w:World) (hb:b.length=16) (hr:BigB b) (hi:i < 16) :
  Calls Tryz.prog 285 #[aT b,.int .i64 i] w fun e w'=>e=.returned (.int .i64 (A9 b i))/\Below w.heap.size w w':=by
 unfold aT
 have HC:=hid (fun (k:Nat) (x:Int) (h:b[k]? = some x)=>eP h)
 generalize (b.map (Value.int .i64)).toArray=cs at *
 have Hb:=hid hb
 have HR:=hid hr
 clear hb hr
 obtain ⟨q,hq⟩:∃ q,i / 4=q:=⟨_,rfl⟩
 have Hq:=hid hq
 have hq4:q < 4:=by omega
 have hB:=hid (show ∀ W,Calls Tryz.prog 98 #[.int .i64 i] W fun e w'=>e=.returned (.int .i64 (q:Int))/\W=w' from fun W=>(oK i W hi).mono fun e w' ⟨he,hw⟩=>⟨he.trans (cE (by omega)),hw⟩)
 clear hq
 go_enter Tryz.func285,Tryz.ntmps285
 go_wp2_with (go_at_call 98; refine (hB.out _).mono ?_; rintro e w' ⟨rfl,rfl⟩)
 go_loop [6,7] (fun p k=>∃ (m:Nat) (z:Int),m<=4/\0<=z/\z<=4611686018427387904/\z=mR b i m/\p=.int .i64 z/\k=.int .i64 ((q:Int)*4+m)) (fun p k=>(20 - (intOf k)).toNat)
 case atStart=>exact ⟨0,0,by omega,by omega,by omega,rfl,rfl,by go_num⟩
 case round =>
  obtain ⟨m,z,hm,hz0,hz1,hz,rfl,rfl⟩:=hrel
  have Hz:=hid hz
  clear hz
  by_cases hlt:m < 4
  ·have t1:(q:Int)*4+m < (q:Int)*4+4:=by omega
   obtain ⟨x,hx⟩:=aE (k:=q*4+m) Hb.out (by omega)
   have hc:=HC.out _ _ hx
   have hxb:=HR.out _ _ hx
   have hab:=A8 hxb
   have HS:=hid (show mR b i (m+1)=if q*4+m=i then z else max z (eA x) by rw [GE,Hq.out,Hz.out,aD hx])
   clear hx
   by_cases he:q*4+m=i
   ·have t2:(((q:Int)*4+m) == (i:Int))=true:=beq_iff_eq.2 (by omega)
    have t3:(((q:Int)*4+m) != (i:Int))=false:=by rw [bne_eq_false_iff_eq]; omega
    have He:=hid he
    clear he
    go_wp2
    go_round
    case rel=>exact ⟨m+1,z,by omega,hz0,hz1,by rw [HS.out,if_pos He.out],rfl,by go_num⟩
    case measure=>simp [intOf]; omega
   ·have t2:(((q:Int)*4+m) == (i:Int))=false:=beq_eq_false_iff_ne.2 (by omega)
    have t3:(((q:Int)*4+m) != (i:Int))=true:=by rw [bne_iff_ne]; omega
    have He:=hid he
    clear he
    obtain ⟨y,hy⟩:∃ y,eA x=y:=⟨_,rfl⟩
    rw [hy] at hab HS
    have Hy:=hid hy
    clear hy
    have hmx:z < y\/y<=z:=by omega
    rcases hmx with hmx | hmx
    all_goals
     go_wp2_with (go_at_call 260; refine (vL _ _ (by omega) (by omega)).mono ?_; rw [Hy.out]; rintro e w' ⟨rfl,rfl⟩)
     go_round
     case rel=>exact ⟨m+1,max z y,by omega,by omega,by omega,by rw [HS.out,if_neg He.out],jB (by first | rfl | omega),by go_num⟩
     case measure=>simp [intOf]; omega
  ·have hm4:m=4:=by omega
   have t1:¬ ((q:Int)*4+m < (q:Int)*4+4):=by omega
   have Hm:=hid hm4
   clear hm4 hlt
   go_wp2
   go_ret
   exact ⟨cE (by rw [Hz.out,Hm.out]; rfl),aL _ _⟩
theorem bS:(Tryz.prog.info? 48).map (·.size)=some 16:=by kernel_rfl
def lI (b:List Int) (i:Int):Bool:=decide (0<=i) && decide (i < 16) && decide (64<=eA (bgt b i.toNat)) && decide (A9 b i.toNat<=eA (bgt b i.toNat) / 8)
theorem WA (b:List Int) (i:Int) (w:World) (hb:b.length=16) (hr:BigB b) :
  Calls Tryz.prog 272 #[aT b,.int .i64 i] w fun e w'=>e=.returned (.bool (lI b i))/\Below w.heap.size w w':=by
 by_cases hi:0<=i/\i < 16
 ·obtain ⟨h0,h1⟩:=hi
  obtain ⟨n,rfl⟩:=Int.eq_ofNat_of_zero_le h0
  have hn:n < 16:=by omega
  obtain ⟨x,hx⟩:=aE (k:=n) hb hn
  have HA:=hid (fun W=>SY b n W hb hr hn)
  have hxb:=hr _ _ hx
  have hab:=A8 hxb
  have HT:=hid (show lI b (n:Int)=(decide (64<=eA x) && decide (A9 b n<=eA x / 8)) by unfold lI; rw [Int.toNat_natCast,aD hx]; have e1:decide ((0:Int)<=(n:Int))=true:=decide_eq_true h0; have e2:decide ((n:Int) < 16)=true:=decide_eq_true h1; rw [e1,e2]; rfl)
  obtain ⟨y,hy⟩:∃ y,eA x=y:=⟨_,rfl⟩
  obtain ⟨z,hz⟩:∃ z,A9 b n=z:=⟨_,rfl⟩
  have hsz:(b.map (Value.int .i64)).toArray.size=16:=by simp [hb]
  rw [hy] at hab HT
  rw [hz] at HA HT
  have Hy:=hid hy
  unfold aT at HA ⊢
  have hc:=eP hx
  generalize (b.map (Value.int .i64)).toArray=cs at *
  have HI:=hid (show (Tryz.prog.info? 48).map (·.size)=some cs.size by rw [hsz]; exact bS)
  clear hx hy hz hsz hb hr
  have hB:=hid (heap_alloc_new w (.cells cs 48))
  go_enter Tryz.func272,Tryz.ntmps272
  go_wp2_with (first | (go_at_call 260; refine (vL _ _ (by omega) (by omega)).mono ?_; rw [Hy.out]; rintro e w' ⟨rfl,rfl⟩) | (go_at_call 285; refine (HA.out _).mono ?_; rintro e w1 ⟨rfl,hb1⟩) | (refine aB rfl 48 (.tmp 2) rfl w.heap.size rfl _ cs _ _ hB.out Tryz.underlying48 rfl HI.out ?_))
  all_goals
   go_ret
   refine ⟨dI (by rw [HT.out,Bool.eq_iff_iff]; simp <;> omega),?_⟩
   first | exact aC (aL _ _) hb1 | exact aL _ _
 ·have hT:=hid (show lI b i=false by unfold lI; simp; omega)
  have hi':i < 0\/16<=i:=by omega
  clear hi
  unfold aT
  generalize (b.map (Value.int .i64)).toArray=cs at *
  rcases hi' with hi' | hi'
  ·have a2:decide (i < 0)=true:=decide_eq_true hi'
   have HH:=hid hi'
   clear hi'
   go_enter Tryz.func272,Tryz.ntmps272
   go_wp2
   go_ret
   exact ⟨dI hT.out.symm,aL _ _⟩
  ·have a1:¬ i < 0:=by omega
   have a2:decide (i < 0)=false:=decide_eq_false a1
   go_enter Tryz.func272,Tryz.ntmps272
   go_wp2
   go_ret
   exact ⟨dI hT.out.symm,aL _ _⟩
end
section
open Go.RowKit
end
section
open Go.RowKit
def aA2 (b:List Int) (i k:Nat):Bool:=lI b (k:Int) && (decide (eA (bgt b i) < eA (bgt b k)) || (decide (eA (bgt b k)=eA (bgt b i)) && decide (k < i)))
def WS (b:List Int) (i m:Nat):Nat:=((List.range m).filter (aA2 b i)).length
def CJ (b:List Int) (i:Nat):Nat:=WS b i 16
end
section
open Go.Lib (hid)
open Go.RowKit
def TurnV.cells (t:TurnV):List Value:=[.int .i64 t.p,.int .i64 t.u]
def TurnV.ok (t:TurnV):Prop:=(0<=t.p/\t.p<=16384)/\0<=t.u/\t.u<=16384
theorem iQ {k:Nat} (hk:k < 8):(bE k).ok:=by
 have hk8:k=0\/k=1\/k=2\/k=3\/k=4\/k=5\/k=6\/k=7:=by omega
 unfold TurnV.ok
 rcases hk8 with rfl | rfl | rfl | rfl | rfl | rfl | rfl | rfl
 ·rw [BN]; simp
 ·rw [BO]; simp
 ·rw [BP]; simp
 ·rw [BQ]; simp
 ·rw [BR]; simp
 ·rw [BS]; simp
 ·rw [BT]; simp
 ·rw [BU]; simp
theorem JT {c v B:Int} (hc:0<=c/\c<=16384) (h1:-B<=v) (h2:v<=B):-(16384*B)<=c*v/\c*v<=16384*B:=by
 have hB:0<=B:=by omega
 have a:=Int.mul_le_mul_of_nonneg_left h2 hc.1
 have b:=Int.mul_le_mul_of_nonneg_left h1 hc.1
 have d:=Int.mul_le_mul_of_nonneg_right hc.2 hB
 rw [Int.mul_neg] at b
 omega
theorem sX {c v B:Int} (hc:0<=c/\c<=16384) (h1:-B<=v) (h2:v<=B):-(B+1)<=b8 c v/\b8 c v<=B+1:=by
 have h:=JT hc h1 h2
 have k:=lM c v
 omega
theorem pE (c v:Int) (w:World) (hc:0<=c/\c<=16384) (h1:-17592186044416<=v) (h2:v<=17592186044416) :
  Calls Tryz.prog 185 #[.int .i64 c,.int .i64 v] w fun e w'=>e=.returned (.int .i64 (b8 c v))/\Below w.heap.size w w':=by
 have hp:=JT hc h1 h2
 have hw:IntKind.i64.wrap (c*v)=c*v:=IntWalk.i64_in _ (by omega)
 have hb14:-9223372036854775808<=c*v/\c*v<=9223372036854775807:=by omega
 unfold b8
 have HR:=hid (fun W=>II (c*v) 14 W hb14.1 hb14.2 (by decide) (by decide))
 rw [show (14:Int).toNat=14 from rfl] at HR
 generalize lP (c*v) 14=pz at *
 clear hb14 hp h1 h2 hc
 go_enter Tryz.func185,Tryz.ntmps185
 go_wp2_with (go_at_call 155; fail)
 refine (HR.out _).mono ?_
 rintro e w1 ⟨rfl,nd,hnd⟩
 have hb:Below w.heap.size w w1:=by rw [hnd]; exact below_drewN (Below.refl _ _) nd
 clear hnd
 go_wp2
 go_ret
 exact ⟨rfl,hb⟩
def cJ (a:Int):Prop:=-1099511627776<=a/\a<=1099511627776
theorem kL (a b:Int) (t:TurnV) (w:World) (ht:t.ok) (ha:cJ a) (hb:cJ b) :
  Calls Tryz.prog 259 #[.int .i64 a,.int .i64 b,.agg #[.int .i64 t.p,.int .i64 t.u]] w fun e w'=>e=.returned (.tuple #[.int .i64 (dG a b t),.int .i64 (dU a b t)])/\Below w.heap.size w w':=by
 obtain ⟨p,u⟩:=t
 obtain ⟨hp,hu⟩:=ht
 simp only at hp hu
 have b1:=sX hp hb.1 hb.2
 have H1:=hid (fun W=>pE p b W hp (by have:=hb.1; omega) (by have:=hb.2; omega))
 obtain ⟨ha1,ha2⟩:=ha
 obtain ⟨hb1,hb2⟩:=hb
 have HA:dG a b ⟨p,u⟩=a+b8 p b+b8 p (b - b8 u (a+b8 p b)):=rfl
 have HB:dU a b ⟨p,u⟩=b - b8 u (a+b8 p b):=rfl
 rw [HA,HB]
 generalize b8 p b=X at *
 have b2:=sX (v:=a+X) (B:=4398046511104) hu (by omega) (by omega)
 have H2:=hid (fun W=>pE u (a+X) W hu (by omega) (by omega))
 generalize b8 u (a+X)=Y at *
 have b3:=sX (v:=b - Y) (B:=8796093022208) hp (by omega) (by omega)
 have H3:=hid (fun W=>pE p (b - Y) W hp (by omega) (by omega))
 generalize b8 p (b - Y)=Z at *
 have w1:IntKind.i64.wrap (a+X)=a+X:=IntWalk.i64_in _ (by omega)
 have w2:IntKind.i64.wrap (b - Y)=b - Y:=IntWalk.i64_in _ (by omega)
 have w3:IntKind.i64.wrap (a+X+Z)=a+X+Z:=IntWalk.i64_in _ (by omega)
 have HM:=hid (heap_alloc_new w (.cells #[.int .i64 p,.int .i64 u] 97))
 clear HA HB b1 b2 b3 hp hu ha1 ha2 hb1 hb2
 go_enter Tryz.func259,Tryz.ntmps259
 go_wp2_with (go_at_call 185; fail)
 refine (H1.out _).mono ?_
 rintro e v1 ⟨rfl,hv1⟩
 have M1:=hid (aF HM.out hv1)
 have B1:=hid (aC (aL w _) hv1)
 have c1:=cell_of_row v1 w.heap.size 1 _ _ _ M1.out
 clear hv1
 go_wp2_with (go_at_call 185; fail)
 refine (H2.out _).mono ?_
 rintro e v2 ⟨rfl,hv2⟩
 have M2:=hid (aF M1.out hv2)
 have B2:=hid (aC B1.out hv2)
 have c2:=cell_of_row v2 w.heap.size 0 _ _ _ M2.out
 clear hv2 c1
 go_wp2_with (go_at_call 185; fail)
 refine (H3.out _).mono ?_
 rintro e v3 ⟨rfl,hv3⟩
 go_wp2
 refine bodyPost_ret (results_tmp2 Tryz.results259 _ _ _) rfl ?_
 exact ⟨rfl,aC B2.out hv3⟩
theorem iX (a b:Int) (t:TurnV) (w:World) (ht:t.ok) (ha:cJ a) (hb:cJ b) :
  Calls Tryz.prog 154 #[.int .i64 a,.int .i64 b,.agg #[.int .i64 t.p,.int .i64 t.u]] w fun e w'=>e=.returned (.tuple #[.int .i64 (unA a b t),.int .i64 (unB a b t)])/\Below w.heap.size w w':=by
 obtain ⟨p,u⟩:=t
 obtain ⟨hp,hu⟩:=ht
 simp only at hp hu
 have b1:=sX hp hb.1 hb.2
 have H1:=hid (fun W=>pE p b W hp (by have:=hb.1; omega) (by have:=hb.2; omega))
 obtain ⟨ha1,ha2⟩:=ha
 obtain ⟨hb1,hb2⟩:=hb
 have HA:unA a b ⟨p,u⟩=a - b8 p b - b8 p (b+b8 u (a - b8 p b)):=rfl
 have HB:unB a b ⟨p,u⟩=b+b8 u (a - b8 p b):=rfl
 rw [HA,HB]
 generalize b8 p b=X at *
 have b2:=sX (v:=a - X) (B:=4398046511104) hu (by omega) (by omega)
 have H2:=hid (fun W=>pE u (a - X) W hu (by omega) (by omega))
 generalize b8 u (a - X)=Y at *
 have b3:=sX (v:=b+Y) (B:=8796093022208) hp (by omega) (by omega)
 have H3:=hid (fun W=>pE p (b+Y) W hp (by omega) (by omega))
 generalize b8 p (b+Y)=Z at *
 have w1:IntKind.i64.wrap (a - X)=a - X:=IntWalk.i64_in _ (by omega)
 have w2:IntKind.i64.wrap (b+Y)=b+Y:=IntWalk.i64_in _ (by omega)
 have w3:IntKind.i64.wrap (a - X - Z)=a - X - Z:=IntWalk.i64_in _ (by omega)
 have HM:=hid (heap_alloc_new w (.cells #[.int .i64 p,.int .i64 u] 97))
 clear HA HB b1 b2 b3 hp hu ha1 ha2 hb1 hb2
 go_enter Tryz.func154,Tryz.ntmps154
 go_wp2_with (go_at_call 185; fail)
 refine (H1.out _).mono ?_
 rintro e v1 ⟨rfl,hv1⟩
 have M1:=hid (aF HM.out hv1)
 have B1:=hid (aC (aL w _) hv1)
 have c1:=cell_of_row v1 w.heap.size 1 _ _ _ M1.out
 clear hv1
 go_wp2_with (go_at_call 185; fail)
 refine (H2.out _).mono ?_
 rintro e v2 ⟨rfl,hv2⟩
 have M2:=hid (aF M1.out hv2)
 have B2:=hid (aC B1.out hv2)
 have c2:=cell_of_row v2 w.heap.size 0 _ _ _ M2.out
 clear hv2 c1
 go_wp2_with (go_at_call 185; fail)
 refine (H3.out _).mono ?_
 rintro e v3 ⟨rfl,hv3⟩
 go_wp2
 refine bodyPost_ret (results_tmp2 Tryz.results154 _ _ _) rfl ?_
 exact ⟨rfl,aC B2.out hv3⟩
theorem aBD:(Tryz.prog.info? 97).map (·.size)=some 2:=by kernel_rfl
theorem tX (k:Nat) (w:World) (hk:k < 8) :
  Calls Tryz.prog 153 #[.int .i64 k] w fun e w'=>e=.returned (.agg #[.int .i64 (bE k).p,.int .i64 (bE k).u])/\Below w.heap.size w w':=by
 have hk8:k=0\/k=1\/k=2\/k=3\/k=4\/k=5\/k=6\/k=7:=by omega
 rcases hk8 with rfl | rfl | rfl | rfl | rfl | rfl | rfl | rfl
 all_goals
  first | rw [BN] | rw [BO] | rw [BP] | rw [BQ] | rw [BR] | rw [BS] | rw [BT] | rw [BU]
  go_enter Tryz.func153,Tryz.ntmps153
  go_wp2
  refine bodyPost_ret (v:=_) (results_cell_row Tryz.results153 _ _ w.heap.size 97 _ (0,0) _ rfl (heap_alloc_new w _) Tryz.underlying97 rfl aBD) rfl ?_
  exact ⟨rfl,aL _ _⟩
end
end Go.Proofs.YtnbbfblaipjcmaaGreatDoor
