/- Base, NumA, NumP, LiftP, Lists, BitsP. Conditions: as each theorem states. -/
import Derived.Test.YtbpgfkjhclpbdaaGreatDoorPw00
import Derived.Test.YtbpgfkjhclpbdaaGreatDoorProg
import Derived.WalkKit
import Derived.ProofKit
import Derived.OpenShut
import Derived.Lib.Hide
import Derived.Deep.QuietTactic
import Derived.BigQuiet
import Derived.WalkSmall
import Derived.Deep.DeepCutAuto
import Derived.Deep.RegionHeld3
set_option maxRecDepth 100000
namespace Go.Proofs.YtbpgfkjhclpbdaaGreatDoor
abbrev LT:=@Go.heap_alloc_new
abbrev aGj:=@Go.RowKit.Below.refl
abbrev aGk:=@Go.bodyPost_ret
abbrev aGl:=@Go.IntWalk.i64_in
abbrev aGo:=@Go.cell_of_row
abbrev aGv:=@Go.wpQuiet_nil
abbrev aGC:=@Go.Lib.hid
abbrev aGI:=@Go.wpAny_take
abbrev aGN:=@Go.results_tmp2
abbrev aGQ:=@Go.mem_ready
abbrev aGX:=@Go.AllReady.cons
abbrev aG1:=@Go.World.grownBy.refl
abbrev aG5:=@Go.World.size_alloc
abbrev aG9:=@Go.results_cell_row
abbrev aHc:=@Go.World.ownsRow_nil
abbrev aHf:=@Go.AllReady.nil
abbrev aHg:=@Go.heap_alloc_old
abbrev aHh:=@Go.wpAny_ready
abbrev aHm:=@Go.RowKit.Below.heap_setCell
abbrev aHo:=@Go.ready_mono
abbrev aHx:=@Go.info_parts
abbrev aHy:=@Go.setRow_other
abbrev aHC:=@Go.getD_set_ne
abbrev aHD:=@Go.wp_loop_rounds
abbrev aHJ:=@Go.results_none
abbrev aHK:=@Go.setRow_heap
abbrev aHN:=@Go.bodyPost_end
abbrev aHS:=@Go.Sem.run_bind
abbrev aHY:=@Go.below_drewN
abbrev aHZ:=@Go.wpIn_wide
abbrev aH5:=@Go.World.cell?_of_block
abbrev aIa:=@Go.ByteArray.toList_eq
abbrev aIc:=@Go.Region.noSelect_spec
abbrev aIf:=@Go.wp_region_any
abbrev aIo:=@Go.IntKind.wrap_u64
abbrev aIx:=@Go.frozen_of_row
abbrev aIy:=@Go.qOp_mono
abbrev aIz:=@Go.run_underlying
abbrev aIA:=@Go.wpOp_mono
abbrev aIB:=@Go.wpOp_of_qOp
abbrev aIC:=@Go.yieldsIn_of_qOp
abbrev aIR:=@Go.Region.free_spec
abbrev aIS:=@Go.RowKit.Below.setCell
abbrev aIT:=@Go.RowKit.ownsRow_setCell_below
abbrev aIV:=@Go.execOp_put
abbrev aIW:=@Go.wanted_put
abbrev aIX:=@Go.wp_load_row
abbrev aJb:=@Go.Oper.apart_spec
abbrev aJd:=@Go.callsIn_wide
abbrev aJf:=@Go.toList_madeCells_one
abbrev aJg:=@Go.wpAny_done
abbrev aJD:=@Go.Calls.quiet_of_same
abbrev aJE:=@Go.IntKind.wrap_u32
abbrev aJF:=@Go.IntKind.wrap_u8
open Tryz
open Go.RowKit
theorem dU{a b:Bool}(h:a=b):Ending.returned (.bool a)=.returned (.bool b):=by rw[h]
theorem jX{k:IntKind}{a b:Int}(h:a=b):Value.int k a=.int k b:=by rw[h]
theorem cL{k:IntKind}{a b:Int}(h:a=b):Ending.returned (.int k a)=.returned (.int k b):=by rw[h]
theorem aC{a b c:World}(h:Below a.heap.size a b)(k:Below b.heap.size b c):Below a.heap.size a c:=h.trans (k.mono h.size)
theorem aP(w:World)(o:Obj):Below w.heap.size w (w.alloc o):=(aGj _ _).alloc (LE _) _
theorem QV{s:ByteArray}(h:s.size=0):s=ByteArray.empty:=by
 apply ByteArray.ext;apply Array.eq_empty_of_size_eq_zero;simpa using h
theorem E7{s:ByteArray}(h:s.size≠0):s.toList.isEmpty=false:=by
 rw[List.isEmpty_eq_false_iff];intro e;rw[aIa]at e;have h1:s.data.toList.length=0:=by rw[e];rfl
 rw[Array.length_toList]at h1;exact h h1
def s9(v lo hi:Int):Int:=if v<lo\/hi<lo then lo else if hi<v then hi else v
def sR(v:Int):Int:=s9 v (-32768) 32767
def jP(v:Int)(p:Nat):Int:=if p=0 then v else v / 2 ^ p+v / 2 ^ (p-1) % 2
def eS(v:Int):Int:=if v = -9223372036854775808 then 9223372036854775807 else if v<0 then -v else v
theorem aDi(n m : Int)(i : Nat)(hm : m = 2 ^ i - 1)(hi : i ≤ 62): bits .and .i64 n m = n % 2 ^ i := by
  subst hm
  have h1 : (2 : Int) ^ i - 1 = ((2 ^ i - 1 : Nat) : Int) := by
    have := Nat.two_pow_pos i
    rw [Int.natCast_sub (by omega)]; simp
  have hlt : 2 ^ i ≤ 2 ^ 62 := Nat.pow_le_pow_right (by decide) hi
  have hm' : (BitVec.ofInt 64 ((2 : Int) ^ i - 1)).toNat = 2 ^ i - 1 := by
    rw [h1, BitVec.ofInt_natCast, BitVec.toNat_ofNat]
    exact Nat.mod_eq_of_lt (by have : 2 ^ 62 < 2 ^ 64 := by decide
                               omega)
  have key : (BitVec.ofInt 64 n &&& BitVec.ofInt 64 ((2 : Int) ^ i - 1)).toNat = (n % ((2 ^ 64 : Nat) : Int)).toNat % 2 ^ i := by
    rw [BitVec.toNat_and, BitVec.toNat_ofInt, hm', Nat.and_two_pow_sub_one_eq_mod]
  show IntKind.i64.wrap ((BitVec.ofInt 64 n &&& BitVec.ofInt 64 ((2 : Int) ^ i - 1)).toNat : Nat) = n % 2 ^ i
  rw [key, IntKind.wrap_i64]
  have h64 : (((n % ((2 ^ 64 : Nat) : Int)).toNat % 2 ^ i : Nat) : Int) = n % 2 ^ i := by
    rw [Int.natCast_emod, Int.toNat_of_nonneg (Int.emod_nonneg _ (by decide))]
    have hd : ((2 : Int) ^ i) ∣ ((2 ^ 64 : Nat) : Int) := by
      rw [Int.natCast_pow]
      exact ⟨2 ^ (64 - i), by rw [← Int.pow_add]; congr 1; omega⟩
    rw [Int.natCast_pow]
    exact Int.emod_emod_of_dvd _ hd
  rw [h64]
  have hb0 := Int.emod_nonneg n (b := (2 : Int) ^ i) (by have := Int.pow_pos (n := 2) (m := i) (by decide); omega)
  have hb1 := Int.emod_lt_of_pos n (b := (2 : Int) ^ i) (Int.pow_pos (by decide))
  have hb2 : (2 : Int) ^ i ≤ ((2 ^ 62 : Nat) : Int) := by rw [show (2 : Int) ^ i = ((2 ^ i : Nat) : Int) by rw [Int.natCast_pow]; rfl]; exact Int.ofNat_le.2 hlt
  have hb3 : ((2 ^ 62 : Nat) : Int) = 4611686018427387904 := by decide
  omega
theorem aDh(n:Int):bits .and .i64 n 1=n % 2:=aDi n 1 1 (by decide) (by decide)
theorem VE(p:Nat):(0:Int)<2 ^ p:=aHP (by decide)
theorem aEF(v:Int)(p:Nat)(F:1<=p)(h1:-9223372036854775808<=v)(h2:v<=9223372036854775807):-4611686018427387904<=v / 2 ^ p/\v / 2 ^ p<=4611686018427387903:=by
 obtain⟨k,rfl⟩:∃ k,p=k+1:=⟨p-1,by omega⟩;have hk:=VE k;have e:(2:Int) ^ (k+1)=2*2 ^ k:=by rw[aI0];omega
 rw[e,<-Int.ediv_ediv_of_nonneg (by decide)];generalize G:v / 2=x;have h:-4611686018427387904<=x/\x<=4611686018427387903:=by omega
 constructor
 ·have t:=Int.ediv_le_ediv hk h.1;have z:(-4611686018427387904:Int)<=-4611686018427387904 / 2 ^ k:=by
   rw[Int.le_ediv_iff_mul_le hk];have:(-4611686018427387904:Int)*2 ^ k<=-4611686018427387904*1:=Int.mul_le_mul_of_nonpos_left (by omega) (by omega);omega
  omega
 ·rcases aIg x 0 with d|d
  ·have:=Int.ediv_neg_of_neg_of_pos d hk;omega
  ·have:=Int.ediv_le_self (2 ^ k) d;omega
theorem zL(v lo hi:Int)(w:World):
  Calls prog 122 #[.int .i64 v,.int .i64 lo,.int .i64 hi] w fun e w'=>e=.returned (.int .i64 (s9 v lo hi))/\w=w':=by
 go_enter func122,ntmps122;go_wp2
 all_goals
  go_ret
  exact⟨cL (by unfold s9;(repeat' split) <;> omega),rfl⟩
theorem aAa(v:Int)(w:World):
  Calls prog 76 #[.int .i64 v] w fun e w'=>e=.returned (.int .i64 (sR v))/\w=w':=by
 go_enter func76,ntmps76;go_wp2_with (go_at_call 122;refine (zL _ _ _ _).mono ?_;rintro e w' ⟨rfl,rfl⟩)
 go_ret
 exact⟨rfl,rfl⟩
theorem xK(v:Int)(w:World)(h1:-9223372036854775808<=v)(h2:v<=9223372036854775807):
  Calls prog 229 #[.int .i64 v] w fun e w'=>e=.returned (.int .i64 (eS v))/\w=w':=by
 by_cases h:v = -9223372036854775808
 ·have hb:(v == -9223372036854775808)=true:=aIl.2 h;have H:=aGC h;clear h;go_enter func229,ntmps229;go_wp2
  go_ret
  exact⟨cL (by unfold eS;rw[FN H.out]),rfl⟩
 ·have hb:(v == -9223372036854775808)=false:=aG8.2 h;have H:=aGC h;clear h;have d:-9223372036854775807<=v:=by have:=H.out;omega
  clear h1;go_enter func229,ntmps229;go_wp2
  all_goals
   go_ret
   exact⟨cL (by unfold eS;rw[sL H.out];split <;> omega),rfl⟩
theorem J8(v p:Int)(w:World)(h1:-9223372036854775808<=v)(h2:v<=9223372036854775807)(d:0<=p)(z:p<=62):
  Calls prog 125 #[.int .i64 v,.int .i64 p] w fun e w'=>e=.returned (.int .i64 (jP v p.toNat))/\∃ n,w'=w.drewN n:=by
 by_cases h:p=0
 ·subst h;go_enter func125,ntmps125;go_wp2
  go_ret
  exact⟨cL (by simp[jP]),0,rfl⟩
 ·have hb:(p == (0:Int))=false:=aG8.2 h;have t:1<=p:=by omega
  clear h d;go_enter func125,ntmps125;go_wp2
  go_quiet (fail)
  go_wp2
  go_ret
  have F:=aEF v p.toNat (by omega) h1 h2;refine⟨cL ?_,_,rfl⟩;rw[aDh];unfold jP;rw[sL (by omega),IntWalk.wrap64_in _ (by omega)]
def mO(n:Nat):Nat:=if n=0 then 0 else n.log2+1
theorem rA{n:Nat}(h:0<n):mO n=mO (n / 2)+1:=by
 unfold mO;rw[sL (by omega)]
 by_cases h2:n / 2=0
 ·have:n=1:=by omega
  subst this;rfl
 ·rw[sL h2,Nat.log2_def,FN (by omega)]
theorem WJ:mO 0=0:=rfl
theorem xV: ∀ {k n : Nat}, n < 2 ^ k → mO n ≤ k
  | 0, n, h => by have : n = 0 := by omega
                  subst this; simp [mO]
  | k + 1, n, h => by
    rcases Nat.eq_zero_or_pos n with h0 | h0
    · subst h0; simp [mO]
    · rw [rA h0]
      have := xV (k := k) (n := n / 2) (by rw [Nat.pow_succ] at h; omega)
      omega
theorem GU:∀ (k n:Nat),mO n<=k->n<2 ^ k
 | 0,n,h=>by
  rcases aHB n with d|d
  ·subst d;decide
  ·rw[rA d]at h;omega
 | k+1,n,h=>by
  rcases aHB n with d|d
  ·subst d;exact aH8 _
  ·rw[rA d]at h;have:=GU k (n / 2) (by omega);rw[Nat.pow_succ];omega
theorem WI{a b:Nat}(h:a<=b):mO a<=mO b:=xV (aI5 h (GU _ b (LE _)))
def mQ(v:Int):Nat:=if v<0 then (-v-1).toNat else v.toNat
def cG(v:Int):Nat:=if v=0 then 0 else 1+mO (mQ v)
theorem kY{v:Int}{k:Nat}(h1:-(2 ^ k:Nat)<=v)(h2:v<(2 ^ k:Nat)):cG v<=k+1:=by
 unfold cG;split
 ·omega
 ·have:mO (mQ v)<=k:=xV (by unfold mQ;split <;> omega);omega
theorem qS{v:Int}{k:Nat}(h:cG v<=k+1):-(2 ^ k:Nat)<=v/\v<(2 ^ k:Nat):=by
 unfold cG at h;have d:0<2 ^ k:=aH8 k;split at h
 ·omega
 ·have:=GU k (mQ v) (by omega);unfold mQ at this;split at this <;> omega
theorem VN{a b:Int}(ha:0<=a)(h:a<=b):cG a<=cG b:=by
 unfold cG;split
 ·omega
 ·rw[sL (by omega)];have:mO (mQ a)<=mO (mQ b):=WI (by unfold mQ;rw[sL (by omega),sL (by omega)];omega);omega
def jI(v:Int)(p:Nat):Int :=
 if p=0 then v else
 if 2 ^ (p-1)<=v.tmod (2 ^ p) then v.tdiv (2 ^ p)+1 else if v.tmod (2 ^ p)<=-2 ^ (p-1) then v.tdiv (2 ^ p)-1 else v.tdiv (2 ^ p)
def dF(l:List Int):Int:=l.foldl (fun p v=>max p (eS v)) 0
theorem YW(l:List Int)(x:Int):dF (l++[x])=max (dF l) (eS x):=by unfold dF;rw[aHt];rfl
theorem aEh{v:Int}:0<=eS v:=by unfold eS;(repeat' split) <;> omega
theorem UI(l:List Int):0<=dF l:=by
 unfold dF;have:∀ (l:List Int) (a:Int),0<=a->0<=l.foldl (fun p v=>max p (eS v)) a:=by
  intro l
  induction l with
  | nil=>intro a h;exact h
  | cons x r d=>intro a h;exact d (max a (eS x)) (by omega)
 exact this l 0 (by omega)
theorem IK{B:Int}(t:0<=B)(l:List Int)(h:∀ x∈l,eS x<=B):dF l<=B:=by
 unfold dF;have:∀ (l:List Int) (a:Int),a<=B->(∀ x∈l,eS x<=B)->l.foldl (fun p v=>max p (eS v)) a<=B:=by
  intro l
  induction l with
  | nil=>intro a h _;exact h
  | cons x r F=>intro a h d;exact F (max a (eS x)) (by have:=d x (by simp);omega) (fun y z=>d y (by simp[z]))
 exact this l 0 t h
theorem aDN(l:List Int):∀ x∈l,eS x<=dF l:=by
 unfold dF;have:∀ (l:List Int) (a:Int),a<=l.foldl (fun p v=>max p (eS v)) a/\∀ x∈l,eS x<=l.foldl (fun p v=>max p (eS v)) a:=by
  intro l
  induction l with
  | nil=>intro a;exact⟨aHd _,fun x h=>by simp at h⟩
  | cons x r t =>
   intro a;obtain⟨h1,h2⟩:=t (max a (eS x));refine⟨by rw[List.foldl_cons];omega,fun y d=>?_⟩;rw[List.foldl_cons];rcases aGw.1 d with rfl|d
   ·omega
   ·exact h2 y d
 exact (this l 0).2
theorem aAc{v B:Int}(d:-B<=v)(h1:v<=B)(h:B<=9223372036854775807):eS v<=B:=by unfold eS;(repeat' split) <;> omega
structure aF1 where
 p:Int
 u:Int
deriving DecidableEq
def bD(k:Nat):aF1:=⟨(2*(k:Int)+1)*512,((2*(k:Int)+1)*1048576+(1024+(2*(k:Int)+1)*(2*(k:Int)+1)) / 2) / (1024+(2*(k:Int)+1)*(2*(k:Int)+1))⟩
theorem DZ:bD 0=⟨512,1023⟩:=by decide +kernel
theorem D6:bD 1=⟨1536,3045⟩:=by decide +kernel
theorem D7:bD 2=⟨2560,4998⟩:=by decide +kernel
theorem EC:bD 3=⟨3584,6841⟩:=by decide +kernel
theorem ED:bD 4=⟨4608,8540⟩:=by decide +kernel
theorem EE:bD 5=⟨5632,10074⟩:=by decide +kernel
theorem EF:bD 6=⟨6656,11426⟩:=by decide +kernel
theorem EG:bD 7=⟨7680,12593⟩:=by decide +kernel
def aT(i r:Nat):aF1:=bD ((3*i+5*r) % 8)
def cE(c v:Int):Int:=jP (c*v) 14
def dQ(a b:Int)(t:aF1):Int:=a+cE t.p b+cE t.p (b-cE t.u (a+cE t.p b))
def eK(a b:Int)(t:aF1):Int:=b-cE t.u (a+cE t.p b)
def unA(a b:Int)(t:aF1):Int:=a-cE t.p b-cE t.p (b+cE t.u (a-cE t.p b))
def unB(a b:Int)(t:aF1):Int:=b+cE t.u (a-cE t.p b)
theorem uB(a b:Int)(t:aF1):unA (dQ a b t) (eK a b t) t=a/\unB (dQ a b t) (eK a b t) t=b:=by
 have h1:dQ a b t-cE t.p (eK a b t)=a+cE t.p b:=by unfold dQ eK;omega
 have h2:unB (dQ a b t) (eK a b t) t=b:=by unfold unB;rw[h1];unfold eK;omega
 refine⟨?_,h2⟩;have d:unA (dQ a b t) (eK a b t) t=dQ a b t-cE t.p (eK a b t)-cE t.p (unB (dQ a b t) (eK a b t) t):=rfl;rw[d,h1,h2];omega
theorem mE(c v:Int):-8192<=16384*cE c v-c*v/\16384*cE c v-c*v<=8192:=by
 unfold cE jP;rw[sL (by omega)];have d:(2:Int) ^ 14=16384:=by decide
 have h:(2:Int) ^ (14-1)=8192:=by decide
 rw[d,h];omega
theorem EH(k:Nat)(hk:k<8)(a b M:Int)(h1:-M<=a)(h2:a<=M)(h:-M<=b)(t:b<=M):
  (-(3*M+8)<=2*dQ a b (bD k)/\2*dQ a b (bD k)<=3*M+8)/\(-(3*M+8)<=2*eK a b (bD k)/\2*eK a b (bD k)<=3*M+8):=by
 have x:=mE (bD k).p b;have y:=mE (bD k).u (a+cE (bD k).p b);have z:=mE (bD k).p (b-cE (bD k).u (a+cE (bD k).p b));unfold dQ eK;generalize cE (bD k).p (b-cE (bD k).u (a+cE (bD k).p b))=Z at *
 generalize cE (bD k).u (a+cE (bD k).p b)=Y at *
 generalize cE (bD k).p b=X at *
 have d:k=0\/k=1\/k=2\/k=3\/k=4\/k=5\/k=6\/k=7:=by omega
 rcases d with rfl|rfl|rfl|rfl|rfl|rfl|rfl|rfl
 ·rw[DZ]at x y z;simp only at x y z;omega
 ·rw[D6]at x y z;simp only at x y z;omega
 ·rw[D7]at x y z;simp only at x y z;omega
 ·rw[EC]at x y z;simp only at x y z;omega
 ·rw[ED]at x y z;simp only at x y z;omega
 ·rw[EE]at x y z;simp only at x y z;omega
 ·rw[EF]at x y z;simp only at x y z;omega
 ·rw[EG]at x y z;simp only at x y z;omega
theorem uA(k:Nat)(hk:k<8)(a b M:Int)(h1:-M<=a)(h2:a<=M)(h:-M<=b)(t:b<=M):
  (-(3*M+8)<=2*unA a b (bD k)/\2*unA a b (bD k)<=3*M+8)/\(-(3*M+8)<=2*unB a b (bD k)/\2*unB a b (bD k)<=3*M+8):=by
 have x:=mE (bD k).p b;have y:=mE (bD k).u (a-cE (bD k).p b);have z:=mE (bD k).p (b+cE (bD k).u (a-cE (bD k).p b));unfold unA unB;generalize cE (bD k).p (b+cE (bD k).u (a-cE (bD k).p b))=Z at *
 generalize cE (bD k).u (a-cE (bD k).p b)=Y at *
 generalize cE (bD k).p b=X at *
 have d:k=0\/k=1\/k=2\/k=3\/k=4\/k=5\/k=6\/k=7:=by omega
 rcases d with rfl|rfl|rfl|rfl|rfl|rfl|rfl|rfl
 ·rw[DZ]at x y z;simp only at x y z;omega
 ·rw[D6]at x y z;simp only at x y z;omega
 ·rw[D7]at x y z;simp only at x y z;omega
 ·rw[EC]at x y z;simp only at x y z;omega
 ·rw[ED]at x y z;simp only at x y z;omega
 ·rw[EE]at x y z;simp only at x y z;omega
 ·rw[EF]at x y z;simp only at x y z;omega
 ·rw[EG]at x y z;simp only at x y z;omega
theorem gC{α:Type}(p:α->Bool){l:List α}{k:Nat}{x:α}(h:l[k]? = some x):(l.take (k+1)).all p=((l.take k).all p&&p x):=by
 obtain⟨hk,rfl⟩:=aGi.1 h;rw[aHG hk,List.all_append];simp
theorem jR{α:Type}(p:α->Bool){l:List α}{k:Nat}{x:α}(h:l[k]? = some x)(d:p x=false):l.all p=false:=by
 rw[aJJ];exact⟨x,aGh h,by simp[d]⟩
theorem gY{α:Type}(p:α->Bool){l:List α}{k:Nat}(hk:l.length<=k)(h:(l.take k).all p=true):l.all p=true:=by
 rwa [aGW hk]at h
def JK(v i:Nat):Nat:=v / 2 ^ i % 2
def cR(v k:Nat):List Nat:=(List.range k).map fun j=>JK v (k-1-j)
def Bin(l:List Nat):Prop:=∀ b∈l,b<=1
def AZ(l:List Nat):Nat:=l.foldl (fun a b=>2*a+b) 0
def fR(L:List Nat)(j:Nat):Nat :=
 L.getD (8*j) 0*128+L.getD (8*j+1) 0*64+L.getD (8*j+2) 0*32+L.getD (8*j+3) 0*16+L.getD (8*j+4) 0*8+L.getD (8*j+5) 0*4+L.getD (8*j+6) 0*2+L.getD (8*j+7) 0
def jL(L:List Nat):List Nat:=(List.range ((L.length+7) / 8)).map (fR L)
def sD(B:List Nat)(i:Nat):Nat:=B.getD (i / 8) 0 / 2 ^ (7-i % 8) % 2
theorem aAh(v i:Nat):JK v i<=1:=by unfold JK;omega
theorem cJ(v k:Nat):(cR v k).length=k:=by simp[cR]
theorem jE(v k:Nat):Bin (cR v k):=by
 intro b hb;unfold cR at hb;obtain⟨j,_,rfl⟩:=aGq.1 hb;exact aAh _ _
theorem WK(v:Nat){k j:Nat}(h:j<k):(cR v k)[j]? = some (JK v (k-1-j)):=by
 unfold cR;rw[aF5,aHa h];rfl
theorem BF(v:Nat){k m:Nat}(h:m<k):(cR v k).take (m+1)=(cR v k).take m++[JK v (k-1-m)]:=by
 have h1:=WK v h;obtain⟨h2,d⟩:=aGi.1 h1;rw[aHG h2,d]
theorem Bin.append{a b:List Nat}(h1:Bin a)(h2:Bin b):Bin (a++b):=fun x d=>by
 rcases aGJ.1 d with h|h
 ·exact h1 x h
 ·exact h2 x h
theorem Bin.getD{a:List Nat}(h:Bin a)(i:Nat):a.getD i 0<=1:=by
 rw[aGz];rcases aGt i a.length with h1|h1
 ·rw[TT h1];exact h _ (aIj _)
 ·rw[aGr h1];decide
theorem iS(L:List Nat):(jL L).length=(L.length+7) / 8:=by simp[jL]
theorem qF(L:List Nat){j:Nat}(h:j<(L.length+7) / 8):(jL L)[j]? = some (fR L j):=by
 unfold jL;rw[aF5,aHa h];rfl
theorem KN{L:List Nat}(h:Bin L)(j:Nat):fR L j<256:=by
 have d:=h.getD (8*j);have h1:=h.getD (8*j+1);have h2:=h.getD (8*j+2);have t:=h.getD (8*j+3);have z:=h.getD (8*j+4);have F:=h.getD (8*j+5);have G:=h.getD (8*j+6);have I:=h.getD (8*j+7);unfold fR;omega
theorem aBn(L:List Nat)(b i:Nat):(L++[b]).getD i 0=if i=L.length then b else L.getD i 0:=by
 rw[aGz,aGz];rcases aJu i L.length with h|h|h
 ·rw[sL (by omega),aGU h]
 ·subst h;rw[FN rfl,aGP (LE _)];simp
 ·rw[sL (by omega),aGP (by omega),aGr (by simp;omega),aGr (by omega)]
theorem cD{L:List Nat}{i:Nat}(h:L.length<=i):L.getD i 0=0:=by
 rw[aGz,aGr h];rfl
theorem BH(L:List Nat)(b j:Nat):fR (L++[b]) j=if L.length / 8=j then fR L j+b*2 ^ (7-L.length % 8) else fR L j:=by
 have V:L.length<=8*j->L.getD (8*j) 0=0:=fun h=>cD h
 have W:L.length<=8*j+1->L.getD (8*j+1) 0=0:=fun h=>cD h
 have Z:L.length<=8*j+2->L.getD (8*j+2) 0=0:=fun h=>cD h
 have z3:L.length<=8*j+3->L.getD (8*j+3) 0=0:=fun h=>cD h
 have z4:L.length<=8*j+4->L.getD (8*j+4) 0=0:=fun h=>cD h
 have z5:L.length<=8*j+5->L.getD (8*j+5) 0=0:=fun h=>cD h
 have z6:L.length<=8*j+6->L.getD (8*j+6) 0=0:=fun h=>cD h
 have z7:L.length<=8*j+7->L.getD (8*j+7) 0=0:=fun h=>cD h
 unfold fR;simp only[aBn];generalize L.getD (8*j) 0=d at *
 generalize L.getD (8*j+1) 0=z at *
 generalize L.getD (8*j+2) 0=F at *
 generalize L.getD (8*j+3) 0=G at *
 generalize L.getD (8*j+4) 0=I at *
 generalize L.getD (8*j+5) 0=J at *
 generalize L.getD (8*j+6) 0=O at *
 generalize L.getD (8*j+7) 0=U at *
 generalize L.length=n at *
 by_cases h:n / 8=j
 ·rw[FN h];obtain⟨t,ht,e⟩:∃ t,t<8/\n=8*j+t:=⟨n % 8,by omega,by omega⟩;subst e;clear h;rw[show (8*j+t) % 8=t by omega]
  match t,ht with
  | 0,_|1,_|2,_|3,_|4,_|5,_|6,_|7,_ =>
   simp only[Nat.reduceSub,Nat.reducePow,aHW]
   (repeat (first|rw[FN (by omega)]|rw[sL (by omega)]))
   (try omega)
 ·rw[sL h,sL (by omega),sL (by omega),sL (by omega),sL (by omega),sL (by omega),sL (by omega),sL (by omega),sL (by omega)]
def nA(L:List Nat):List Nat:=jL L++if L.length % 8=0 then [0] else []
theorem AR(L:List Nat):(nA L).length=L.length / 8+1:=by
 unfold nA;rw[aGG,iS];split <;> simp <;> omega
theorem WM{L:List Nat}(h:L.length % 8=0):fR L (L.length / 8)=0:=by
 unfold fR;rw[cD,cD,cD,cD,cD,cD,cD,cD] <;> omega
theorem aBU(L:List Nat):(nA L)[L.length / 8]? = some (fR L (L.length / 8)):=by
 unfold nA
 by_cases h:L.length % 8=0
 ·rw[FN h,aGP (by rw[iS];omega),iS,WM h,show L.length / 8-(L.length+7) / 8=0 by omega]
  rfl
 ·rw[sL h,aIh];exact qF L (by omega)
theorem YS(L:List Nat)(b:Nat):jL (L++[b])=(nA L).set (L.length / 8) (fR L (L.length / 8)+b*2 ^ (7-L.length % 8)):=by
 apply aGL;intro j;rw[aHu,AR]
 by_cases d:L.length / 8=j
 ·rw[FN d,FN (by omega),qF _ (by simp;omega),BH,FN d,d]
 ·rw[sL d];rcases aGt j (L.length / 8) with h|h
  ·rw[qF _ (by simp;omega),BH,sL d];unfold nA;rw[aGU (by rw[iS];omega),qF _ (by omega)]
  ·rw[aGr (by rw[iS];simp;omega),aGr (by rw[AR];omega)]
theorem WN(L:List Nat):fR L (L.length / 8) % 2 ^ (8-L.length % 8)=0:=by
 obtain⟨j,t,ht,e⟩:∃ j t,t<8/\L.length=8*j+t:=⟨L.length / 8,L.length % 8,by omega,by omega⟩;have d:∀ i,8*j+t<=i->L.getD i 0=0:=fun i h=>cD (by omega)
 rw[e,show (8*j+t) / 8=j by omega,show (8*j+t) % 8=t by omega];unfold fR
 match t,ht with
 | 0,_|1,_|2,_|3,_|4,_|5,_|6,_|7,_ =>
  repeat (first|rw[d (8*j) (by omega)]|rw[d (8*j+1) (by omega)]|rw[d (8*j+2) (by omega)]|rw[d (8*j+3) (by omega)]|rw[d (8*j+4) (by omega)]|rw[d (8*j+5) (by omega)]|rw[d (8*j+6) (by omega)]|rw[d (8*j+7) (by omega)])
  try simp only[Nat.reduceSub,Nat.reducePow]
  try omega
theorem aDL{x s b:Nat}(h:x % 2 ^ (s+1)=0)(hb:b<=1):x ||| b*2 ^ s=x+b*2 ^ s:=by
 have e:=aI3 x (2 ^ (s+1));rw[h,Nat.add_zero]at e;rw[<-e];refine (aKb ?_ _).symm;rw[Nat.pow_succ];have:0<2 ^ s:=aH8 s;rcases aHB b with d|d
 ·subst d;omega
 ·have:b=1:=by omega
  subst this;omega
theorem WH{L:List Nat}(h:Bin L)(z i:Nat):sD (jL L++List.replicate z 0) i=L.getD i 0:=by
 unfold sD;rw[aGz];rcases aGt (i / 8) ((L.length+7) / 8) with h1|h1
 ·rw[aGU (by rw[iS];exact h1),qF L h1];obtain⟨j,t,ht,e⟩:∃ j t,t<8/\i=8*j+t:=⟨i / 8,i % 8,by omega,by omega⟩;subst e;rw[show (8*j+t) / 8=j by omega,show (8*j+t) % 8=t by omega];have d:=h.getD (8*j);have h1:=h.getD (8*j+1);have h2:=h.getD (8*j+2);have F:=h.getD (8*j+3);have G:=h.getD (8*j+4);have I:=h.getD (8*j+5);have J:=h.getD (8*j+6);have O:=h.getD (8*j+7);simp only[Option.getD_some];unfold fR
  match t,ht with
  | 0,_|1,_|2,_|3,_|4,_|5,_|6,_|7,_ =>
   simp only[Nat.reduceSub,Nat.reducePow,Nat.add_zero];omega
 ·rw[cD (L:=L) (i:=i) (by omega),aGP (by rw[iS];exact h1),aHE];split <;> simp
theorem A8(l:List Nat)(b:Nat):AZ (l++[b])=2*AZ l+b:=by unfold AZ;rw[aHt];rfl
theorem PN:∀ (n:Nat) (l:List Nat),l.length=n->Bin l->AZ l<2 ^ n
 | 0,l,h,_=>by
  have:l=[]:=aIi h;subst this;decide
 | n+1,l,h,hb=>by
  have d:l≠[]:=by intro e;subst e;simp at h
  have e:=(List.dropLast_concat_getLast d).symm;have h1:=PN n l.dropLast (by simp[h]) (fun x t=>hb x (List.dropLast_subset l t));have h2:=hb _ (List.getLast_mem d);rw[e,A8,Nat.pow_succ];omega
theorem VI(v:Nat){k:Nat}(d:v<2 ^ k):∀ m,m<=k->AZ ((cR v k).take m)=v / 2 ^ (k-m)
 | 0,_=>by rw[Nat.sub_zero,aI4 d];rfl
 | m+1,h=>by
  rw[BF v (by omega),A8,VI v d m (by omega)];unfold JK;have e:k-m=(k-1-m)+1:=by omega
  rw[e,Nat.pow_succ,<-Nat.div_div_eq_div_mul,show k-(m+1)=k-1-m by omega];omega
theorem ZT(v:Nat){k:Nat}(d:v<2 ^ k):AZ (cR v k)=v:=by
 have:=VI v d k (LE _);rw[aGW (by rw[cJ];exact LE _),aJv,Nat.pow_zero,Nat.div_one]at this;exact this
end Go.Proofs.YtbpgfkjhclpbdaaGreatDoor
