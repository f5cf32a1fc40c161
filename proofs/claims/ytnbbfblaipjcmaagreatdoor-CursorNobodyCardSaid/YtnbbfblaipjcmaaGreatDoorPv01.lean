/- Base, NumA, NumP, LiftP, Lists, BitsP. Conditions: as each theorem states. -/
import Derived.Test.YtnbbfblaipjcmaaGreatDoorProg
import Derived.WalkKit
import Derived.ProofKit
import Derived.OpenShut
import Derived.Lib.Hide
import Derived.Deep.QuietTactic
import Derived.BigQuiet
import Derived.WalkSmall
import Derived.Deep.DeepCutAuto
import Derived.Deep.RegionHeld3
set_option maxRecDepth 100000
namespace Go.Proofs.YtnbbfblaipjcmaaGreatDoor
section
open Go.RowKit
theorem dI {a b:Bool} (h:a=b):Ending.returned (.bool a)=.returned (.bool b):=by rw [h]
theorem jB {k:IntKind} {a b:Int} (h:a=b):Value.int k a=.int k b:=by rw [h]
theorem cE {k:IntKind} {a b:Int} (h:a=b):Ending.returned (.int k a)=.returned (.int k b):=by rw [h]
theorem aC {a b c:World} (h:Below a.heap.size a b) (k:Below b.heap.size b c):Below a.heap.size a c:=h.trans (k.mono h.size)
theorem aL (w:World) (o:Obj):Below w.heap.size w (w.alloc o):=(Below.refl _ _).alloc (Nat.le_refl _) _
theorem NN {s:ByteArray} (h:s.size=0):s=ByteArray.empty:=by
 apply ByteArray.ext; apply Array.eq_empty_of_size_eq_zero; simpa using h
theorem CY {s:ByteArray} (h:s.size ≠ 0):s.toList.isEmpty=false:=by
 rw [List.isEmpty_eq_false_iff]
 intro e
 rw [ByteArray.toList_eq] at e
 have h1:s.data.toList.length=0:=by rw [e]; rfl
 rw [Array.length_toList] at h1
 exact h h1
end
section
open Go.RowKit
def rP (v lo hi:Int):Int:=if v < lo\/hi < lo then lo else if hi < v then hi else v
def VO (v:Int):Int:=rP v (-32768) 32767
def lP (v:Int) (p:Nat):Int:=if p=0 then v else v / 2 ^ p+v / 2 ^ (p - 1) % 2
def eA (v:Int):Int:=if v = -9223372036854775808 then 9223372036854775807 else if v < 0 then -v else v
theorem aBx (n m : Int) (i : Nat) (hm : m = 2 ^ i - 1) (hi : i ≤ 62) : bits .and .i64 n m = n % 2 ^ i := by
  subst hm
  have h1 : (2 : Int) ^ i - 1 = ((2 ^ i - 1 : Nat) : Int) := by
    have := Nat.two_pow_pos i
    rw [Int.natCast_sub (by omega)]; simp
  have hlt : 2 ^ i ≤ 2 ^ 62 := Nat.pow_le_pow_right (by decide) hi
  have hm' : (BitVec.ofInt 64 ((2 : Int) ^ i - 1)).toNat = 2 ^ i - 1 := by
    rw [h1, BitVec.ofInt_natCast, BitVec.toNat_ofNat]
    exact Nat.mod_eq_of_lt (by have : 2 ^ 62 < 2 ^ 64 := by decide
                               omega)
  have key : (BitVec.ofInt 64 n &&& BitVec.ofInt 64 ((2 : Int) ^ i - 1)).toNat = (n % ((2 ^ 64 : Nat) : Int)).toNat % 2 ^ i := by
    rw [BitVec.toNat_and, BitVec.toNat_ofInt, hm', Nat.and_two_pow_sub_one_eq_mod]
  show IntKind.i64.wrap ((BitVec.ofInt 64 n &&& BitVec.ofInt 64 ((2 : Int) ^ i - 1)).toNat : Nat) = n % 2 ^ i
  rw [key, IntKind.wrap_i64]
  have h64 : (((n % ((2 ^ 64 : Nat) : Int)).toNat % 2 ^ i : Nat) : Int) = n % 2 ^ i := by
    rw [Int.natCast_emod, Int.toNat_of_nonneg (Int.emod_nonneg _ (by decide))]
    have hd : ((2 : Int) ^ i) ∣ ((2 ^ 64 : Nat) : Int) := by
      rw [Int.natCast_pow]
      exact ⟨2 ^ (64 - i), by rw [← Int.pow_add]; congr 1; omega⟩
    rw [Int.natCast_pow]
    exact Int.emod_emod_of_dvd _ hd
  rw [h64]
  have hb0 := Int.emod_nonneg n (b := (2 : Int) ^ i) (by have := Int.pow_pos (n := 2) (m := i) (by decide); omega)
  have hb1 := Int.emod_lt_of_pos n (b := (2 : Int) ^ i) (Int.pow_pos (by decide))
  have hb2 : (2 : Int) ^ i ≤ ((2 ^ 62 : Nat) : Int) := by rw [show (2 : Int) ^ i = ((2 ^ i : Nat) : Int) by rw [Int.natCast_pow]; rfl]; exact Int.ofNat_le.2 hlt
  have hb3 : ((2 ^ 62 : Nat) : Int) = 4611686018427387904 := by decide
  omega
theorem aBw (n:Int):bits .and .i64 n 1=n % 2:=aBx n 1 1 (by decide) (by decide)
theorem RR (p:Nat):(0:Int) < 2 ^ p:=Int.pow_pos (by decide)
theorem aCW (v:Int) (p:Nat) (hp:1<=p) (h1:-9223372036854775808<=v) (h2:v<=9223372036854775807):-4611686018427387904<=v / 2 ^ p/\v / 2 ^ p<=4611686018427387903:=by
 obtain ⟨k,rfl⟩:∃ k,p=k+1:=⟨p - 1,by omega⟩
 have hk:=RR k
 have e:(2:Int) ^ (k+1)=2*2 ^ k:=by rw [Int.pow_succ]; omega
 rw [e,<-Int.ediv_ediv_of_nonneg (by decide)]
 generalize hx:v / 2=x
 have hx1:-4611686018427387904<=x/\x<=4611686018427387903:=by omega
 constructor
 ·have h3:=Int.ediv_le_ediv hk hx1.1
  have h4:(-4611686018427387904:Int)<=-4611686018427387904 / 2 ^ k:=by
   rw [Int.le_ediv_iff_mul_le hk]
   have:(-4611686018427387904:Int)*2 ^ k<=-4611686018427387904*1:=Int.mul_le_mul_of_nonpos_left (by omega) (by omega)
   omega
  omega
 ·rcases Int.lt_or_le x 0 with h0 | h0
  ·have:=Int.ediv_neg_of_neg_of_pos h0 hk; omega
  ·have:=Int.ediv_le_self (2 ^ k) h0; omega
theorem xH (v lo hi:Int) (w:World) :
  Calls Tryz.prog 152 #[.int .i64 v,.int .i64 lo,.int .i64 hi] w fun e w'=>e=.returned (.int .i64 (rP v lo hi))/\w=w':=by
 go_enter Tryz.func152,Tryz.ntmps152
 go_wp2
 all_goals
  go_ret
  exact ⟨cE (by unfold rP; (repeat' split) <;> omega),rfl⟩
theorem aCv (v:Int) (w:World) :
  Calls Tryz.prog 111 #[.int .i64 v] w fun e w'=>e=.returned (.int .i64 (VO v))/\w=w':=by
 go_enter Tryz.func111,Tryz.ntmps111
 go_wp2_with (go_at_call 152; refine (xH _ _ _ _).mono ?_; rintro e w' ⟨rfl,rfl⟩)
 go_ret
 exact ⟨rfl,rfl⟩
theorem vL (v:Int) (w:World) (h1:-9223372036854775808<=v) (h2:v<=9223372036854775807) :
  Calls Tryz.prog 260 #[.int .i64 v] w fun e w'=>e=.returned (.int .i64 (eA v))/\w=w':=by
 by_cases h:v = -9223372036854775808
 ·have hb:(v == -9223372036854775808)=true:=beq_iff_eq.2 h
  have H:=Lib.hid h; clear h
  go_enter Tryz.func260,Tryz.ntmps260
  go_wp2
  go_ret
  exact ⟨cE (by unfold eA; rw [if_pos H.out]),rfl⟩
 ·have hb:(v == -9223372036854775808)=false:=beq_eq_false_iff_ne.2 h
  have H:=Lib.hid h; clear h
  have h1':-9223372036854775807<=v:=by have:=H.out; omega
  clear h1
  go_enter Tryz.func260,Tryz.ntmps260
  go_wp2
  all_goals
   go_ret
   exact ⟨cE (by unfold eA; rw [if_neg H.out]; split <;> omega),rfl⟩
theorem II (v p:Int) (w:World) (h1:-9223372036854775808<=v) (h2:v<=9223372036854775807) (hp:0<=p) (hp2:p<=62) :
  Calls Tryz.prog 155 #[.int .i64 v,.int .i64 p] w fun e w'=>e=.returned (.int .i64 (lP v p.toNat))/\∃ n,w'=w.drewN n:=by
 by_cases h:p=0
 ·subst h
  go_enter Tryz.func155,Tryz.ntmps155
  go_wp2
  go_ret
  exact ⟨cE (by simp [lP]),0,rfl⟩
 ·have hb:(p == (0:Int))=false:=beq_eq_false_iff_ne.2 h
  have h3:1<=p:=by omega
  clear h hp
  go_enter Tryz.func155,Tryz.ntmps155
  go_wp2
  go_quiet (fail)
  go_wp2
  go_ret
  have hq:=aCW v p.toNat (by omega) h1 h2
  refine ⟨cE ?_,_,rfl⟩
  rw [aBw]
  unfold lP
  rw [if_neg (by omega),IntWalk.wrap64_in _ (by omega)]
end
section
def lV (n:Nat):Nat:=if n=0 then 0 else n.log2+1
theorem pV {n:Nat} (h:0 < n):lV n=lV (n / 2)+1:=by
 unfold lV
 rw [if_neg (by omega)]
 by_cases h2:n / 2=0
 ·have:n=1:=by omega
  subst this; rfl
 ·rw [if_neg h2,Nat.log2_def,if_pos (by omega)]
theorem TC:lV 0=0:=rfl
theorem vT : ∀ {k n : Nat}, n < 2 ^ k → lV n ≤ k
  | 0, n, h => by have : n = 0 := by omega
                  subst this; simp [lV]
  | k + 1, n, h => by
    rcases Nat.eq_zero_or_pos n with h0 | h0
    · subst h0; simp [lV]
    · rw [pV h0]
      have := vT (k := k) (n := n / 2) (by rw [Nat.pow_succ] at h; omega)
      omega
theorem EG:∀ (k n:Nat),lV n<=k->n < 2 ^ k
 | 0,n,h=>by
  rcases Nat.eq_zero_or_pos n with h0 | h0
  ·subst h0; decide
  ·rw [pV h0] at h; omega
 | k+1,n,h=>by
  rcases Nat.eq_zero_or_pos n with h0 | h0
  ·subst h0; exact Nat.two_pow_pos _
  ·rw [pV h0] at h
   have:=EG k (n / 2) (by omega)
   rw [Nat.pow_succ]; omega
theorem TA {a b:Nat} (h:a<=b):lV a<=lV b:=vT (Nat.lt_of_le_of_lt h (EG _ b (Nat.le_refl _)))
def lX (v:Int):Nat:=if v < 0 then (-v - 1).toNat else v.toNat
def cB (v:Int):Nat:=if v=0 then 0 else 1+lV (lX v)
theorem j8 {v:Int} {k:Nat} (h1:-(2 ^ k:Nat)<=v) (h2:v < (2 ^ k:Nat)):cB v<=k+1:=by
 unfold cB
 split
 ·omega
 ·have:lV (lX v)<=k:=vT (by unfold lX; split <;> omega)
  omega
theorem pO {v:Int} {k:Nat} (h:cB v<=k+1):-(2 ^ k:Nat)<=v/\v < (2 ^ k:Nat):=by
 unfold cB at h
 have hp:0 < 2 ^ k:=Nat.two_pow_pos k
 split at h
 ·omega
 ·have:=EG k (lX v) (by omega)
  unfold lX at this
  split at this <;> omega
theorem RZ {a b:Int} (ha:0<=a) (h:a<=b):cB a<=cB b:=by
 unfold cB
 split
 ·omega
 ·rw [if_neg (by omega)]
  have:lV (lX a)<=lV (lX b):=TA (by unfold lX; rw [if_neg (by omega),if_neg (by omega)]; omega)
  omega
def iJ (v:Int) (p:Nat):Int :=
 if p=0 then v else
 if 2 ^ (p - 1)<=v.tmod (2 ^ p) then v.tdiv (2 ^ p)+1 else if v.tmod (2 ^ p)<=-2 ^ (p - 1) then v.tdiv (2 ^ p) - 1 else v.tdiv (2 ^ p)
def cW (l:List Int):Int:=l.foldl (fun p v=>max p (eA v)) 0
theorem VJ (l:List Int) (x:Int):cW (l ++ [x])=max (cW l) (eA x):=by unfold cW; rw [List.foldl_append]; rfl
theorem aCx {v:Int}:0<=eA v:=by unfold eA; (repeat' split) <;> omega
theorem QO (l:List Int):0<=cW l:=by
 unfold cW
 have:∀ (l:List Int) (a:Int),0<=a->0<=l.foldl (fun p v=>max p (eA v)) a:=by
  intro l
  induction l with
  | nil=>intro a h; exact h
  | cons x r ih=>intro a h; exact ih (max a (eA x)) (by omega)
 exact this l 0 (by omega)
theorem EZ {B:Int} (hB:0<=B) (l:List Int) (h:∀ x ∈ l,eA x<=B):cW l<=B:=by
 unfold cW
 have:∀ (l:List Int) (a:Int),a<=B->(∀ x ∈ l,eA x<=B)->l.foldl (fun p v=>max p (eA v)) a<=B:=by
  intro l
  induction l with
  | nil=>intro a h _; exact h
  | cons x r ih=>intro a h hx; exact ih (max a (eA x)) (by have:=hx x (by simp); omega) (fun y hy=>hx y (by simp [hy]))
 exact this l 0 hB h
theorem aB2 (l:List Int):∀ x ∈ l,eA x<=cW l:=by
 unfold cW
 have:∀ (l:List Int) (a:Int),a<=l.foldl (fun p v=>max p (eA v)) a/\∀ x ∈ l,eA x<=l.foldl (fun p v=>max p (eA v)) a:=by
  intro l
  induction l with
  | nil=>intro a; exact ⟨Int.le_refl _,fun x h=>by simp at h⟩
  | cons x r ih =>
   intro a
   obtain ⟨h1,h2⟩:=ih (max a (eA x))
   refine ⟨by rw [List.foldl_cons]; omega,fun y hy=>?_⟩
   rw [List.foldl_cons]
   rcases List.mem_cons.1 hy with rfl | hy
   ·omega
   ·exact h2 y hy
 exact (this l 0).2
theorem WQ {v B:Int} (h0:-B<=v) (h1:v<=B) (hB:B<=9223372036854775807):eA v<=B:=by unfold eA; (repeat' split) <;> omega
end
section
structure TurnV where
 p:Int
 u:Int
deriving DecidableEq
def bE (k:Nat):TurnV:=⟨(2*(k:Int)+1)*512,((2*(k:Int)+1)*1048576+(1024+(2*(k:Int)+1)*(2*(k:Int)+1)) / 2) / (1024+(2*(k:Int)+1)*(2*(k:Int)+1))⟩
theorem BN:bE 0=⟨512,1023⟩:=by decide +kernel
theorem BO:bE 1=⟨1536,3045⟩:=by decide +kernel
theorem BP:bE 2=⟨2560,4998⟩:=by decide +kernel
theorem BQ:bE 3=⟨3584,6841⟩:=by decide +kernel
theorem BR:bE 4=⟨4608,8540⟩:=by decide +kernel
theorem BS:bE 5=⟨5632,10074⟩:=by decide +kernel
theorem BT:bE 6=⟨6656,11426⟩:=by decide +kernel
theorem BU:bE 7=⟨7680,12593⟩:=by decide +kernel
def aQ (i r:Nat):TurnV:=bE ((3*i+5*r) % 8)
def b8 (c v:Int):Int:=lP (c*v) 14
def dG (a b:Int) (t:TurnV):Int:=a+b8 t.p b+b8 t.p (b - b8 t.u (a+b8 t.p b))
def dU (a b:Int) (t:TurnV):Int:=b - b8 t.u (a+b8 t.p b)
def unA (a b:Int) (t:TurnV):Int:=a - b8 t.p b - b8 t.p (b+b8 t.u (a - b8 t.p b))
def unB (a b:Int) (t:TurnV):Int:=b+b8 t.u (a - b8 t.p b)
theorem sI (a b:Int) (t:TurnV):unA (dG a b t) (dU a b t) t=a/\unB (dG a b t) (dU a b t) t=b:=by
 have h1:dG a b t - b8 t.p (dU a b t)=a+b8 t.p b:=by unfold dG dU; omega
 have h2:unB (dG a b t) (dU a b t) t=b:=by unfold unB; rw [h1]; unfold dU; omega
 refine ⟨?_,h2⟩
 have h3:unA (dG a b t) (dU a b t) t=dG a b t - b8 t.p (dU a b t) - b8 t.p (unB (dG a b t) (dU a b t) t):=rfl
 rw [h3,h1,h2]; omega
theorem lM (c v:Int):-8192<=16384*b8 c v - c*v/\16384*b8 c v - c*v<=8192:=by
 unfold b8 lP
 rw [if_neg (by omega)]
 have e1:(2:Int) ^ 14=16384:=by decide
 have e2:(2:Int) ^ (14 - 1)=8192:=by decide
 rw [e1,e2]
 omega
theorem BV (k:Nat) (hk:k < 8) (a b M:Int) (h1:-M<=a) (h2:a<=M) (h3:-M<=b) (h4:b<=M) :
  (-(3*M+8)<=2*dG a b (bE k)/\2*dG a b (bE k)<=3*M+8)/\(-(3*M+8)<=2*dU a b (bE k)/\2*dU a b (bE k)<=3*M+8):=by
 have x:=lM (bE k).p b
 have y:=lM (bE k).u (a+b8 (bE k).p b)
 have z:=lM (bE k).p (b - b8 (bE k).u (a+b8 (bE k).p b))
 unfold dG dU
 generalize b8 (bE k).p (b - b8 (bE k).u (a+b8 (bE k).p b))=Z at *
 generalize b8 (bE k).u (a+b8 (bE k).p b)=Y at *
 generalize b8 (bE k).p b=X at *
 have hk8:k=0\/k=1\/k=2\/k=3\/k=4\/k=5\/k=6\/k=7:=by omega
 rcases hk8 with rfl | rfl | rfl | rfl | rfl | rfl | rfl | rfl
 ·rw [BN] at x y z; simp only at x y z; omega
 ·rw [BO] at x y z; simp only at x y z; omega
 ·rw [BP] at x y z; simp only at x y z; omega
 ·rw [BQ] at x y z; simp only at x y z; omega
 ·rw [BR] at x y z; simp only at x y z; omega
 ·rw [BS] at x y z; simp only at x y z; omega
 ·rw [BT] at x y z; simp only at x y z; omega
 ·rw [BU] at x y z; simp only at x y z; omega
theorem vR (k:Nat) (hk:k < 8) (a b M:Int) (h1:-M<=a) (h2:a<=M) (h3:-M<=b) (h4:b<=M) :
  (-(3*M+8)<=2*unA a b (bE k)/\2*unA a b (bE k)<=3*M+8)/\(-(3*M+8)<=2*unB a b (bE k)/\2*unB a b (bE k)<=3*M+8):=by
 have x:=lM (bE k).p b
 have y:=lM (bE k).u (a - b8 (bE k).p b)
 have z:=lM (bE k).p (b+b8 (bE k).u (a - b8 (bE k).p b))
 unfold unA unB
 generalize b8 (bE k).p (b+b8 (bE k).u (a - b8 (bE k).p b))=Z at *
 generalize b8 (bE k).u (a - b8 (bE k).p b)=Y at *
 generalize b8 (bE k).p b=X at *
 have hk8:k=0\/k=1\/k=2\/k=3\/k=4\/k=5\/k=6\/k=7:=by omega
 rcases hk8 with rfl | rfl | rfl | rfl | rfl | rfl | rfl | rfl
 ·rw [BN] at x y z; simp only at x y z; omega
 ·rw [BO] at x y z; simp only at x y z; omega
 ·rw [BP] at x y z; simp only at x y z; omega
 ·rw [BQ] at x y z; simp only at x y z; omega
 ·rw [BR] at x y z; simp only at x y z; omega
 ·rw [BS] at x y z; simp only at x y z; omega
 ·rw [BT] at x y z; simp only at x y z; omega
 ·rw [BU] at x y z; simp only at x y z; omega
end
section
theorem fS {α:Type} (p:α->Bool) {l:List α} {k:Nat} {x:α} (h:l[k]? = some x):(l.take (k+1)).all p=((l.take k).all p && p x):=by
 obtain ⟨hk,rfl⟩:=List.getElem?_eq_some_iff.1 h
 rw [List.take_succ_eq_append_getElem hk,List.all_append]; simp
theorem iS {α:Type} (p:α->Bool) {l:List α} {k:Nat} {x:α} (h:l[k]? = some x) (hp:p x=false):l.all p=false:=by
 rw [List.all_eq_false]
 exact ⟨x,List.mem_of_getElem? h,by simp [hp]⟩
theorem gE {α:Type} (p:α->Bool) {l:List α} {k:Nat} (hk:l.length<=k) (h:(l.take k).all p=true):l.all p=true:=by
 rwa [List.take_of_length_le hk] at h
end
section
def GF (v i:Nat):Nat:=v / 2 ^ i % 2
def cI (v k:Nat):List Nat:=(List.range k).map fun j=>GF v (k - 1 - j)
def Bin (l:List Nat):Prop:=∀ b ∈ l,b<=1
def yS (l:List Nat):Nat:=l.foldl (fun a b=>2*a+b) 0
def fF (L:List Nat) (j:Nat):Nat :=
 L.getD (8*j) 0*128+L.getD (8*j+1) 0*64+L.getD (8*j+2) 0*32+L.getD (8*j+3) 0*16+L.getD (8*j+4) 0*8+L.getD (8*j+5) 0*4+L.getD (8*j+6) 0*2+L.getD (8*j+7) 0
def iM (L:List Nat):List Nat:=(List.range ((L.length+7) / 8)).map (fF L)
def qX (B:List Nat) (i:Nat):Nat:=B.getD (i / 8) 0 / 2 ^ (7 - i % 8) % 2
theorem WT (v i:Nat):GF v i<=1:=by unfold GF; omega
theorem cC (v k:Nat):(cI v k).length=k:=by simp [cI]
theorem iG (v k:Nat):Bin (cI v k):=by
 intro b hb
 unfold cI at hb
 obtain ⟨j,_,rfl⟩:=List.mem_map.1 hb
 exact WT _ _
theorem TD (v:Nat) {k j:Nat} (h:j < k):(cI v k)[j]? = some (GF v (k - 1 - j)):=by
 unfold cI
 rw [List.getElem?_map,List.getElem?_range h]; rfl
theorem yY (v:Nat) {k m:Nat} (h:m < k):(cI v k).take (m+1)=(cI v k).take m ++ [GF v (k - 1 - m)]:=by
 have h1:=TD v h
 obtain ⟨h2,h3⟩:=List.getElem?_eq_some_iff.1 h1
 rw [List.take_succ_eq_append_getElem h2,h3]
theorem Bin.append {a b:List Nat} (h1:Bin a) (h2:Bin b):Bin (a ++ b):=fun x hx=>by
 rcases List.mem_append.1 hx with h | h
 ·exact h1 x h
 ·exact h2 x h
theorem Bin.getD {a:List Nat} (h:Bin a) (i:Nat):a.getD i 0<=1:=by
 rw [List.getD_eq_getElem?_getD]
 rcases Nat.lt_or_ge i a.length with h1 | h1
 ·rw [List.getElem?_eq_getElem h1]; exact h _ (List.getElem_mem _)
 ·rw [List.getElem?_eq_none h1]; decide
theorem gW (L:List Nat):(iM L).length=(L.length+7) / 8:=by simp [iM]
theorem pC (L:List Nat) {j:Nat} (h:j < (L.length+7) / 8):(iM L)[j]? = some (fF L j):=by
 unfold iM
 rw [List.getElem?_map,List.getElem?_range h]; rfl
theorem IU {L:List Nat} (h:Bin L) (j:Nat):fF L j < 256:=by
 have h0:=h.getD (8*j)
 have h1:=h.getD (8*j+1)
 have h2:=h.getD (8*j+2)
 have h3:=h.getD (8*j+3)
 have h4:=h.getD (8*j+4)
 have h5:=h.getD (8*j+5)
 have h6:=h.getD (8*j+6)
 have h7:=h.getD (8*j+7)
 unfold fF
 omega
theorem ZE (L:List Nat) (b i:Nat):(L ++ [b]).getD i 0=if i=L.length then b else L.getD i 0:=by
 rw [List.getD_eq_getElem?_getD,List.getD_eq_getElem?_getD]
 rcases Nat.lt_trichotomy i L.length with h | h | h
 ·rw [if_neg (by omega),List.getElem?_append_left h]
 ·subst h; rw [if_pos rfl,List.getElem?_append_right (Nat.le_refl _)]; simp
 ·rw [if_neg (by omega),List.getElem?_append_right (by omega),List.getElem?_eq_none (by simp; omega),List.getElem?_eq_none (by omega)]
theorem b7 {L:List Nat} {i:Nat} (h:L.length<=i):L.getD i 0=0:=by
 rw [List.getD_eq_getElem?_getD,List.getElem?_eq_none h]; rfl
theorem y8 (L:List Nat) (b j:Nat):fF (L ++ [b]) j=if L.length / 8=j then fF L j+b*2 ^ (7 - L.length % 8) else fF L j:=by
 have z0:L.length<=8*j->L.getD (8*j) 0=0:=fun h=>b7 h
 have z1:L.length<=8*j+1->L.getD (8*j+1) 0=0:=fun h=>b7 h
 have z2:L.length<=8*j+2->L.getD (8*j+2) 0=0:=fun h=>b7 h
 have z3:L.length<=8*j+3->L.getD (8*j+3) 0=0:=fun h=>b7 h
 have z4:L.length<=8*j+4->L.getD (8*j+4) 0=0:=fun h=>b7 h
 have z5:L.length<=8*j+5->L.getD (8*j+5) 0=0:=fun h=>b7 h
 have z6:L.length<=8*j+6->L.getD (8*j+6) 0=0:=fun h=>b7 h
 have z7:L.length<=8*j+7->L.getD (8*j+7) 0=0:=fun h=>b7 h
 unfold fF
 simp only [ZE]
 generalize L.getD (8*j) 0=x0 at *
 generalize L.getD (8*j+1) 0=x1 at *
 generalize L.getD (8*j+2) 0=x2 at *
 generalize L.getD (8*j+3) 0=x3 at *
 generalize L.getD (8*j+4) 0=x4 at *
 generalize L.getD (8*j+5) 0=x5 at *
 generalize L.getD (8*j+6) 0=x6 at *
 generalize L.getD (8*j+7) 0=x7 at *
 generalize L.length=n at *
 by_cases h:n / 8=j
 ·rw [if_pos h]
  obtain ⟨t,ht,e⟩:∃ t,t < 8/\n=8*j+t:=⟨n % 8,by omega,by omega⟩
  subst e
  clear h
  rw [show (8*j+t) % 8=t by omega]
  match t,ht with
  | 0,_ | 1,_ | 2,_ | 3,_ | 4,_ | 5,_ | 6,_ | 7,_ =>
   simp only [Nat.reduceSub,Nat.reducePow,if_true]
   (repeat (first | rw [if_pos (by omega)] | rw [if_neg (by omega)]))
   (try omega)
 ·rw [if_neg h,if_neg (by omega),if_neg (by omega),if_neg (by omega),if_neg (by omega),if_neg (by omega),if_neg (by omega),if_neg (by omega),if_neg (by omega)]
def mB (L:List Nat):List Nat:=iM L ++ if L.length % 8=0 then [0] else []
theorem yL (L:List Nat):(mB L).length=L.length / 8+1:=by
 unfold mB
 rw [List.length_append,gW]
 split <;> simp <;> omega
theorem TG {L:List Nat} (h:L.length % 8=0):fF L (L.length / 8)=0:=by
 unfold fF
 rw [b7,b7,b7,b7,b7,b7,b7,b7] <;> omega
theorem aAk (L:List Nat):(mB L)[L.length / 8]? = some (fF L (L.length / 8)):=by
 unfold mB
 by_cases h:L.length % 8=0
 ·rw [if_pos h,List.getElem?_append_right (by rw [gW]; omega),gW,TG h,show L.length / 8 - (L.length+7) / 8=0 by omega]
  rfl
 ·rw [if_neg h,List.append_nil]
  exact pC L (by omega)
theorem VE (L:List Nat) (b:Nat):iM (L ++ [b])=(mB L).set (L.length / 8) (fF L (L.length / 8)+b*2 ^ (7 - L.length % 8)):=by
 apply List.ext_getElem?
 intro j
 rw [List.getElem?_set,yL]
 by_cases hj:L.length / 8=j
 ·rw [if_pos hj,if_pos (by omega),pC _ (by simp; omega),y8,if_pos hj,hj]
 ·rw [if_neg hj]
  rcases Nat.lt_or_ge j (L.length / 8) with h | h
  ·rw [pC _ (by simp; omega),y8,if_neg hj]
   unfold mB
   rw [List.getElem?_append_left (by rw [gW]; omega),pC _ (by omega)]
  ·rw [List.getElem?_eq_none (by rw [gW]; simp; omega),List.getElem?_eq_none (by rw [yL]; omega)]
theorem TH (L:List Nat):fF L (L.length / 8) % 2 ^ (8 - L.length % 8)=0:=by
 obtain ⟨j,t,ht,e⟩:∃ j t,t < 8/\L.length=8*j+t:=⟨L.length / 8,L.length % 8,by omega,by omega⟩
 have hz:∀ i,8*j+t<=i->L.getD i 0=0:=fun i h=>b7 (by omega)
 rw [e,show (8*j+t) / 8=j by omega,show (8*j+t) % 8=t by omega]
 unfold fF
 match t,ht with
 | 0,_ | 1,_ | 2,_ | 3,_ | 4,_ | 5,_ | 6,_ | 7,_ =>
  repeat (first | rw [hz (8*j) (by omega)] | rw [hz (8*j+1) (by omega)] | rw [hz (8*j+2) (by omega)] | rw [hz (8*j+3) (by omega)] | rw [hz (8*j+4) (by omega)] | rw [hz (8*j+5) (by omega)] | rw [hz (8*j+6) (by omega)] | rw [hz (8*j+7) (by omega)])
  try simp only [Nat.reduceSub,Nat.reducePow]
  try omega
theorem aB0 {x s b:Nat} (h:x % 2 ^ (s+1)=0) (hb:b<=1):x ||| b*2 ^ s=x+b*2 ^ s:=by
 have e:=Nat.div_add_mod x (2 ^ (s+1))
 rw [h,Nat.add_zero] at e
 rw [<-e]
 refine (Nat.two_pow_add_eq_or_of_lt ?_ _).symm
 rw [Nat.pow_succ]
 have:0 < 2 ^ s:=Nat.two_pow_pos s
 rcases Nat.eq_zero_or_pos b with h0 | h0
 ·subst h0; omega
 ·have:b=1:=by omega
  subst this; omega
theorem S8 {L:List Nat} (h:Bin L) (z i:Nat):qX (iM L ++ List.replicate z 0) i=L.getD i 0:=by
 unfold qX
 rw [List.getD_eq_getElem?_getD]
 rcases Nat.lt_or_ge (i / 8) ((L.length+7) / 8) with h1 | h1
 ·rw [List.getElem?_append_left (by rw [gW]; exact h1),pC L h1]
  obtain ⟨j,t,ht,e⟩:∃ j t,t < 8/\i=8*j+t:=⟨i / 8,i % 8,by omega,by omega⟩
  subst e
  rw [show (8*j+t) / 8=j by omega,show (8*j+t) % 8=t by omega]
  have h0:=h.getD (8*j)
  have h1:=h.getD (8*j+1)
  have h2:=h.getD (8*j+2)
  have h3:=h.getD (8*j+3)
  have h4:=h.getD (8*j+4)
  have h5:=h.getD (8*j+5)
  have h6:=h.getD (8*j+6)
  have h7:=h.getD (8*j+7)
  simp only [Option.getD_some]
  unfold fF
  match t,ht with
  | 0,_ | 1,_ | 2,_ | 3,_ | 4,_ | 5,_ | 6,_ | 7,_ =>
   simp only [Nat.reduceSub,Nat.reducePow,Nat.add_zero]
   omega
 ·rw [b7 (L:=L) (i:=i) (by omega),List.getElem?_append_right (by rw [gW]; exact h1),List.getElem?_replicate]
  split <;> simp
theorem yT (l:List Nat) (b:Nat):yS (l ++ [b])=2*yS l+b:=by unfold yS; rw [List.foldl_append]; rfl
theorem MK:∀ (n:Nat) (l:List Nat),l.length=n->Bin l->yS l < 2 ^ n
 | 0,l,h,_=>by
  have:l=[]:=List.eq_nil_of_length_eq_zero h
  subst this; decide
 | n+1,l,h,hb=>by
  have hne:l ≠ []:=by intro e; subst e; simp at h
  have e:=(List.dropLast_concat_getLast hne).symm
  have h1:=MK n l.dropLast (by simp [h]) (fun x hx=>hb x (List.dropLast_subset l hx))
  have h2:=hb _ (List.getLast_mem hne)
  rw [e,yT,Nat.pow_succ]
  omega
theorem RU (v:Nat) {k:Nat} (hv:v < 2 ^ k):∀ m,m<=k->yS ((cI v k).take m)=v / 2 ^ (k - m)
 | 0,_=>by rw [Nat.sub_zero,Nat.div_eq_of_lt hv]; rfl
 | m+1,h=>by
  rw [yY v (by omega),yT,RU v hv m (by omega)]
  unfold GF
  have e:k - m=(k - 1 - m)+1:=by omega
  rw [e,Nat.pow_succ,<-Nat.div_div_eq_div_mul,show k - (m+1)=k - 1 - m by omega]
  omega
theorem WF (v:Nat) {k:Nat} (hv:v < 2 ^ k):yS (cI v k)=v:=by
 have:=RU v hv k (Nat.le_refl _)
 rw [List.take_of_length_le (by rw [cC]; exact Nat.le_refl _),Nat.sub_self,Nat.pow_zero,Nat.div_one] at this
 exact this
end
end Go.Proofs.YtnbbfblaipjcmaaGreatDoor
