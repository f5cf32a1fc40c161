/- ToneA, ToneB, ToneC, LiftA. Conditions: as each theorem states. -/
import Derived.Handy
import Derived.Test.YtbpgfkjhclpbdaaGreatDoorPw04
import Derived.Test.YtbpgfkjhclpbdaaGreatDoorPw05
set_option maxRecDepth 100000
set_option maxHeartbeats 1000000
namespace Go.Proofs.YtbpgfkjhclpbdaaGreatDoor
open Tryz
open Go.RowKit
section
open Go.Lib (hid)
open Go.RowKit
theorem pJ(i:Nat)(w:World)(hi:i<16):Calls prog 115 #[.int .i64 i] w fun e w'=>e=.returned (.int .i64 ((i:Int) / 4))/\w=w':=by
 go_enter func115,ntmps115;go_wp2
 go_ret
 exact⟨rfl,rfl⟩
def nU(b:List Int)(i m:Nat):Int:=(List.range m).foldl (fun p d=>if i / 4*4+d=i then p else max p (eS (bgt b (i / 4*4+d)))) 0
def DN(b:List Int)(i:Nat):Int:=nU b i 4
theorem JJ(b:List Int)(i m:Nat):nU b i (m+1)=if i / 4*4+m=i then nU b i m else max (nU b i m) (eS (bgt b (i / 4*4+m))):=by
 unfold nU;rw[aH0,aHt];rfl
theorem DL{x:Int}(h:-4611686018427387904<=x/\x<=4611686018427387904):0<=eS x/\eS x<=4611686018427387904:=by
 unfold eS;split
 ·omega
 ·split <;> omega
theorem WE(b:List Int)(i:Nat)(w:World)(hb:b.length=16)(V:BigB b)(hi:i<16):
  Calls prog 254 #[aR b,.int .i64 i] w fun e w'=>e=.returned (.int .i64 (DN b i))/\Below w.heap.size w w':=by
 unfold aR;have HC:=hid (fun (k:Nat) (x:Int) (h:b[k]? = some x)=>fG h);generalize (b.map (Value.int .i64)).toArray=cs at *
 have Hb:=hid hb;have HR:=hid V;clear hb V;obtain⟨q,U⟩:∃ q,i / 4=q:=⟨_,rfl⟩;have Hq:=hid U;have aV:q<4:=by omega
 have hB:=hid (show ∀ W,Calls prog 115 #[.int .i64 i] W fun e w'=>e=.returned (.int .i64 (q:Int))/\W=w' from fun W=>(pJ i W hi).mono fun e w' ⟨he,hw⟩=>⟨he.trans (cL (by omega)),hw⟩);clear U;go_enter func254,ntmps254;go_wp2_with (go_at_call 115;refine (hB.out _).mono ?_;rintro e w' ⟨rfl,rfl⟩)
 go_loop [6,7] (fun p k=>∃ (m:Nat) (z:Int),m<=4/\0<=z/\z<=4611686018427387904/\z=nU b i m/\p=.int .i64 z/\k=.int .i64 ((q:Int)*4+m)) (fun p k=>(20-(intOf k)).toNat)
 case atStart=>exact⟨0,0,by omega,by omega,by omega,rfl,rfl,by go_num⟩
 case round =>
  obtain⟨m,z,hm,aM,aN,Z,rfl,rfl⟩:=hrel;have J:=hid Z;clear Z
  by_cases hlt:m<4
  ·have t1:(q:Int)*4+m<(q:Int)*4+4:=by omega
   obtain⟨x,d⟩:=aE (k:=q*4+m) Hb.out (by omega);have hc:=HC.out _ _ d;have aL:=HR.out _ _ d;have aJ:=DL aL;have t:=hid (show nU b i (m+1)=if q*4+m=i then z else max z (eS x) by rw[JJ,Hq.out,J.out,aD d]);clear d
   by_cases he:q*4+m=i
   ·have t2:(((q:Int)*4+m) == (i:Int))=true:=aIl.2 (by omega);have t3:(((q:Int)*4+m) != (i:Int))=false:=by rw[bne_eq_false_iff_eq];omega
    have F:=hid he;clear he;go_wp2
    go_round
    case rel=>exact⟨m+1,z,by omega,aM,aN,by rw[t.out,FN F.out],rfl,by go_num⟩
    case measure=>simp[intOf];omega
   ·have t2:(((q:Int)*4+m) == (i:Int))=false:=aG8.2 (by omega);have t3:(((q:Int)*4+m) != (i:Int))=true:=by rw[aHk];omega
    have F:=hid he;clear he;obtain⟨y,I⟩:∃ y,eS x=y:=⟨_,rfl⟩;rw[I]at aJ t;have Hy:=hid I;clear I;have G:z<y\/y<=z:=by omega
    rcases G with G|G
    all_goals
     go_wp2_with (go_at_call 229;refine (xK _ _ (by omega) (by omega)).mono ?_;rw[Hy.out];rintro e w' ⟨rfl,rfl⟩)
     go_round
     case rel=>exact⟨m+1,max z y,by omega,by omega,by omega,by rw[t.out,sL F.out],jX (by first|rfl|omega),by go_num⟩
     case measure=>simp[intOf];omega
  ·have O:m=4:=by omega
   have t1:¬ ((q:Int)*4+m<(q:Int)*4+4):=by omega
   have Hm:=hid O;clear O hlt;go_wp2
   go_ret
   exact⟨cL (by rw[J.out,Hm.out];rfl),aP _ _⟩
theorem bJ:(prog.info? 43).map (·.size)=some 16:=by kernel_rfl
def mB(b:List Int)(i:Int):Bool:=decide (0<=i)&&decide (i<16)&&decide (64<=eS (bgt b i.toNat))&&decide (DN b i.toNat<=eS (bgt b i.toNat) / 8)
theorem ZP(b:List Int)(i:Int)(w:World)(hb:b.length=16)(I:BigB b):
  Calls prog 241 #[aR b,.int .i64 i] w fun e w'=>e=.returned (.bool (mB b i))/\Below w.heap.size w w':=by
 by_cases hi:0<=i/\i<16
 ·obtain⟨O,h1⟩:=hi;obtain⟨n,rfl⟩:=aGF O;have U:n<16:=by omega
  obtain⟨x,t⟩:=aE (k:=n) hb U;have F:=hid (fun W=>WE b n W hb I U);have aN:=I _ _ t;have aL:=DL aN;have G:=hid (show mB b (n:Int)=(decide (64<=eS x)&&decide (DN b n<=eS x / 8)) by unfold mB;rw[Int.toNat_natCast,aD t];have e1:decide ((0:Int)<=(n:Int))=true:=aGs O;have e2:decide ((n:Int)<16)=true:=aGs h1;rw[e1,e2];rfl);obtain⟨y,J⟩:∃ y,eS x=y:=⟨_,rfl⟩;obtain⟨z,Z⟩:∃ z,DN b n=z:=⟨_,rfl⟩;have V:(b.map (Value.int .i64)).toArray.size=16:=by simp[hb]
  rw[J]at aL G;rw[Z]at F G;have Hy:=hid J;unfold aR at F ⊢;have hc:=fG t;generalize (b.map (Value.int .i64)).toArray=h at *
  have HI:=hid (show (prog.info? 43).map (·.size)=some h.size by rw[V];exact bJ);clear t J Z V hb I;have hB:=hid (LT w (.cells h 43));go_enter func241,ntmps241;go_wp2_with (first|(go_at_call 229;refine (xK _ _ (by omega) (by omega)).mono ?_;rw[Hy.out];rintro e w' ⟨rfl,rfl⟩)|(go_at_call 254;refine (F.out _).mono ?_;rintro e w1 ⟨rfl,aM⟩)|(refine aB rfl 43 (.tmp 2) rfl w.heap.size rfl _ h _ _ hB.out underlying43 rfl HI.out ?_))
  all_goals
   go_ret
   refine⟨dU (by rw[G.out,aH9];simp <;> omega),?_⟩
   first|exact aC (aP _ _) aM|exact aP _ _
 ·have hT:=hid (show mB b i=false by unfold mB;simp;omega);have d:i<0\/16<=i:=by omega
  clear hi;unfold aR;generalize (b.map (Value.int .i64)).toArray=h at *
  rcases d with d|d
  ·have a2:decide (i<0)=true:=aGs d;have HH:=hid d;clear d;go_enter func241,ntmps241;go_wp2
   go_ret
   exact⟨dU hT.out.symm,aP _ _⟩
  ·have a1:¬ i<0:=by omega
   have a2:decide (i<0)=false:=aGm a1;go_enter func241,ntmps241;go_wp2
   go_ret
   exact⟨dU hT.out.symm,aP _ _⟩
end
def aCK(b:List Int)(i k:Nat):Bool:=mB b (k:Int)&&(decide (eS (bgt b i)<eS (bgt b k))||(decide (eS (bgt b k)=eS (bgt b i))&&decide (k<i)))
def aAe(b:List Int)(i m:Nat):Nat:=((List.range m).filter (aCK b i)).length
def EP(b:List Int)(i:Nat):Nat:=aAe b i 16
section
open Go.Lib (hid)
open Go.RowKit
def aF1.cells(t:aF1):List Value:=[.int .i64 t.p,.int .i64 t.u]
def aF1.ok(t:aF1):Prop:=(0<=t.p/\t.p<=16384)/\0<=t.u/\t.u<=16384
theorem iO{k:Nat}(hk:k<8):(bD k).ok:=by
 have d:k=0\/k=1\/k=2\/k=3\/k=4\/k=5\/k=6\/k=7:=by omega
 unfold aF1.ok;rcases d with rfl|rfl|rfl|rfl|rfl|rfl|rfl|rfl
 ·rw[DZ];simp
 ·rw[D6];simp
 ·rw[D7];simp
 ·rw[EC];simp
 ·rw[ED];simp
 ·rw[EE];simp
 ·rw[EF];simp
 ·rw[EG];simp
theorem MA{c v B:Int}(h:0<=c/\c<=16384)(h1:-B<=v)(h2:v<=B):-(16384*B)<=c*v/\c*v<=16384*B:=by
 have t:0<=B:=by omega
 have a:=aJh h2 h.1;have b:=aJh h1 h.1;have d:=aH7 h.2 t;rw[Int.mul_neg]at b;omega
theorem uM{c v B:Int}(d:0<=c/\c<=16384)(h1:-B<=v)(h2:v<=B):-(B+1)<=cE c v/\cE c v<=B+1:=by
 have h:=MA d h1 h2;have k:=mE c v;omega
theorem qH(c v:Int)(w:World)(t:0<=c/\c<=16384)(h1:-17592186044416<=v)(h2:v<=17592186044416):
  Calls prog 158 #[.int .i64 c,.int .i64 v] w fun e w'=>e=.returned (.int .i64 (cE c v))/\Below w.heap.size w w':=by
 have z:=MA t h1 h2;have I:IntKind.i64.wrap (c*v)=c*v:=aGl _ (by omega);have d:-9223372036854775808<=c*v/\c*v<=9223372036854775807:=by omega
 unfold cE;have h:=hid (fun W=>J8 (c*v) 14 W d.1 d.2 (by decide) (by decide));rw[show (14:Int).toNat=14 from rfl]at h;generalize jP (c*v) 14=J at *
 clear d z h1 h2 t;go_enter func158,ntmps158;go_wp2_with (go_at_call 125;fail)
 refine (h.out _).mono ?_;rintro e G ⟨rfl,F,hnd⟩;have hb:Below w.heap.size w G:=by rw[hnd];exact aHY (aGj _ _) F
 clear hnd;go_wp2
 go_ret
 exact⟨rfl,hb⟩
def cI(a:Int):Prop:=-1099511627776<=a/\a<=1099511627776
theorem lJ(a b:Int)(t:aF1)(w:World)(ht:t.ok)(ha:cI a)(hb:cI b):
  Calls prog 228 #[.int .i64 a,.int .i64 b,.agg #[.int .i64 t.p,.int .i64 t.u]] w fun e w'=>e=.returned (.tuple #[.int .i64 (dQ a b t),.int .i64 (eK a b t)])/\Below w.heap.size w w':=by
 obtain⟨p,u⟩:=t;obtain⟨d,h⟩:=ht;simp only at d h;have b1:=uM d hb.1 hb.2;have V:=hid (fun W=>qH p b W d (by have:=hb.1;omega) (by have:=hb.2;omega));obtain⟨aK,aL⟩:=ha;obtain⟨aM,aN⟩:=hb;have G:dQ a b ⟨p,u⟩=a+cE p b+cE p (b-cE u (a+cE p b)):=rfl;have I:eK a b ⟨p,u⟩=b-cE u (a+cE p b):=rfl;rw[G,I];generalize cE p b=X at *
 have b2:=uM (v:=a+X) (B:=4398046511104) h (by omega) (by omega);have H2:=hid (fun W=>qH u (a+X) W h (by omega) (by omega));generalize cE u (a+X)=Y at *
 have b3:=uM (v:=b-Y) (B:=8796093022208) d (by omega) (by omega);have H3:=hid (fun W=>qH p (b-Y) W d (by omega) (by omega));generalize cE p (b-Y)=Z at *
 have w1:IntKind.i64.wrap (a+X)=a+X:=aGl _ (by omega);have w2:IntKind.i64.wrap (b-Y)=b-Y:=aGl _ (by omega);have w3:IntKind.i64.wrap (a+X+Z)=a+X+Z:=aGl _ (by omega);have HM:=hid (LT w (.cells #[.int .i64 p,.int .i64 u] 84));clear G I b1 b2 b3 d h aK aL aM aN;go_enter func228,ntmps228;go_wp2_with (go_at_call 158;fail)
 refine (V.out _).mono ?_;rintro e v1 ⟨rfl,z⟩;have J:=hid (aF HM.out z);have O:=hid (aC (aP w _) z);have c1:=aGo v1 w.heap.size 1 _ _ _ J.out;clear z;go_wp2_with (go_at_call 158;fail)
 refine (H2.out _).mono ?_;rintro e v2 ⟨rfl,F⟩;have M2:=hid (aF J.out F);have U:=hid (aC O.out F);have c2:=aGo v2 w.heap.size 0 _ _ _ M2.out;clear F c1;go_wp2_with (go_at_call 158;fail)
 refine (H3.out _).mono ?_;rintro e v3 ⟨rfl,aO⟩;go_wp2;refine aGk (aGN results228 _ _ _) rfl ?_;exact⟨rfl,aC U.out aO⟩
theorem iC(a b:Int)(t:aF1)(w:World)(ht:t.ok)(ha:cI a)(hb:cI b):
  Calls prog 124 #[.int .i64 a,.int .i64 b,.agg #[.int .i64 t.p,.int .i64 t.u]] w fun e w'=>e=.returned (.tuple #[.int .i64 (unA a b t),.int .i64 (unB a b t)])/\Below w.heap.size w w':=by
 obtain⟨p,u⟩:=t;obtain⟨d,h⟩:=ht;simp only at d h;have b1:=uM d hb.1 hb.2;have V:=hid (fun W=>qH p b W d (by have:=hb.1;omega) (by have:=hb.2;omega));obtain⟨aK,aL⟩:=ha;obtain⟨aM,aN⟩:=hb;have G:unA a b ⟨p,u⟩=a-cE p b-cE p (b+cE u (a-cE p b)):=rfl;have I:unB a b ⟨p,u⟩=b+cE u (a-cE p b):=rfl;rw[G,I];generalize cE p b=X at *
 have b2:=uM (v:=a-X) (B:=4398046511104) h (by omega) (by omega);have H2:=hid (fun W=>qH u (a-X) W h (by omega) (by omega));generalize cE u (a-X)=Y at *
 have b3:=uM (v:=b+Y) (B:=8796093022208) d (by omega) (by omega);have H3:=hid (fun W=>qH p (b+Y) W d (by omega) (by omega));generalize cE p (b+Y)=Z at *
 have w1:IntKind.i64.wrap (a-X)=a-X:=aGl _ (by omega);have w2:IntKind.i64.wrap (b+Y)=b+Y:=aGl _ (by omega);have w3:IntKind.i64.wrap (a-X-Z)=a-X-Z:=aGl _ (by omega);have HM:=hid (LT w (.cells #[.int .i64 p,.int .i64 u] 84));clear G I b1 b2 b3 d h aK aL aM aN;go_enter func124,ntmps124;go_wp2_with (go_at_call 158;fail)
 refine (V.out _).mono ?_;rintro e v1 ⟨rfl,z⟩;have J:=hid (aF HM.out z);have O:=hid (aC (aP w _) z);have c1:=aGo v1 w.heap.size 1 _ _ _ J.out;clear z;go_wp2_with (go_at_call 158;fail)
 refine (H2.out _).mono ?_;rintro e v2 ⟨rfl,F⟩;have M2:=hid (aF J.out F);have U:=hid (aC O.out F);have c2:=aGo v2 w.heap.size 0 _ _ _ M2.out;clear F c1;go_wp2_with (go_at_call 158;fail)
 refine (H3.out _).mono ?_;rintro e v3 ⟨rfl,aO⟩;go_wp2;refine aGk (aGN results124 _ _ _) rfl ?_;exact⟨rfl,aC U.out aO⟩
theorem aDo:(prog.info? 84).map (·.size)=some 2:=by kernel_rfl
theorem vL(k:Nat)(w:World)(hk:k<8):
  Calls prog 123 #[.int .i64 k] w fun e w'=>e=.returned (.agg #[.int .i64 (bD k).p,.int .i64 (bD k).u])/\Below w.heap.size w w':=by
 have d:k=0\/k=1\/k=2\/k=3\/k=4\/k=5\/k=6\/k=7:=by omega
 rcases d with rfl|rfl|rfl|rfl|rfl|rfl|rfl|rfl
 all_goals
  first|rw[DZ]|rw[D6]|rw[D7]|rw[EC]|rw[ED]|rw[EE]|rw[EF]|rw[EG]
  go_enter func123,ntmps123;go_wp2;refine aGk (v:=_) (aG9 results123 _ _ w.heap.size 84 _ (0,0) _ rfl (LT w _) underlying84 rfl aDo) rfl ?_;exact⟨rfl,aP _ _⟩
end
end Go.Proofs.YtbpgfkjhclpbdaaGreatDoor
