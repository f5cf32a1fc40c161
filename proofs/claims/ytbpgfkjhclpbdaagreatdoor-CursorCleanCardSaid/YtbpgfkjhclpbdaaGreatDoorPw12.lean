/- ToneD, ToneE, ToneF, ToneG, ToneH, ToneI. Conditions: as each theorem states. -/
import Derived.Ground.SlsfProg
import Derived.IntWalk
import Derived.Deep.RegionWith
import Derived.Test.YtbpgfkjhclpbdaaGreatDoorPw09
import Derived.Test.YtbpgfkjhclpbdaaGreatDoorPw10
import Derived.Test.YtbpgfkjhclpbdaaGreatDoorPw06
import Derived.Test.YtbpgfkjhclpbdaaGreatDoorPw11
set_option maxRecDepth 100000
set_option maxHeartbeats 4000000
namespace Go.Proofs.YtbpgfkjhclpbdaaGreatDoor
open Tryz
open Go.RowKit
section
open Go.Lib (hid)
open Go.RowKit Go.Shelf
structure aFP where
 idx:Int
 val:Int
deriving DecidableEq
def aFP.cells(t:aFP):List Value:=[.int .i64 t.idx,.int .i64 t.val]
def aFP.big(t:aFP):Prop:=(-2305843009213693952<=t.idx/\t.idx<=2305843009213693952)/\-4611686018427387904<=t.val/\t.val<=4611686018427387904
structure aFU where
 t:aFP
 h:t.big
instance:Inhabited aFU:=⟨⟨⟨0,0⟩,by simp[aFP.big]⟩⟩
def aFU.cells(t:aFU):List Value:=t.t.cells
theorem NI:∀ x:aFU,x.cells.length=2:=fun _=>rfl
theorem aFe:∀ x:aFU,∀ v∈x.cells,v.oneCell'=true:=by
 intro x v d;simp only[aFU.cells,aFP.cells,aGw,aGV,aGS]at d;rcases d with rfl|rfl <;> rfl
def lD(x y:aFU):Int:=s9 (eS y.t.val-eS x.t.val) (-1) 1
def lZ(x y:aFU):Int:=x.t.idx-y.t.idx
theorem FJ(W:World)(d h:Obj)(n:Nat):((W.alloc d).alloc h).drewN n=Sort.grow (W.drewN n) #[d,h]:=by
 rw[aJc,aJc,Sort.grow_grow]
 rfl
theorem aDw(z d F t:Int)(W:World)(h1:-4611686018427387904<=d/\d<=4611686018427387904)(h2:-4611686018427387904<=t/\t<=4611686018427387904):
  Calls prog 243 #[.agg #[.int .i64 z,.int .i64 d],.agg #[.int .i64 F,.int .i64 t]] W fun e w'=>e=.returned (.int .i64 (s9 (eS t-eS d) (-1) 1))/\∃ n,w'=((W.alloc (.cells #[.int .i64 z,.int .i64 d] 156)).alloc (.cells #[.int .i64 F,.int .i64 t] 156)).drewN n:=by
 have J:=DL h1;have O:=DL h2;have G:=hid (fun W=>xK d W (by omega) (by omega));have I:=hid (fun W=>xK t W (by omega) (by omega));obtain⟨U,V⟩:=J;obtain⟨Z,aA⟩:=O;generalize eS d=a at *
 generalize eS t=c at *
 have aB:IntKind.i64.wrap (c-a)=c-a:=aGl _ (by omega);clear h1 h2;go_enter func243,ntmps243;go_wp2
 go_quiet ((first|(go_at_call_of 229 (Value.int .i64 d);exact aJD ((G.out _).mono fun _ _ h=>⟨h.1,h.2.symm⟩))|(go_at_call_of 229 (Value.int .i64 t);exact aJD ((I.out _).mono fun _ _ h=>⟨h.1,h.2.symm⟩))|(go_at_call 122;exact aJD ((zL _ _ _ _).mono fun _ _ h=>⟨h.1,h.2.symm⟩))))
 go_wp2
 go_ret
 exact⟨rfl,_,rfl⟩
theorem aEH(d t h z:Int)(W:World)(h1:-2305843009213693952<=d/\d<=2305843009213693952)(h2:-2305843009213693952<=h/\h<=2305843009213693952):
  Calls prog 245 #[.agg #[.int .i64 d,.int .i64 t],.agg #[.int .i64 h,.int .i64 z]] W fun e w'=>e=.returned (.int .i64 (d-h))/\w'=((W.alloc (.cells #[.int .i64 d,.int .i64 t] 156)).alloc (.cells #[.int .i64 h,.int .i64 z] 156)):=by
 obtain⟨F,G⟩:=h1;obtain⟨I,J⟩:=h2;go_enter func245,ntmps245;go_wp2
 go_ret
 exact⟨rfl,rfl⟩
theorem aBu(blk off size:Nat)(w:World):CmpLays prog 243 #[] aFU.cells 2 lD blk off size w:=by
 intro m os d _ x y;generalize sortWorldK aFU.cells 2 w blk off m d os=W;refine (aDw x.t.idx x.t.val y.t.idx y.t.val W x.h.2 y.h.2).mono ?_;rintro e w' ⟨he,n,z⟩;exact⟨he,n,_,z.trans (FJ _ _ _ _)⟩
theorem aDj(blk off size:Nat)(w:World):CmpLays prog 245 #[] aFU.cells 2 lZ blk off size w:=by
 intro m os d _ x y;generalize sortWorldK aFU.cells 2 w blk off m d os=W;refine (aEH x.t.idx x.t.val y.t.idx y.t.val W x.h.1 y.h.1).mono ?_;rintro e w' ⟨he,z⟩;exact⟨he,0,_,z.trans (FJ W _ _ 0)⟩
/-! slices.insertionSortCmpFunc at this program. -/
def aDr:Go.Shelf.Ren:=⟨fun|20=>259|n=>n,fun|24=>156|22=>41|3=>3|25=>340|4=>4|0=>0|n=>n,fun|n=>n⟩
theorem aFG:Go.Proofs.SlLaysF0.n20 prog aDr:={
 mixed:=by kernel_rfl
 f20:=⟨f259.name,by decide,func259.trans (aGp some (by kernel_rfl))⟩
 t0:=underlying0
 a0:=isAgg0
 z0:=sizeOf0
 v0:=zeroValue0
 t3:=underlying3
 a3:=isAgg3
 z3:=sizeOf3
 v3:=zeroValue3
 t4:=underlying4
 a4:=isAgg4
 z4:=sizeOf4
 v4:=zeroValue4
 t22:=underlying41
 a22:=isAgg41
 z22:=sizeOf41
 v22:=zeroValue41
 t25:=underlying340
 a25:=isAgg340
 z25:=sizeOf340
 v25:=zeroValue340 }
theorem qO{α:Type} [Inhabited α](lt:α->α->Bool)(d:Sort.SWO lt)(l:List α):(dW lt l).length=l.length:=(iE lt d l).length_eq
theorem aBr(A:Option Addr)(cap:Nat)(d:Value)(w:World):Calls prog 259 #[.slice A 0 cap,.int .i64 0,.int .i64 0,d] w fun e w'=>e=.returned (.tuple #[])/\w=w':=by
 go_enter func259,ntmps259;go_wp2;refine aHD 1 ?_;rw[rounds_succ];go_wp2
 go_end0
 exact⟨rfl,rfl⟩
def sW(B:Nat)(W:World)(A:Option Addr)(l:List aFU)(e:Ending)(w':World):Prop:=e=.returned (.tuple #[])/\kH aFU.cells 2 B w' A l/\Below B W w'
theorem SZ(d:aFU->aFU->Int)(g:Nat)(z:Sort.SWO (ltOf d))(G:∀ blk off size w,CmpLays prog g #[] aFU.cells 2 d blk off size w)(F:∀ args w,(callFunc g args).run prog w=.ok (.enter g args) w)
 (l:List aFU)(A:Option Addr)(cap B:Nat)(w:World)(hh:kH aFU.cells 2 B w A l)(I:l.length<=1000000):
  Calls prog 259 #[.slice A l.length cap,.int .i64 0,.int .i64 l.length,.func (.func g) #[] #[]] w (sW B w A (dW (ltOf d) l)):=by
 rcases hh with rfl|⟨k,rfl,t,hk,hh⟩
 ·refine (aBr A cap _ w).mono ?_;rintro e w' ⟨he,rfl⟩;exact⟨he,.inl (List.perm_nil.1 (iE _ z [])),aGj _ _⟩
 ·have h:=AnyQ.insertionSortCmpFunc aFG 2 (fun w=>by kernel_rfl) (fun w=>by kernel_rfl) aFU.cells NI aFe d g #[] k 0 cap 0 l.length l.toArray w F (G _ _ _ _) hh hk (aG3 _) (by simp) (by simp;omega);refine Calls.mono (show Calls prog 259 #[.slice (some ⟨k,0,none⟩) l.length cap,.int .i64 0,.int .i64 l.length,.func (.func g) #[] #[]] w _ from h) ?_;rintro e w' ⟨he,n,os,rfl⟩;refine⟨he,?_,sM _ _ _ _ _ _ _ _ B t hk⟩;have:=yN (enc:=aFU.cells) (k:=2) t hk hh (m:=dW (ltOf d) l) (qO _ z l) n os;exact this
theorem UU(d:aFU->aFU->Int)(g:Nat)(z:Sort.SWO (ltOf d))(F:∀ blk off size w,CmpLays prog g #[] aFU.cells 2 d blk off size w)(t:∀ args w,(callFunc g args).run prog w=.ok (.enter g args) w)
 (l:List aFU)(A:Option Addr)(cap B:Nat)(w:World)(hh:kH aFU.cells 2 B w A l)(U:l.length<=19):
  Calls prog 242 #[.slice A l.length cap,.func (.func g) #[] #[]] w (sW B w A (dW (ltOf d) l)):=by
 have I:=hid (SZ d g z F t l A cap B w hh (by omega));generalize dW (ltOf d) l=L at *
 obtain⟨n,G⟩:∃ n,l.length=n:=⟨_,rfl⟩;rw[G]at I U ⊢;have V:¬ ((20:Int)<=(n:Int)):=by omega
 have W:¬ ((20:Int)<(n:Int)):=by omega
 have h:Calls prog 255 #[.slice A n cap,.int .i64 n,.func (.func g) #[] #[]] w (sW B w A L):=by
  clear G hh t F z;go_enter func255,ntmps255;go_wp2_with fail
  refine aHD 1 ?_;rw[rounds_succ];go_wp2_with fail
  refine I.out.mono ?_;rintro e w' ⟨rfl,h1,h2⟩;have J:=hid h1;have O:=hid h2;clear h1 h2;go_wp2_with fail
  refine aHD 1 ?_;rw[rounds_succ];go_wp2_with fail
  go_end0
  exact⟨rfl,J.out,O.out⟩
 have h:=hid h;clear G hh t F z;go_enter func242,ntmps242;go_wp2_with fail
 refine h.out.mono ?_;rintro e w' ⟨rfl,h1,h2⟩;go_wp2_with fail
 go_end0
 exact⟨rfl,h1,h2⟩
theorem aB5(d:aFU->aFU->Int)(g:Nat)(F:Sort.SWO (ltOf d))(G:∀ blk off size w,CmpLays prog g #[] aFU.cells 2 d blk off size w)(t:∀ args w,(callFunc g args).run prog w=.ok (.enter g args) w)
 (l:List aFU)(A:Option Addr)(cap B:Nat)(w:World)(hh:kH aFU.cells 2 B w A l)(O:l.length<=12):
  Calls prog 244 #[.slice A l.length cap,.func (.func g) #[] #[]] w (sW B w A (dW (ltOf d) l)):=by
 have J:=hid (SZ d g F G t l A cap B w hh (by omega));generalize dW (ltOf d) l=L at *
 obtain⟨n,I⟩:∃ n,l.length=n:=⟨_,rfl⟩;rw[I]at J O ⊢;have U:(n:Int)<=12:=by omega
 have h:∀ z:Int,Calls prog 256 #[.slice A n cap,.int .i64 0,.int .i64 n,.int .i64 z,.func (.func g) #[] #[]] w (sW B w A L):=by
  intro z;clear I hh t G F;go_enter func256,ntmps256;go_wp2_with fail
  refine aHD 1 ?_;rw[rounds_succ];go_wp2_with fail
  refine J.out.mono ?_;rintro e w' ⟨rfl,h1,h2⟩;go_wp2_with fail
  go_end0
  exact⟨rfl,h1,h2⟩
 have h:=hid h;clear I hh t G F;go_enter func244,ntmps244;go_wp2_with fail
 refine (aCR _ _ (by omega) (by omega)).mono ?_;rintro e w' ⟨rfl,rfl⟩;generalize Lib.bitLen _=z;go_wp2_with fail
 refine (h.out _).mono ?_;rintro e w' ⟨rfl,h1,h2⟩;go_wp2_with fail
 go_end0
 exact⟨rfl,h1,h2⟩
end
def lR(b:List Int)(k:Nat):aFP:=⟨k,bgt b k⟩
def jC(b:List Int)(m:Nat):List aFP:=((List.range m).filter fun (k:Nat)=>mB b (k:Int)).map (lR b)
def nX(b:List Int):List aFP:=((List.range 16).filter fun (k:Nat)=>mB b (k:Int)&&decide (EP b k<=1)).map (lR b)
def vJ(x y:aFP):Bool:=decide (eS y.val<eS x.val)||(decide (eS x.val=eS y.val)&&decide (x.idx<y.idx))
theorem PJ(b:List Int)(m:Nat):jC b (m+1)=jC b m++if mB b (m:Int)=true then [lR b m] else []:=by
 unfold jC;rw[aH0,aJN,aG2]
 congr 1
 cases h:mB b (m:Int) <;> simp[h]
theorem MH(m:Nat):(List.range m).Pairwise (·<·):=List.pairwise_lt_range
theorem U5(b:List Int)(m:Nat):(jC b m).Pairwise fun x y=>x.idx<y.idx:=by
 unfold jC;rw[aIu];refine ((MH m).filter _).imp fun {a c} h=>?_
 show (a:Int)<(c:Int);omega
theorem aAV(b:List Int)(k:Nat):((jC b 16).filter fun u=>vJ u (lR b k)).length=EP b k:=by
 unfold jC EP aAe;rw[aJk,aF7,List.filter_filter]
 congr 1
 refine aIE fun j _=>?_
 unfold aCK vJ lR;simp only[Function.comp];rw[Bool.and_comm]
 congr 2
 have:((j:Int)<(k:Int)) ↔ j<k:=by omega
 rw[aJ2.2 this]
theorem aC6(b:List Int):(jC b 16).filter (fun t=>decide (((jC b 16).filter fun u=>vJ u t).length<=1))=nX b:=by
 unfold nX
 conv=>lhs;arg 2;unfold jC
 rw[aJk,List.filter_filter]
 congr 1
 refine aIE fun k _=>?_
 simp only[Function.comp];rw[aAV,Bool.and_comm]
theorem aBf(b:List Int):(nX b).length<=16:=by
 unfold nX;have:=List.length_filter_le (fun k:Nat=>mB b (k:Int)&&decide (EP b k<=1)) (List.range 16);simpa using this
/-! The sorts' orders. -/
def jN(x y:aFU):Bool:=vJ x.t y.t
theorem tK(x y:aFU):ltOf lD x y=decide (eS y.t.val<eS x.t.val):=by
 unfold ltOf lD s9;rw[aJ2];split
 ·omega
 ·split <;> omega
theorem CH(x y:aFU):ltOf lZ x y=decide (x.t.idx<y.t.idx):=by
 unfold ltOf lZ;rw[aJ2];omega
theorem IX:Sort.SWO (ltOf lD):=⟨fun x=>by rw[tK];simp,fun x y z=>by rw[tK,tK,tK];simp;omega,fun x y z=>by rw[tK,tK,tK];simp;omega⟩
theorem zG:Sort.SWO (ltOf lZ):=⟨fun x=>by rw[CH];simp,fun x y z=>by rw[CH,CH,CH];simp;omega,fun x y z=>by rw[CH,CH,CH];simp;omega⟩
theorem IY:Sort.SWO jN:=⟨fun x=>by unfold jN vJ;simp,fun x y z=>by unfold jN vJ;simp;omega,fun x y z=>by unfold jN vJ;simp;omega⟩
theorem aDQ(x:aFU):jN x x=false:=IY.irrefl x
theorem aDP(x y:aFU)(h:jN x y=true):jN y x=false:=by
 unfold jN vJ at *;simp at *;omega
theorem zC(b:List Int)(ts:List aFU)(h:ts.map aFU.t=jC b 16):
  (dW (ltOf lZ) ((dW (ltOf lD) ts).take 2)).map aFU.t=nX b:=by
 have d:ts.Pairwise fun x y=>x.t.idx<y.t.idx:=by
  have:=U5 b 16;rw[<-h,aIu]at this;exact this
 have J:dW (ltOf lD) ts=dW jN ts:=y9 _ _ (fun x=>x.t.idx) (fun x y aF=>by
  rw[tK];unfold jN vJ;have:¬ x.t.idx<y.t.idx:=by omega
  simp[this]) ts d
 rw[J];have z:=iE jN IY ts;generalize U:dW jN ts=S at *
 have I:=rT jN IY ts;rw[U]at I;have W:S.Pairwise fun x y=>x.t.idx≠y.t.idx:=by
  refine (z.pairwise_iff (fun {x y} h=>aHr h)).2 (d.imp fun {x y} h=>?_);omega
 have aB:S.Pairwise fun x y=>jN x y=true:=by
  refine (I.and W).imp fun {x y} ⟨h1,h2⟩=>?_
  unfold jN vJ at *
  simp at *
  omega
 have aE:=aBg jN aDQ aDP S aB;rw[<-aE];have aC:∀ t,(S.filter fun u=>jN u t).length=(ts.filter fun u=>jN u t).length:=fun t=>(z.filter _).length_eq
 have O:(S.filter fun t=>decide ((S.filter fun u=>jN u t).length<=1))=S.filter fun t=>decide ((ts.filter fun u=>jN u t).length<=1):=by
  refine aIE fun t _=>?_
  rw[aC]
 rw[O];have aA:=z.filter (fun t=>decide ((ts.filter fun u=>jN u t).length<=1));generalize hT:S.filter (fun t=>decide ((ts.filter fun u=>jN u t).length<=1))=T at *
 have G:=(iE (ltOf lZ) zG T).trans aA;have aD:=rT (ltOf lZ) zG T;have F:=d.filter (fun t=>decide ((ts.filter fun u=>jN u t).length<=1));have Z:(dW (ltOf lZ) T).Pairwise fun x y=>x.t.idx≠y.t.idx:=by
  refine (G.pairwise_iff (fun {x y} h=>aHr h)).2 (F.imp fun {x y} h=>?_);omega
 have V:=oD (fun x y:aFU=>x.t.idx<y.t.idx) (fun x=>by omega) (fun x y h=>by omega) _ _ G ((aD.and Z).imp fun {x y} ⟨h1,h2⟩=>by
  rw[CH]at h1;simp at h1;omega) F
 rw[V,<-aC6,<-h,aJk]
 congr 1
 refine aIE fun t _=>?_
 simp only[Function.comp];rw[aJk,aF7]
 rfl
section
open Go.Lib (hid)
open Go.RowKit
def aV(ts:List aFP):List Value:=(ts.map aFP.cells).flatten
theorem aDn:(prog.info? 156).map (fun i=>(i.zero,i.size,i.bytes))=some (some (.agg #[.int .i64 0,.int .i64 0]),2,16):=by kernel_rfl
theorem aCU(ts:List aFU):(ts.map aFU.cells).flatten=aV (ts.map aFU.t):=by
 unfold aV;rw[aHj];rfl
def J9(W:World)(ts:List aFP)(e:Ending)(w':World):Prop:=∃ A c,e=.returned (.slice A ts.length c)/\ts.length<=c/\c<=9223372036854775807/\(ts=[]\/∃ g,A=some ⟨g,0,none⟩/\W.heap.size<=g)/\Row w' w'.heap.size A (aV ts)/\Below W.heap.size W w'
theorem PH(b:List Int)(w:World)(hb:b.length=16)(hr:BigB b):
  Calls prog 230 #[aR b] w (J9 w (nX b)):=by
 obtain⟨i0,hi,bX,bY,bZ⟩:=aHx aDn;have aG:=hid (fun (i:Int) W=>ZP b i W hb hr);have HS:=hid (zC b);unfold aR at aG ⊢;have HC:=hid (fun (k:Nat) (x:Int) (h:b[k]? = some x)=>fG h);have a4:(b.map (Value.int .i64)).toArray.size=16:=by simp[hb]
 generalize (b.map (Value.int .i64)).toArray=I at *
 have HF:=hid (show (prog.info? 43).map (·.size)=some I.size by rw[a4];exact bJ);have Hb:=hid hb;have HR:=hid hr;have hB:=hid (LT w (.cells I 43));clear hb hr a4;go_enter func230,ntmps230;go_wp2_with (first|fail|(refine aB rfl 43 (.tmp 1) rfl w.heap.size rfl _ I _ _ hB.out underlying43 rfl HF.out ?_))
 go_loopw [3,7] (fun o i wr=>∃ (m:Nat) (ts:List aFU) (A:Option Addr) (c:Nat),m<=16/\i=.int .i64 m/\ts.map aFU.t=jC b m/\ts.length<=m/\o=.slice A ts.length c/\c<=9223372036854775807 /\
   wr.ownsRow (w.heap.size+1) 156 2 (.slice A ts.length c) ts.length ((ts.map aFU.cells).flatten)/\Below (w.heap.size+1) (w.alloc (.cells I 43)) wr) (fun _ i _=>(16-intOf i).toNat)
 case atStart=>exact⟨0,[],none,0,by omega,by go_num,rfl,by simp,rfl,by omega,aHc _ _ _ _,aGj _ _⟩
 case round =>
  obtain⟨m,ts,A,c,hm,rfl,a6,bS,rfl,a0,aO,V⟩:=hrel;have aL:=hid a6;have O:=hid aO;have aK:=hid V;have bD:=hid (bO aO);have a5:w.heap.size+1<=wr.heap.size:=by have:=V.size;simp at this;omega
  have aY:=hid ((V.block w.heap.size (by omega)).trans hB.out);clear a6 aO V
  by_cases hlt:m<16
  ·have t1:(m:Int)<16:=by omega
   obtain⟨x,hx⟩:=aE (k:=m) Hb.out (by omega);have bK:=HC.out _ _ hx;have b8:=HR.out _ _ hx;obtain⟨T,hT⟩:∃ T,mB b (m:Int)=T:=⟨_,rfl⟩;have aF:=hid (aG.out (m:Int));rw[hT]at aF;have aJ:=hid (PJ b m);rw[hT]at aJ;have bW:=hid (aD hx);have b7:=cA (P:=prog) underlying43 hlt (fun W=>by kernel_rfl) (fun W=>by kernel_rfl) bK;clear hx hT;cases T
   ·go_wp2_with (first|(go_at_call 241;refine (aF.out _).mono ?_;rintro e J ⟨rfl,F⟩)|(refine aB rfl 43 (.tmp 1) rfl w.heap.size rfl _ I _ _ aY.out underlying43 rfl HF.out ?_))
    go_roundw
    case rel=>exact⟨m+1,ts,A,c,by omega,by go_num,by rw[aJ.out,<-aL.out];simp,by omega,rfl,a0,cU O.out F,lC aK.out (by simp) F⟩
    case measure=>simp[intOf];omega
   ·go_wp2_with (first|(go_at_call 241;refine (aF.out _).mono ?_;rintro e J ⟨rfl,F⟩;have b1:=cU O.out F;have bV:=aGE a5 F.size)|(at_builtin;refine cF _ rfl (.tmp 14) (.tmp 18) 41 rfl (w.heap.size+1) 156 i0 _ 2 16 underlying41 hi bX bY bZ rfl (by omega) _ ts.length ((ts.map aFU.cells).flatten) rfl (b1.alloc _) (J.heap.size+1) (some ⟨J.heap.size,0,none⟩) 1 1 [.int .i64 m,.int .i64 x] rfl rfl (Row.new J _ _) (by intro u hu;simp at hu;rcases hu with rfl|rfl <;> rfl) (by omega) (by omega) (by simp;omega) ?_;intro A2 cc w2 a3 bP b5 b6)|(refine aB rfl 43 (.tmp 1) rfl w.heap.size rfl _ I _ _ aY.out underlying43 rfl HF.out ?_))
    go_roundw
    case rel =>
     have d:Below (w.heap.size+1) (w.alloc (.cells I 43)) w2:=((lC aK.out (by simp) F).alloc (by omega) _).grown bP (by simp;omega) (fun g h=>bD.out g h);refine⟨m+1,ts++[⟨⟨m,x⟩,by unfold aFP.big;simp only;omega⟩],A2,cc,by omega,by go_num,by rw[aJ.out,<-aL.out,aG2];unfold lR;rw[bW.out];rfl,by simp;omega,by simp,gK a3,?_,d⟩;rw[aGG,aG2,aJP];exact a3
    case measure=>simp[intOf];omega
  ·have bT:m=16:=by omega
   subst bT;have aI:=hid (HS.out ts aL.out);have Hl:=hid (qO (ltOf lD) IX ts);have HQ:=hid (UU lD 243 IX aBu (fun args w=>by kernel_rfl) ts A c (w.heap.size+1) wr (LA NI (by omega) O.out) (by omega));have bQ:=oZ O.out;obtain⟨A',c',he,_,Z⟩:=jK O.out;injection he with bL _ bM
   subst bL bM;clear hlt HS aG HC;have aW:=hid (show (dW (ltOf lD) ts).length=ts.length from qO (ltOf lD) IX ts);generalize dW (ltOf lD) ts=S at *
   obtain⟨n,hn⟩:∃ n,ts.length=n:=⟨_,rfl⟩;rw[hn]at HQ aW bS bQ Z ⊢;have Hn:=hid hn;have bV:=a5;clear hn Hl O;go_wp2_with fail
   refine HQ.out.mono ?_;rintro e J ⟨rfl,a1,F⟩;have bE:=hid (YA NI a1 2);have bC:=hid F;have a2:(S.take 2).length=min n 2:=by rw[aGB,aW.out];omega
   have aT:=hid (show (dW (ltOf lZ) (S.take 2)).length=(S.take 2).length from qO (ltOf lZ) zG (S.take 2));have G:=hid (aB5 lZ 245 zG aDj (fun args w=>by kernel_rfl) (S.take 2) A c (w.heap.size+1) J bE.out (by omega));rw[a2]at G aT;clear a1 F HQ a2;generalize dW (ltOf lZ) (S.take 2)=R at *
   have aZ:(nX b).length=min n 2:=by rw[<-aI.out,aF7];exact aT.out
   have aU:=hid aZ;clear aZ;have aX:∀ w2,kH aFU.cells 2 (w.heap.size+1) w2 A R->Below (w.heap.size+1) J w2->min n 2<=c->J9 w (nX b) (.returned (.slice A (min n 2) c)) w2:=by
    intro w2 z d bR;refine⟨A,c,by rw[aU.out],by rw[aU.out];exact bR,a0,?_,?_,?_⟩
    ·rcases z with h0|⟨g,hg,hB,_⟩
     ·exact .inl (by rw[<-aI.out,h0];rfl)
     ·exact .inr ⟨g,hg,by omega⟩
    ·have:=LC NI z;rw[aCU,aI.out]at this;exact this
    ·exact (aP _ _).trans (((aK.out.trans bC.out).trans d).mono (by omega))
   have Fin:=hid aX;clear aX;rcases A with _|ad
   ·obtain⟨bU,bI⟩:=Z rfl;subst bU bI;rw[show min 0 2=0 by rfl]at G Fin;clear Z;have hm:(min (0:Int) 2).toNat=0:=rfl;go_wp2_with fail
    refine G.out.mono ?_;rintro e w2 ⟨rfl,z,d⟩;have U:=hid (Fin.out w2 z d (by omega));clear z d;go_wp2_with fail
    go_ret
    exact U.out
   ·clear Z
    by_cases h2:n<=2
    ·rw[show min n 2=n by omega]at G Fin;have t1:¬ 2<n:=by omega
     have hm:min (n:Int) 2=(n:Int):=by omega
     go_wp2_with fail
     refine G.out.mono ?_;rintro e w2 ⟨rfl,z,d⟩;have U:=hid (Fin.out w2 z d (by omega));clear z d;go_wp2_with fail
     go_ret
     exact U.out
    ·rw[show min n 2=2 by omega]at G Fin;have t1:2<n:=by omega
     have hm:min (n:Int) 2=2:=by omega
     go_wp2_with fail
     refine G.out.mono ?_;rintro e w2 ⟨rfl,z,d⟩;have U:=hid (Fin.out w2 z d (by omega));clear z d;go_wp2_with fail
     go_ret
     exact U.out
end
def aFz(b:List Int)(k:Nat):Bool:=mB b (k:Int)&&decide (EP b k<=1)
theorem oK{w:World}{B:Nat}{A:Option Addr}{ts:List aFP}(G:Row w B A (aV ts)){k:Nat}{t:aFP}(h:ts[k]? = some t):
  ∃ b off,A=some ⟨b,off,none⟩/\b<B/\w.cell? ⟨b,off+k*2,none⟩=some (.int .i64 t.idx)/\w.cell? ⟨b,off+k*2+1,none⟩=some (.int .i64 t.val):=by
 have U:(aV ts)[k*2+0]? = some (.int .i64 t.idx):=by
  unfold aV;rw[mU 2 (ts.map aFP.cells) (fun I F=>by obtain⟨z,_,rfl⟩:=aGq.1 F;rfl) k 0 (by omega)];simp[h,aFP.cells]
 have h1:(aV ts)[k*2+1]? = some (.int .i64 t.val):=by
  unfold aV;rw[mU 2 (ts.map aFP.cells) (fun I F=>by obtain⟨z,_,rfl⟩:=aGq.1 F;rfl) k 1 (by omega)];simp[h,aFP.cells]
 obtain⟨b,off,hA,hb,V⟩:=G _ _ U;obtain⟨Z,aA,d,_,W⟩:=G _ _ h1;rw[hA]at d;injection d with d
 injection d with J O
 subst J O;exact⟨b,off,hA,hb,by simpa using V,by rw[aG4];exact W⟩
section
open Go.Lib (hid)
open Go.RowKit
def nL(b:List Int)(t:aFP):List Int:=if 0<=t.idx/\t.idx<16 then b.set t.idx.toNat (bgt b t.idx.toNat-t.val) else b
def dH(b:List Int)(ts:List aFP):List Int:=ts.foldl nL b
theorem UD(b:List Int)(t:aFP):(nL b t).length=b.length:=by unfold nL;split <;> simp
theorem tO(b:List Int):∀ (ts:List aFP),(dH b ts).length=b.length:=by
 intro ts;unfold dH
 induction ts generalizing b with
 | nil=>rfl
 | cons t r d=>rw[List.foldl_cons,d,UD]
theorem aBF(b:List Int){ts:List aFP}{m:Nat}{t:aFP}(h:ts[m]? = some t):dH b (ts.take (m+1))=nL (dH b (ts.take m)) t:=by
 obtain⟨hm,rfl⟩:=aGi.1 h;unfold dH;rw[aHG hm,aHt]
 rfl
theorem CY(b:List Int)(ts:List aFP)(A:Option Addr)(cap:Nat)(w:World)(hb:b.length=16)(hl:ts.length<=1000000)(hr:Row w w.heap.size A (aV ts))
 (a9:∀ m,m<=ts.length->BigB (dH b (ts.take m)))(hv:∀ t∈ts,t.big):
  Calls prog 232 #[aR b,.slice A ts.length cap] w fun e w'=>e=.returned (aR (dH b ts))/\Below w.heap.size w w':=by
 unfold aR;obtain⟨n,hn⟩:∃ n,ts.length=n:=⟨_,rfl⟩;have Hr:=hid hr;have a2:=hid a9;have Hv:=hid hv;have Hb:=hid hb;have J:(b.map (Value.int .i64)).toArray.size=16:=by simp[hb]
 have bM:=hid (Blk.new w 43 (b.map (Value.int .i64)));rw[hn]at hl ⊢;have Hn:=hid hn;clear hr a9 hv hb hn;go_enter func232,ntmps232;go_wp2_with fail
 go_loopw [9] (fun i wr=>∃ (m:Nat),m<=n/\i=.int .i64 m/\Blk wr w.heap.size 43 ((dH b (ts.take m)).map (Value.int .i64))/\Blk wr (w.heap.size+1) 43 (List.replicate 16 (.int .i64 0))/\Below w.heap.size w wr) (fun i _=>n-(intOf i).toNat)
 case atStart=>exact⟨0,by omega,rfl,bM.out.alloc _,Blk.new2 w _ 43 (List.replicate 16 (.int .i64 0)),(aP _ _).alloc (by simp) _⟩
 case round =>
  obtain⟨m,hm,rfl,hB,hZ,a8⟩:=hrel;have O:=hid hB;have V:=hid hZ;have z:=hid a8;have aN:=tO b (ts.take m);rw[Hb.out]at aN;have bB:=a2.out m (by rw[Hn.out];exact hm);have HO:=hid (fun (t:aFP) (h:ts[m]? = some t)=>aBF b h);have HL:=hid (show m=n->dH b (ts.take m)=dH b ts from fun h=>by rw[aGW (by rw[Hn.out];omega)]);generalize dH b (ts.take m)=G at *
  have aK:=hid aN;have bT:=hid bB;clear hB hZ a8 aN bB J
  by_cases hlt:m<n
  ·obtain⟨t,ht⟩:=aE (k:=m) Hn.out hlt;have Z:=hid (HO.out t ht);have W:=a2.out (m+1) (by rw[Hn.out];omega);rw[Z.out]at W;have b2:=Hv.out t (aGh ht);obtain⟨g,off,hA,hg,k0,k1⟩:=oK Hr.out ht;have c0:=(z.out.cell (p:=⟨g,off+m*2,none⟩) hg).trans k0;have c1:=(z.out.cell (p:=⟨g,off+m*2+1,none⟩) hg).trans k1;subst hA;obtain⟨d,I⟩:=t;obtain⟨⟨v1,v2⟩,v3,v4⟩:=b2;simp only at c0 c1 v1 v2 v3 v4;clear ht k0 k1
   by_cases hi:0<=d/\d<16
   ·obtain⟨i1,i2⟩:=hi;obtain⟨j,rfl⟩:=aGF i1;have hj:j<16:=by omega
    obtain⟨x,hx⟩:=aE (k:=j) aK.out hj;have cE:=bT.out _ _ hx;have U:=hid (show nL G ⟨(j:Int),I⟩=G.set j (x-I) by
     unfold nL;simp only;rw[FN ⟨i1,i2⟩,Int.toNat_natCast,aD hx])
    rw[U.out]at W;have cC:=W j (x-I) (by rw[aIF (by rw[aK.out];exact hj)]);have cD:IntKind.i64.wrap (x-I)=x-I:=aGl _ (by omega);clear W;have bZ:(G.map (Value.int .i64)).toArray[j]? = some (.int .i64 x):=fG hx;clear hx;have t1:(0:Int)<=(j:Int):=i1;have t2:(j:Int)<16:=i2;have aL:=(O.out.alloc (.cells #[.int .i64 (j:Int),.int .i64 I] 156));have aM:=Blk.new wr 156 [.int .i64 (j:Int),.int .i64 I];have bN:=hid aL;have b9:=hid aM;have b3:=dR aL;have b4:=iX aM;clear aL aM;go_wp2_with fail
    refine aJ 8 (by kernel_rfl) (by kernel_rfl) ?_;simp only[List.take_succ_cons,List.take_zero,aGO,aGR]
    repeat (go_big_quiet_step (fail))
    refine aGv ?_;intro w5 bH;have aG:=aQ bH;have aF:=bN.out.below aG (by have:=O.out.lt;simp;omega);have a7:=(V.out.alloc (.cells #[.int .i64 (j:Int),.int .i64 I] 156)).below aG (by have:=V.out.lt;simp;omega);have bO:=hid aF;have bQ:=hid a7;have bS:=hid (z.out.trans (((aP wr _).trans (aG.mono (by simp))).mono z.out.size));have ce:w5.cell? ⟨w.heap.size,j,none⟩=some (.int .i64 x):=by rw[aF.cell];simpa using bZ
    have fz:=aF.frozen j;clear bH aG b3 b4 aF a7;go_wp2;go_roundw
    case rel =>
     refine⟨m+1,by omega,by go_num,?_,bQ.out.far (by simp) _,bS.out.setCell (by simp) _⟩;rw[Z.out,U.out,aG0];exact bO.out.set_ j _
    case measure=>simp[intOf];omega
   ·have U:=hid (show nL G ⟨d,I⟩=G by unfold nL;simp only;rw[sL hi]);have aT:d<0\/16<=d:=by omega
    clear hi W;rcases aT with aT|aT
    ·have t1:¬ ((0:Int)<=d):=by omega
     have t2:decide ((0:Int)<=d)=false:=aGm t1;go_wp2;go_roundw
     case rel=>exact⟨m+1,by omega,by go_num,by rw[Z.out,U.out];exact O.out.alloc _,V.out.alloc _,z.out.alloc (z.out.size) _⟩
     case measure=>simp[intOf];omega
    ·have t1:(0:Int)<=d:=by omega
     have t2:¬ (d<16):=by omega
     have t3:decide (d<16)=false:=aGm t2;go_wp2;go_roundw
     case rel=>exact⟨m+1,by omega,by go_num,by rw[Z.out,U.out];exact O.out.alloc _,V.out.alloc _,z.out.alloc (z.out.size) _⟩
     case measure=>simp[intOf];omega
  ·have b1:m=n:=by omega
   have bC:=HL.out b1;have hH:=hid (show wr.heap[w.heap.size]? = some (.cells (G.map (Value.int .i64)).toArray 43 (0,0)) from O.out);have a5:=hid (show wr.heap[w.heap.size+1]? = some (.cells (List.replicate 16 (Value.int .i64 0)).toArray 43 (0,0)) from V.out);have J:(G.map (Value.int .i64)).toArray.size=16:=by simp[aK.out]
   have H1:=hid (fE G);obtain⟨F,aS⟩:∃ F,(G.map (Value.int .i64)).toArray=F:=⟨_,rfl⟩;have HE:=hid (show F=((dH b ts).map (Value.int .i64)).toArray by rw[<-bC,aS]);rw[aS]at hH J H1;have HF:=hid (show (prog.info? 43).map (·.size)=some F.size by rw[J];exact bJ);have bV:=hid J;clear bC J HO HL aS;go_wp2_with (first|(refine aB rfl 43 (.tmp 2) rfl w.heap.size rfl _ F _ _ hH.out underlying43 rfl HF.out ?_)|(refine aA rfl 43 (.tmp 4) (.tmp 30) rfl (w.heap.size+1) rfl _ _ F rfl a5.out HF.out (by rw[bV.out];simp) H1.out ?_))
   refine aGk (v:=.agg F) (aG9 results232 _ _ (w.heap.size+1) 43 F (0,0) _ rfl (bA wr _ _ _ F a5.out) underlying43 rfl HF.out) rfl ?_;exact⟨by rw[HE.out],aO z.out _ (by omega) _⟩
end
end Go.Proofs.YtbpgfkjhclpbdaaGreatDoor
