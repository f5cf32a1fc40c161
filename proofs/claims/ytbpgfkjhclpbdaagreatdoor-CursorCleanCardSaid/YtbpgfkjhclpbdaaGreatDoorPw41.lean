/- WrF. Conditions: as each theorem states. -/
import Derived.Test.YtbpgfkjhclpbdaaGreatDoorPw15
import Derived.Test.YtbpgfkjhclpbdaaGreatDoorPw22
import Derived.Test.YtbpgfkjhclpbdaaGreatDoorPw24
import Derived.Test.YtbpgfkjhclpbdaaGreatDoorPw29
namespace Go.Proofs.YtbpgfkjhclpbdaaGreatDoor
open Tryz
open Go.Lib (hid)
open Go.RowKit
theorem eA{f:aFJ}(h:aFQ f){size:Nat}(t:gH f<=8*(size:Int)):(aM f size).length=size:=by
 have d:=wI h;unfold aM;rw[aGG,iS,aHQ];omega
def kJ(size:Nat)(fs:List aFJ):List Nat:=(fs.map fun f=>aM f size).flatten
theorem QU(size:Nat)(fs:List aFJ)(f:aFJ):kJ size (fs++[f])=kJ size fs++aM f size:=by simp[kJ]
theorem wD{size:Nat}:∀ (fs:List aFJ),(∀ f∈fs,aFQ f/\gH f<=8*(size:Int))->(kJ size fs).length=fs.length*size
 | [],_=>by simp[kJ]
 | f::r,h=>by
  have h1:=h f (by simp);have:=wD r (fun x d=>h x (by simp[d]));unfold kJ at *
  rw[aHF,List.flatten_cons,aGG,this,eA h1.1 h1.2,List.length_cons,aHb];omega
theorem aE0(a b:List Nat):u8s (a++b)=u8s a++u8s b:=by simp[u8s]
theorem WS(size:Int):(jG size)[32]? = some (.int .i64 size):=by kernel_rfl
def VU(W:World)(B:List Nat)(e:Ending)(w':World):Prop :=
 ∃ A c,e=.returned (.tuple #[.slice A B.length c,.int .i64 0])/\B.length<=c/\c<=9223372036854775807/\Row w' w'.heap.size A (u8s B)/\Below W.heap.size W w'/\∀ ad,A=some ad->W.heap.size<=ad.block
theorem aBG{w:World}{base:Nat}{e:TypeId}{size n c:Nat}{A:Option Addr}{xs:List Value}(h:w.ownsRow base e size (.slice A n c) n xs):∀ ad,A=some ad->base<=ad.block:=by
 rcases h.2 with ⟨h1,_⟩|⟨g,cap,d,h1,hb,_⟩
 ·injection h1 with h1
  subst h1;exact nofun
 ·injection h1 with h1
  subst h1;intro ad h;injection h with h
  subst h;exact hb
set_option maxRecDepth 100000 in
set_option maxHeartbeats 8000000 in
theorem MW(gc size:Nat)(L:List (FrH × aFJ))(A:Option Addr)(cap:Nat)(w:World)(hg:CoderAt w gc size)(hs:size<=96)(hc:L.length<=100000)(hA:aF0 w A L)(hR:∀ p∈L,aFQ p.2/\gH p.2<=8*(size:Int)):
  Calls prog 146 #[.pointer (some ⟨gc,0,none⟩),.slice A L.length cap] w (VU w (kJ size (L.map Prod.snd))):=by
 obtain⟨i0,hi,b5,b6,b7⟩:=aHx tF;have aU:∀ f∈L.map Prod.snd,aFQ f/\gH f<=8*(size:Int):=fun f hf=>by
  obtain⟨p,z,rfl⟩:=aGq.1 hf;exact hR p z
 have cB:=hid (fun m=>(show (kJ size ((L.take m).map Prod.snd)).length=(L.take m).length*size from by
  rw[wD _ (fun f hf=>by
   obtain⟨p,z,rfl⟩:=aGq.1 hf;exact hR p (aIJ z)),aF7]))
 obtain⟨c,Z⟩:∃ c,L.length=c:=⟨_,rfl⟩;have bD:=hid (show (kJ size (L.map Prod.snd)).length=c*size by rw[wD _ aU,aF7,Z]);have aN:=hid Z;rw[Z]at hc ⊢;have HA:=hid hA;have HR:=hid hR;have Hg:=hid hg;have bF:=hid (WS (size:Int));have bH:=hid (fun (p:FrH × aFJ) W (h:aFQ p.2/\gH p.2<=8*(size:Int)) (r:Row W W.heap.size p.1.a (aV p.2.tones))=>(show Calls prog 178 #[.agg (frC p).toArray,.int .i64 size] W (J3 W p.2 size) from aAH p.2 p.1.a p.1.c size W h.1 r h.2 (by omega)));unfold CoderAt at Hg;generalize jG (size:Int)=cv at *
 clear hA hR hg aU Z;go_enter func146,ntmps146;go_wp2_with fail
 go_loopw [6,15] (fun o i wr=>∃ (m k:Nat) (V:Option Addr) (G:Nat),m<=c/\k=m*size/\i=.int .i64 m/\o=.slice V k G/\G<=9223372036854775807/\wr.ownsRow w.heap.size 5 1 (.slice V k G) k (u8s (kJ size ((L.take m).map Prod.snd)))/\Below w.heap.size w wr) (fun _ i _=>c-(intOf i).toNat)
 case atStart=>exact⟨0,0,none,0,by omega,by omega,rfl,rfl,by omega,aHc _ _ _ _,aGj _ _⟩
 case round =>
  obtain⟨m,k,V,G,hm,hk,rfl,rfl,aZ,aG,aX⟩:=hrel;have aT:=hid aG;have F:=hid aX;have bR:=hid (bO aG);have bN:=hid aZ;have Hk:=hid hk;clear aG aX aZ hk
  by_cases b1:m<c
  ·have t1:(m:Int)<(c:Int):=by omega
   have t2:(0:Int)<=(m:Int):=by omega
   obtain⟨p,z⟩:=aE (k:=m) aN.out b1;have aD:=aGh z;have J:=HR.out p aD;have a5:=(HA.out.tones p aD).later F.out;have bM:=hid (show kJ size ((L.take (m+1)).map Prod.snd)=kJ size ((L.take m).map Prod.snd)++aM p.2 size by
    obtain⟨b2,rfl⟩:=aGi.1 z;rw[aHG b2,aG2];exact QU _ _ _)
   have bE:=hid (eA J.1 J.2);obtain⟨b,off,rfl,hb,a0⟩:=FY HA.out z;have FX:=hid (fun j v (U:(frC p)[j]? = some v)=>(show wr.cell? ⟨b,off+m*29+j,none⟩=some v from (F.out.cell (p:=⟨b,off+m*29+j,none⟩) hb).trans (a0 j v U)));have I:(frC p).length=29:=jT J.1.len;have bP:=hid (show (frC p).toArray.all (·.oneCell')=true by
    rw[aGY];intro v U;exact lH p v (by simpa using U))
   have HQ:=hid (fun W (hW:Below wr.heap.size wr W)=>bH.out p W J (a5.later hW).2.2);have cC:=hid I;have cD:=hid (lH p);have a2:k+size=(m+1)*size:=by rw[Hk.out,aHb]
   have cJ:k+size<=10000000:=by
    have:(m+1)*size<=100000*96:=Nat.mul_le_mul (by omega) hs;omega
   generalize frC p=t at *
   have bI:=hid (show (prog.info? 45).map (·.size)=some t.length by rw[I];exact bZ);have aK:=hid (show (prog.info? 45).map (·.size)=some t.toArray.size by rw[aGH,I];exact bZ);have bQ:=hid (show t.toArray.size=29 by rw[aGH,I]);have HN:=hid (LT wr (.cells t.toArray 45));have EV:=hid (aP wr (.cells t.toArray 45));have Cg:=hid (aF Hg.out (aC F.out EV.out));have bS:=hid a2;clear z aD J a5 a0 I a2;go_wp2_with (first|(refine aL rfl 45 (.tmp 17) rfl b (off+m*29) rfl t _ FX.out underlying45 rfl bI.out ?_)|(refine aA rfl 45 (.tmp 8) (.tmp 18) rfl wr.heap.size rfl _ _ t.toArray rfl (LT wr _) aK.out (by rw[bQ.out];rfl) bP.out ?_;rw[aGT]))
   have x5:=eW HN.out;have z5:=eW Cg.out;have u5:=fun (x:GW (wr.alloc (.cells t.toArray 45)))=>(show x.1.cell? ⟨gc,32,none⟩=some (.int .i64 size) from (aGo _ _ _ _ _ _ (z5 _ ⟨x,rfl⟩)).trans bF.out)
   refine JC 5 (by kernel_rfl) rfl (by kernel_rfl) rfl rfl rfl (fun c a' w' d v h=>by cases d <;> exact h) ?_;simp only[List.take_succ_cons,List.take_zero];simp only[Act.put]
   repeat (first|(go_big_quiet_want;refine bT 45 (.tmp 8) rfl wr.heap.size rfl _ t.toArray _ _ x5 underlying45 rfl aK.out ?_;go_simp;go_big_quiet_on)|go_big_quiet_step (fail))
   refine aGv ?_;intro w5 a6;have F5:=hid (aC EV.out (aQ a6));clear a6 x5 z5 u5;go_wp2_with (go_at_call 178;fail)
   refine (HQ.out _ F5.out).mono ?_;rintro e w6 ⟨gB,rfl,bY,aY,aW⟩;have E6:=hid (aC F5.out aW);have O6:=hid (cU aT.out E6.out);have B6:=hid aY;have cK:=E6.out.size;have cL:=F.out.size;clear aY aW bY;go_wp2_with (at_builtin;refine cF _ rfl (.tmp 31) (.tmp 32) 32 rfl w.heap.size 5 i0 (.int .u8 0) 1 1 underlying32 hi b5 b6 b7 rfl (by omega) _ k _ rfl O6.out (gB+1) (some ⟨gB,0,none⟩) size size (u8s (aM p.2 size)) rfl (by rw[jW,bE.out];omega) (fun i v U=>⟨gB,0,rfl,by omega,by rw[aGn];exact (aGo _ _ _ _ _ _ B6.out).trans (by simpa using U)⟩) (rY _) (by omega) (by omega) (by omega) ?_;intro A2 c2 w7 a4 b0 cH cI)
   go_roundw
   case rel =>
    have bW:Below w.heap.size w w7:=(aC F.out E6.out).grown b0 (by omega) (fun g h=>bR.out g h);exact⟨m+1,k+size,A2,c2,by omega,bS.out,by go_num,rfl,gK a4,by rw[bM.out,aE0];exact a4,bW⟩
   case measure=>simp[intOf];omega
  ·have b3:m=c:=by omega
   have t1:¬ ((m:Int)<(c:Int)):=by omega
   subst b3;have HE:=hid (show L.take m=L from aGW (by rw[aN.out];exact LE _));have a3:(kJ size (L.map Prod.snd)).length=k:=by rw[bD.out,Hk.out]
   have aS:=hid a3;clear a3;go_wp2;refine aGk (aGN results146 _ _ _) rfl ?_;have O:=aT.out;rw[HE.out]at O;exact⟨V,G,by rw[aS.out];rfl,by rw[aS.out];exact oZ O,bN.out,Row.of_own O,F.out,aBG O⟩
end Go.Proofs.YtbpgfkjhclpbdaaGreatDoor
