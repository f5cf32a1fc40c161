/- BankA, BankB. Conditions: as each theorem states. -/
import Derived.Lib.BufferOwn
import Derived.Test.YtbpgfkjhclpbdaaGreatDoorPw30
set_option maxRecDepth 100000
set_option maxHeartbeats 4000000
namespace Go.Proofs.YtbpgfkjhclpbdaaGreatDoor
abbrev aHi:=@Go.Lib.grownBy_trans
abbrev aHI:=@Go.Lib.grownBy_setB
abbrev aH4:=@Go.Lib.grownBy_below
open Tryz
open Go.RowKit Go.Lib
section
open Go.Lib (hid)
open Go.RowKit
def i7(c:Int):Nat->Int
 | 0=>c
 | m+1=>if bits .and .u32 (i7 c m) 1=1 then bits .xor .u32 (i7 c m / 2) 3988292384 else i7 c m / 2
def NZ(c:Int):Int:=i7 c 8
theorem JD(a b:Int):0<=bits .xor .u32 a b/\bits .xor .u32 a b<4294967296:=by
 show 0<=IntKind.u32.wrap _/\IntKind.u32.wrap _<_;rw[aJE];omega
theorem aE4(a b:Int):0<=bits .xor .u8 a b/\bits .xor .u8 a b<256:=by
 show 0<=IntKind.u8.wrap _/\IntKind.u8.wrap _<_;rw[aJF];omega
theorem FO{c:Int}(h:0<=c/\c<4294967296):∀ m,0<=i7 c m/\i7 c m<4294967296
 | 0=>h
 | m+1=>by
  have d:=FO h m;unfold i7;split
  ·exact JD _ _
  ·omega
theorem NR(c:Int)(w:World)(O:0<=c/\c<256):Calls prog 110 #[.int .u8 c] w fun e w'=>e=.returned (.int .u32 (NZ c))/\w=w':=by
 have t:=hid (fun m=>FO (c:=c) (by omega) m);have z:=hid (fun m=>(show i7 c (m+1)=if bits .and .u32 (i7 c m) 1=1 then bits .xor .u32 (i7 c m / 2) 3988292384 else i7 c m / 2 from rfl));have h:=hid (show NZ c=i7 c 8 from rfl);have U:IntKind.u32.wrap c=c:=by rw[aJE];omega
 go_enter func110,ntmps110;go_wp2;go_loopw [3,6] (fun x i wr=>∃ m:Nat,m<=8/\i=.int .i64 m/\x=.int .u32 (i7 c m)/\w=wr) (fun _ i _=>8-(intOf i).toNat)
 case atStart=>exact⟨0,by omega,rfl,rfl,rfl⟩
 case round =>
  obtain⟨m,hm,rfl,rfl,rfl⟩:=hrel
  by_cases hlt:m<8
  ·have G:(m:Int)<8:=by omega
   have d:=hid (z.out m);have J:=t.out m;generalize i7 c m=x at *
   by_cases h1:bits .and .u32 x 1=1
   ·have I:(bits .and .u32 x 1 == 1)=true:=by rw[h1];rfl
    rw[FN h1]at d;clear h1;go_wp2;go_roundw
    case rel=>exact⟨m+1,by omega,by go_num,by rw[d.out],trivial⟩
    case measure=>simp[intOf];omega
   ·have I:(bits .and .u32 x 1 == 1)=false:=aG8.2 h1;rw[sL h1]at d;clear h1;go_wp2;go_roundw
    case rel=>exact⟨m+1,by omega,by go_num,by rw[d.out],trivial⟩
    case measure=>simp[intOf];omega
  ·have F:m=8:=by omega
   subst F;have G:¬ (((8:Nat):Int)<8):=by omega
   go_wp2
   go_ret
   exact⟨by rw[h.out];rfl,rfl⟩
def pR(l:List Nat):Nat->Int
 | 0=>4294967295
 | m+1=>bits .xor .u32 (NZ (bits .xor .u8 (IntKind.u8.wrap (pR l m)) ((l.getD m 0:Nat):Int))) (pR l m / 256)
def l6(l:List Nat):Int:=bits .xor .u32 (-1) (pR l l.length)
theorem aCV(l:List Nat):∀ m,0<=pR l m/\pR l m<4294967296
 | 0=>by unfold pR;omega
 | m+1=>by unfold pR;exact JD _ _
theorem uD(l:List Nat):0<=l6 l/\l6 l<4294967296:=JD _ _
theorem rC(l:List Nat)(A:Option Addr)(cap:Nat)(w:World)(hl:l.length<=1000000000)(I:Row w w.heap.size A (u8s l)):
  Calls prog 68 #[.slice A l.length cap] w fun e w'=>e=.returned (.int .u32 (l6 l))/\w=w':=by
 have O:=hid (aCV l);have Z:=hid (fun m=>(show pR l (m+1)=bits .xor .u32 (NZ (bits .xor .u8 (IntKind.u8.wrap (pR l m)) ((l.getD m 0:Nat):Int))) (pR l m / 256) from rfl));have F:=hid (show l6 l=bits .xor .u32 (-1) (pR l l.length) from rfl);have U:=hid (fun c W (h:0<=c/\c<256)=>NR c W h);have Hr:=hid I;obtain⟨n,t⟩:∃ n,l.length=n:=⟨_,rfl⟩;rw[t]at hl F ⊢;have Hn:=hid t;clear I t;go_enter func68,ntmps68;go_wp2;go_loopw [3,8] (fun x i wr=>∃ m:Nat,m<=n/\i=.int .i64 m/\x=.int .u32 (pR l m)/\w=wr) (fun _ i _=>n-(intOf i).toNat)
 case atStart=>exact⟨0,by omega,rfl,rfl,rfl⟩
 case round =>
  obtain⟨m,hm,rfl,rfl,rfl⟩:=hrel
  by_cases hlt:m<n
  ·have t1:(m:Int)<(n:Int):=by omega
   have t2:(0:Int)<=(m:Int):=by omega
   obtain⟨y,z⟩:=aE (k:=m) Hn.out hlt;have J:l.getD m 0=y:=by rw[aGz,z];rfl
   have d:=Z.out m;rw[J]at d;obtain⟨b,off,rfl,hb,hc⟩:=Hr.out m (.int .u8 y) (by unfold u8s;rw[aF5,z];rfl);have aH:=O.out m;generalize pR l m=x at *
   have aC:=hid d;have G:=aE4 (IntKind.u8.wrap x) (y:Int);have V:=hid (fun W=>U.out _ W G);clear z J d hb G;go_wp2_with (go_at_call 110;refine (V.out _).mono ?_;rintro e w2 ⟨rfl,rfl⟩)
   go_roundw
   case rel=>exact⟨m+1,by omega,by go_num,by rw[aC.out,aJF],trivial⟩
   case measure=>simp[intOf];omega
  ·have aF:m=n:=by omega
   subst aF;have t1:¬ ((m:Int)<(m:Int)):=by omega
   go_wp2
   go_ret
   exact⟨by rw[F.out];rfl,rfl⟩
end
theorem aE1(l:List Nat)(i x:Nat):u8s (l.set i x)=(u8s l).set i (.int .u8 (x:Int)):=by simp[u8s,List.map_set]
theorem YX{xs bs:List Nat}{o m x:Nat}(h:xs[m]? = some x)(hb:o+xs.length<=bs.length):(aW bs o (xs.take m)).set (o+m) x=aW bs o (xs.take (m+1)):=by
 have hm:=(aGi.1 h).1;have h1:(xs.take m).length=m:=by rw[aGB];omega
 have h2:(xs.take (m+1)).length=m+1:=by rw[aGB];omega
 refine aGL fun i=>?_
 rw[aHu,mF (by omega),mF (by omega),dG (by omega),h1,h2]
 by_cases d:o+m=i
 ·subst d;rw[FN rfl,FN (by omega),FN (by omega),aIG (by omega),show o+m-o=m by omega,h]
 ·rw[sL d]
  by_cases t:o<=i/\i<o+m
  ·rw[FN t,FN (by omega),aIG (by omega),aIG (by omega)]
  ·rw[sL t,sL (by omega)]
def cY(size v:Nat):List Nat:=(List.range size).map fun i=>v / 2 ^ (8*(size-1-i)) % 256
theorem bG(size v:Nat):(cY size v).length=size:=by simp[cY]
theorem T0{size v i:Nat}(h:i<size):(cY size v)[i]? = some (v / 2 ^ (8*(size-1-i)) % 256):=by
 unfold cY;rw[aF5,aHa h];rfl
def BytesAt(w:World)(g:Nat)(bs:List Nat):Prop:=Blk w g 5 (u8s bs)
theorem BytesAt.cell{w:World}{g:Nat}{bs:List Nat}(h:BytesAt w g bs){i x:Nat}(d:bs[i]? = some x):w.cell? ⟨g,i,none⟩=some (.int .u8 (x:Int)):=by
 rw[aH h];exact eL d
theorem BytesAt.put{w:World}{g:Nat}{bs:List Nat}(h:BytesAt w g bs)(i x:Nat):BytesAt (w.setCell ⟨g,i,none⟩ (.int .u8 (x:Int))) g (bs.set i x):=by
 unfold BytesAt;rw[aE1];exact Blk.set_ h i _
def iJ(w:World)(g:Nat)(bs:List Nat)(e:Ending)(w':World):Prop:=e=.returned (.tuple #[])/\BytesAt w' g bs/\w.grownBy w' (some g)
theorem wR(bs:List Nat)(g off n cap at_ size v:Nat)(w:World)(hb:BytesAt w g bs)(hn:off+n<=bs.length)(ha:at_+size<=n)(hl:n<=1000000000)(hs:size<=4):
  Calls prog 148 #[.slice (some ⟨g,off,none⟩) n cap,.int .i64 at_,.int .i64 size,.int .i64 v] w (iJ w g (aW bs (off+at_) (cY size v))):=by
 unfold iJ;have Hb:=hid hb;have HP:=hid (fun m x (h:(cY size v)[m]? = some x)=>YX (o:=off+at_) (bs:=bs) h (by rw[bG];omega));have Z:=hid (fun i (h:i<size)=>T0 (v:=v) h);have F:=hid (bG size v);have U:=hid (show aW bs (off+at_) ((cY size v).take 0)=bs by simp[aW]);have HX:=hid (show (cY size v).take size=cY size v from aGW (by rw[F.out];exact LE _));have W:=hid (fun m (h:m<size)=>(show ∃ y,(aW bs (off+at_) ((cY size v).take m))[off+at_+m]? = some y from by
  have h1:((cY size v).take m).length=m:=by rw[aGB,F.out];omega
  refine⟨_,TT ?_⟩;rw[dG (by rw[h1];omega)];omega))
 generalize cY size v=X at *
 clear hb hn;go_enter func148,ntmps148;go_wp2;go_loopw [10] (fun i wr=>∃ m:Nat,m<=size/\i=.int .i64 m/\BytesAt wr g (aW bs (off+at_) (X.take m))/\w.grownBy wr (some g)) (fun i _=>size-(intOf i).toNat)
 case atStart=>exact⟨0,by omega,rfl,by rw[U.out];exact Hb.out,aG1 _ _⟩
 case round =>
  obtain⟨m,hm,rfl,J,O⟩:=hrel;have d:=hid J;have I:=hid O;clear J O
  by_cases hlt:m<size
  ·have t1:(m:Int)<(size:Int):=by omega
   obtain⟨y,z⟩:=W.out m hlt;rw[aG4]at z;have c1:=d.out.cell z;have y1:=mP d.out;obtain⟨r,hr⟩:∃ r,size-1-m=r:=⟨_,rfl⟩;have aM:(size:Int)-1-(m:Int)=(r:Int):=by omega
   have G:=hid (Z.out m hlt);rw[hr]at G;have aN:r<=3:=by omega
   have aB:=hid (HP.out m _ G.out);have aC:=hid (d.out.put (off+(at_+m)) (v / 2 ^ (8*r) % 256));clear z;go_wp2;go_roundw
   case rel =>
    refine⟨m+1,by omega,by go_num,?_,aHI I.out _ _⟩;have h1:=aC.out;rw[<-Nat.add_assoc,aB.out]at h1;have e1:((v / 2 ^ (8*r) % 256:Nat):Int)=(v:Int) / 2 ^ (8*r) % 256:=by push_cast;rfl
    rw[e1,aG4]at h1;exact h1
   case measure=>simp[intOf];omega
  ·have aG:m=size:=by omega
   subst aG;have t1:¬ ((m:Int)<(m:Int)):=by omega
   have t:=d.out;rw[HX.out]at t;have V:=hid t;clear t;go_wp2;refine aHN (v:=.tuple #[]) (aHJ results148 _ _ _) rfl ?_;exact⟨rfl,V.out,I.out⟩
end Go.Proofs.YtbpgfkjhclpbdaaGreatDoor
