/- CodeD. Conditions: as each theorem states. -/
import Derived.Test.YtbpgfkjhclpbdaaGreatDoorPw15
namespace Go.Proofs.YtbpgfkjhclpbdaaGreatDoor
open Tryz
open Go.Lib (hid)
open Go.RowKit
def I4(xs d:List Int)(o k:Nat):List Int:=(List.range 8).map fun j=>if j<k then unA (bgt xs j) (bgt d (o+j)) (bD j) else bgt xs j
def I5(xs d:List Int)(o k:Nat):List Int:=(List.range d.length).map fun j=>if o<=j/\j<o+k then unB (bgt xs (j-o)) (bgt d j) (bD (j-o)) else bgt d j
theorem aCi{xs:List Int}(d:List Int)(o:Nat)(h:xs.length=8):I4 xs d o 0=xs:=by
 refine aHH ?_ (dV h).symm;unfold I4;apply aGZ;intro j _;rw[sL (by omega)]
theorem aCk(xs d:List Int)(o:Nat):I5 xs d o 0=d:=by
 refine aHH ?_ (dV (n:=d.length) rfl).symm;unfold I5;apply aGZ;intro j _;rw[sL (by omega)]
theorem aCh(xs d:List Int)(o:Nat){k:Nat}(hk:k<8):(I4 xs d o k).set k (unA (bgt xs k) (bgt d (o+k)) (bD k))=I4 xs d o (k+1):=by
 refine cK _ (fun j=>if j<k+1 then unA (bgt xs j) (bgt d (o+j)) (bD j) else bgt xs j) hk ?_ (fun i hi=>?_)
 ·rw[FN (by omega)]
 ·by_cases h:i<k
  ·rw[FN h,FN (by omega)]
  ·rw[sL h,sL (by omega)]
theorem aCj(xs d:List Int)(o:Nat){k:Nat}(hk:o+k<d.length):(I5 xs d o k).set (o+k) (unB (bgt xs k) (bgt d (o+k)) (bD k))=I5 xs d o (k+1):=by
 refine cK _ (fun j=>if o<=j/\j<o+(k+1) then unB (bgt xs (j-o)) (bgt d j) (bD (j-o)) else bgt d j) hk ?_ (fun i hi=>?_)
 ·rw[FN (by omega),show o+k-o=k by omega]
 ·by_cases h:o<=i/\i<o+k
  ·rw[FN h,FN (by omega)]
  ·rw[sL h,sL (by omega)]
theorem aD6{xs:List Int}(h:List Int)(o:Nat){k:Nat}{x:Int}(hk:k<8)(d:xs[k]? = some x):(I4 xs h o k)[k]? = some x:=by
 unfold I4;rw[aI _ hk,sL (by omega),aD d]
theorem aD7(xs:List Int){h:List Int}{o k:Nat}{x:Int}(d:h[o+k]? = some x):(I5 xs h o k)[o+k]? = some x:=by
 have hk:=(aGi.1 d).1;unfold I5;rw[aI _ hk,sL (by omega),aD d]
def VW(W:World)(d h:Nat)(z F:TypeId)(xs t:List Int)(o:Nat)(e:Ending)(w':World):Prop :=
 e=.returned (.tuple #[])/\Blk w' d z ((I4 xs t o 8).map (.int .i64))/\Blk w' h F ((I5 xs t o 8).map (.int .i64))/\∀ B,B<=d->B<=h->B<=W.heap.size->Below B W w'
set_option maxRecDepth 100000 in
set_option maxHeartbeats 8000000 in
theorem JE(xs d:List Int)(h t o ca cb:Nat)(ta tb:TypeId)(w:World)(hx:xs.length=8)(hz:o+8<=d.length)(a2:h≠t)(ha:Blk w h ta (xs.map (.int .i64)))(hb:Blk w t tb (d.map (.int .i64)))
 (a4:∀ k,k<8->cI (bgt xs k))(a6:∀ k,k<8->cI (bgt d (o+k))):
  Calls prog 187 #[.agg bH,.slice (some ⟨h,0,none⟩) 8 ca,.slice (some ⟨t,o,none⟩) 8 cb] w (VW w h t ta tb xs d o):=by
 unfold VW;have Hx:=hid hx;have Hz:=hid hz;have bE:=hid a4;have bF:=hid a6;have bB:=hid (fun k (hk:k<8)=>I3 hk);have bX:=ha.lt;have bY:=hb.lt;have aU:=hid (ha.alloc (.cells bH 87));have aV:=hid (hb.alloc (.cells bH 87));generalize bH=tv at *
 have HM:=hid (LT w (.cells tv 87));have bZ:∀ W,(Builtin.min_ #[3,3,3] 3 #[.int .i64 8,.int .i64 8,.int .i64 8]).run prog W=.ok (.int .i64 8) W:=fun W=>by simp[Builtin.min_,Builtin.min2]
 clear hx hz a4 a6 ha hb;go_enter func187,ntmps187;go_wp2;go_loopw [12] (fun i wr=>∃ m:Nat,m<=8/\i=.int .i64 m/\Blk wr h ta ((I4 xs d o m).map (.int .i64))/\Blk wr t tb ((I5 xs d o m).map (.int .i64))/\wr.heap[w.heap.size]? = some (.cells tv 87 (0,0))/\∀ B,B<=h->B<=t->B<=w.heap.size->Below B w wr) (fun i _=>8-(intOf i).toNat)
 case atStart=>exact⟨0,by omega,rfl,by rw[aCi d o Hx.out];exact aU.out,by rw[aCk];exact aV.out,HM.out,fun B _ _ F=>(aP w _).mono F⟩
 case round =>
  obtain⟨m,hm,rfl,hA,V,I,a1⟩:=hrel;have HA:=hid hA;have HB:=hid V;have bA:=hid I;have aI:=hid a1;clear aU aV HM a1
  by_cases G:m<8
  ·have t1:(m:Int)<8:=by omega
   obtain⟨x,O⟩:=aE (k:=m) Hx.out G;obtain⟨z,U⟩:=aE (k:=o+m) (b:=d) rfl (by have:=Hz.out;omega);have tx:=bE.out m G;have tz:=bF.out m G;rw[aD O]at tx;rw[aD U]at tz;have aX:=hid (show (I4 xs d o m).set m (unA x z (bD m))=I4 xs d o (m+1) by rw[<-aCh xs d o G,aD O,aD U]);have aY:=hid (show (I5 xs d o m).set (o+m) (unB x z (bD m))=I5 xs d o (m+1) by rw[<-aCj xs d o (by have:=Hz.out;omega),aD O,aD U]);have aN:((I4 xs d o m).map (Value.int .i64))[m]? = some (.int .i64 x):=by rw[aF5,aD6 d o G O];rfl
   have aO:((I5 xs d o m).map (Value.int .i64))[o+m]? = some (.int .i64 z):=by rw[aF5,aD7 xs U];rfl
   obtain⟨hp,hu⟩:=bB.out m G;have HT:=hid (fun W=>iC x z (bD m) W (iO G) tx tz);generalize bD m=tk at *
   obtain⟨p,u⟩:=tk;simp only at hp hu HT;obtain⟨X,hX⟩:∃ X,unA x z ⟨p,u⟩=X:=⟨_,rfl⟩;obtain⟨Z,hZ⟩:∃ Z,unB x z ⟨p,u⟩=Z:=⟨_,rfl⟩;rw[hX,hZ]at HT;rw[hX]at aX;rw[hZ]at aY;have x6:=(hA.cell m).trans aN;have z6:=(V.cell (o+m)).trans aO;have p6:=(aGo wr w.heap.size (m*2) _ _ _ I).trans hp;have u6:=(aGo wr w.heap.size (m*2+1) _ _ _ I).trans hu;have x5:=fun (v:GW wr)=>(iX hA v m).trans aN
   have z5:=fun (v:GW wr)=>(iX V v (o+m)).trans aO
   have p5:=fun (v:GW wr)=>(dR I v (m*2)).trans hp
   have u5:=fun (v:GW wr)=>(dR I v (m*2+1)).trans hu
   clear O U tx tz hp hu hX hZ hA V I;go_wp2_with fail
   go_region_with ((go_at_call 124;refine (HT.out _).mono ?_;rintro e w5 ⟨rfl,J⟩;have hA5:=HA.out.drew.below J HA.out.lt;have aK:=HB.out.drew.below J HB.out.lt;have a8:=hid hA5;have bS:=hid aK;have ce:w5.cell? ⟨h,m,none⟩=some (.int .i64 x):=(by rw[hA5.cell];exact aN);have fz:=hA5.frozen m;have S1:=hid (aK.far (p:=⟨h,m,none⟩) (aHr a2) (.int .i64 X));have bU:(w5.setCell ⟨h,m,none⟩ (.int .i64 X)).cell? ⟨t,o+m,none⟩=some (.int .i64 z):=(by rw[S1.out.cell];exact aO);have bW:=S1.out.frozen (o+m);have a9:=hid (aF (w:=wr.drew) (show wr.drew.heap[w.heap.size]? = _ from bA.out) J);have bC:=hid (fun B h1 h2 F=>(aI.out B h1 h2 F).trans ((show Below B wr wr.drew from aHY (aGj _ _) 1).trans (J.mono (aGE F ((aI.out B h1 h2 F).size)))));clear hA5 aK J))
   all_goals
    clear x5 z5 p5 u5 x6 z6 p6 u6;go_wp2;go_roundw
    case rel =>
     refine⟨m+1,by omega,by go_num,?_,?_,(aHm _ _ _ _ (by simp;omega)).trans ((aHm _ _ _ _ (by simp;omega)).trans a9.out),fun B h1 h2 F=>((bC.out B h1 h2 F).setCell (by simpa using h1) _).setCell (by simpa using h2) _⟩
     ·rw[<-aX.out,aG0];exact (a8.out.set_ m _).far (by simpa using a2) _
     ·rw[<-aY.out,aG0];exact S1.out.set_ (o+m) _
    case measure=>simp[intOf];omega
  ·have bJ:m=8:=by omega
   subst bJ;have t1:¬ (((8:Nat):Int)<8):=by omega
   go_wp2;refine aHN (v:=.tuple #[]) (aHJ results187 _ _ _) rfl ?_;exact⟨rfl,HA.out,HB.out,aI.out⟩
end Go.Proofs.YtbpgfkjhclpbdaaGreatDoor
