/- NetA, NetB, CalmF, CalmG, CalmH, CalmI. Conditions: as each theorem states. -/
import Derived.RangeFuncNested
import Derived.RangeFuncBound
import Derived.RangeFuncCalls
import Derived.RangeFuncLeaves
import Derived.RangeFuncFrom
import Derived.Shelf.Abstract
import Derived.Shelf.RegionOpen
import Derived.OwnWalkIn
import Derived.TacticsInMore
import Derived.LoopNIn
import Derived.LoopIn
import Derived.LoopN
import Derived.Test.YtbpgfkjhclpbdaaGreatDoorPw06
namespace Go.Proofs.YtbpgfkjhclpbdaaGreatDoor
abbrev aHn:=@Go.World.putObj_heap_other
abbrev aIe:=@Go.wpIn_rangeFunc_ownH
abbrev aJe:=@Go.run_takeDeferred
open Tryz
open Go.RowKit
section
section
variable {P : Program} {ops : Array Oper} {md : Region.Mode} {Q : Exit → Act → World → Prop} {l n : Nat}
theorem PU{o:Oper}{a:Act}{w:World}{K:Act->World->Prop}(z:∀ c,o.op≠.defer c)(h:o.wp P a w K Q):o.wpIn (Fence.wide.inRound l) n P a w K Q:=by
 refine⟨fun _ _=>trivial,?_⟩;rw[Oper.semAt_plain _ _ _ z];unfold Oper.wp at h;generalize (execOp a.eval o).run P w=r at h;cases r with
 | ok x w' =>
  cases x with
  | value v=>exact h
  | skip=>exact h
  | defer d=>exact h
  | enter f args =>
   refine⟨fun h=>(by cases h),?_⟩;have h2:=CallsIn.inRound l ((aJd (n:=n-1)).2 h);exact h2.mono fun e F he=>(by cases e <;> exact he)
  | row row args =>
   refine⟨fun h=>(by cases h),fun c t _=>?_⟩;obtain⟨v,w',r,s⟩:=h c t;exact⟨v,w',r,stepsIn_wide.2 s⟩
  | _=>exact h.elim
 | halt x w'=>cases x <;> exact h
def DU(ops:Array Oper):Bool:=ops.toList.all fun o=>match o.op with | .defer _=>false|_=>true
theorem YM{i:Nat}{o:Oper}(t:DU ops=true)(h:ops[i]? = some o):∀ c,o.op≠.defer c:=by
 intro c d;have:=aGD.1 t o (Array.mem_toList_iff.2 (Array.mem_of_getElem? h));rw[d]at this;cases this
theorem JB(hL:¬ LetsOut Q)(z:DU ops=true){i:Nat}{K:Act->World->Prop}{a:Act}{w:World}(h:wpOp P ops Q i K a w):wpOpIn (Fence.wide.inRound l) n P ops Q i K a w:=by
 unfold wpOp at h;unfold wpOpIn;split
 ·rename_i d
  simpa only[d] using h
 ·rename_i o d
  simp only[d]at h;split
  ·rename_i t
   simp only[t,aHW]at h;rcases h with h|h
   ·exact PU (YM z d) h
   ·exact absurd h.2 hL
  ·rename_i t
   simp only[t]at h;exact⟨fun _ _=>trivial,h⟩
theorem qT(hL:¬ LetsOut Q)(d:DU ops=true):∀ (fuel:Nat) (listed:Array Bool) (a:Act) (w:World),wpAny P md ops Q fuel listed a w->wpAnyIn (Fence.wide.inRound l) n P md ops Q fuel listed a w
 | 0,_,_,_,h=>h
 | fuel+1,_,_,_,h=>⟨h.1,fun i hi=>JB hL d (aIA (fun t w' z=>qT hL d fuel _ t w' z) (h.2 i hi))⟩
/-! A statement 'a[i], a[k] = f(a[i], a[k], ..)': two of its operations wait for nothing, one for the call alone; the others come in the text's order, or are quiet. -/
def UP(md:Region.Mode)(ops:Array Oper)(k m:Nat):Bool:=(List.range m).all fun i=>decide (i<k)||(List.range (m+1)).any fun j=>decide (i<j)&&Region.waitsFor md ops j i
def aAw(md:Region.Mode)(ops:Array Oper)(m:Nat):Bool:=(List.range ops.size).all fun t=>decide (t<=m)||(List.range t).any fun j=>decide (m<=j)&&Region.waitsFor md ops t j
theorem aB0{k m:Nat}{listed:Array Bool}(W:UP md ops k m=true)(hm:m<ops.size)(F:HeadInv md ops (m+1) listed):
  ∀ (d i:Nat),m-i=d->k<=i->i<=m->listed.getD i true=false->listed.getD m true=false:=by
 intro d
 induction d using Nat.strongRecOn with
 | _ d Z =>
  intro i hd hk hi z
  by_cases G:i=m
  ·subst G;exact z
  ·have h1:=aGD.1 W i (aGA.2 (by omega));simp only[aHw,aGy]at h1;rcases h1 with h1|h1
   ·omega
   obtain⟨j,I,h⟩:=aIp.1 h1;simp only[aGu,aGy]at h;obtain⟨oj,U,e,he,hb,V⟩:=aId h.2;have J:j<=m:=by have:=aGA.1 I;omega
   cases t:listed.getD j false with
   | true =>
    have h2:=F.closed j oj U t e he hb;rw[V,aHs z]at h2;cases h2
   | false =>
    have O:j<listed.size:=by rw[F.size];omega
    exact Z (m-j) (by omega) j rfl (by omega) J (aH6 O t)
theorem CW{k m:Nat}{listed:Array Bool}(W:UP md ops k m=true)(F:aAw md ops m=true)(hm:m<ops.size)(z:HeadInv md ops (m+1) listed)(i:Nat)(hk:k<=i)(hi:i<m+1)(aA:listed.getD i true=false):
  ∀ t,m+1<=t->t ∉ Region.ready md ops listed:=by
 have J:=aB0 W hm z _ i rfl hk (by omega) aA;intro t ht V;obtain⟨_,ot,h,hall⟩:=aGQ.1 V;have Z:t<ops.size:=(aIm.1 h).1;have h1:=aGD.1 F t (aGA.2 Z);simp only[aHw,aGy]at h1;rcases h1 with h1|h1
 ·omega
 obtain⟨j,G,d⟩:=aIp.1 h1;simp only[aGu,aGy]at d;obtain⟨o',O,e,he,hb,U⟩:=aId d.2;have:o'=ot:=aG7 (O.symm.trans h);subst this;have h2:=hall e he hb;rw[U]at h2;have aD:=aGA.1 G
 by_cases I:j=m
 ·subst I;rw[aHs J]at h2;cases h2
 ·rw[aHs (z.tail j (by omega) (by omega))]at h2;cases h2
section
variable {C : World → Prop}
theorem SO{k m i:Nat}{F:Oper}{v:Value}{L:Array Bool->Act->Prop}(hi:ops[i]? = some F)(aG:∀ (j:Nat) (o:Oper) G b,ops[j]? = some o->o.op≠.select G b)
 (hs:UP md ops k m=true)(Z:aAw md ops m=true)(hm:m<ops.size)(J:k<=i)(aB:i<m+1)
 (aJ:∀ listed a,L listed a->∀ j∈Region.ready md ops listed,m+1<=j)(f:Nat):
  ∀ (listed:Array Bool) (a:Act),HeadInv md ops (m+1) listed ->
   (∀ j oj,ops[j]? = some oj->j≠i->listed.getD j true=false->(∀ e∈oj.after,Region.binds md e=true->e.on≠i)->F.apart ops oj=true) ->
   i∈Region.ready md ops listed->YieldsIn P ops C F v a ->
   iZ P md ops C (m+1) L f (listed.setIfInBounds i true) (a.put F.dst v)->iZ P md ops C (m+1) L (f+1) listed a:=by
 induction f with
 | zero =>
  intro listed a U _ t O H;refine⟨fun h=>(by rw[h]at t;cases t),fun j z=>?_⟩;have I:j<m+1:=by
   rcases aGt j (m+1) with h|h
   ·exact h
   ·exact absurd z (CW hs Z hm U i J aB (aGQ.1 t).1 j h)
  refine⟨I,?_⟩
  by_cases d:j=i
  ·subst d;exact O.qOp hi H
  ·have:=aJ _ _ H j (aHo z d);omega
 | succ f ih =>
  intro listed a U aA t O H;refine⟨fun h=>(by rw[h]at t;cases t),fun j z=>?_⟩;have aH:=(aGQ.1 t).1;have I:j<m+1:=by
   rcases aGt j (m+1) with h|h
   ·exact h
   ·exact absurd z (CW hs Z hm U i J aB aH j h)
  refine⟨I,?_⟩
  by_cases d:j=i
  ·subst d;exact O.qOp hi H
  ·obtain⟨aD,oj,V,hall⟩:=aGQ.1 z;have aN:∀ e∈oj.after,Region.binds md e=true->e.on≠i:=fun e he hb aK=>by
    have h1:=hall e he hb;rw[aK,aHs aH]at h1;cases h1
   have h2:=qOp_put V (aA j oj V d aD aN) (fun G b=>aG i F G b hi) (fun G b=>aG j oj G b V) O (H.2 j (aHo z d)).2;have aL:∀ k ok,ops[k]? = some ok->k≠i->(listed.setIfInBounds j true).getD k true=false ->
     (∀ e∈ok.after,Region.binds md e=true->e.on≠i)->F.apart ops ok=true:=fun k ok hk J aE aM=>by
    refine aA k ok hk J ?_ aM
    by_cases aC:j=k
    ·subst aC;exact aD
    ·rw[aHC true aC]at aE;exact aE
   refine aIy (fun a' W=>ih (listed.setIfInBounds j true) a' (U.set z I) aL (aHo t (aHr d)) W.1 ?_) h2;rw[aIn _ _ d];exact W.2
def JV(md:Region.Mode)(ops:Array Oper)(B:Array Bool->Bool):Nat->Nat->Array Bool->Bool
 | 0,_,listed=>B listed
 | f+1,j,listed=>(Region.ready md ops listed).contains j&&Region.free md ops listed j&&JV md ops B f (j+1) (listed.setIfInBounds j true)
theorem K6{k m:Nat}{B:Array Bool->Bool}{z:Act->Prop}(V:Region.noSelect ops=true)(U:UP md ops k m=true)(G:aAw md ops m=true)(hm:m<ops.size)
 (I:∀ listed,B listed=true->∀ j∈Region.ready md ops listed,m+1<=j):
  ∀ (l:List Oper) (d:Nat) (listed:Array Bool) (a:Act),(∀ j,j<l.length->l[j]? = ops[d+j]?)->k<=d->d+l.length=m+1->HeadInv md ops (m+1) listed ->
  JV md ops B l.length d listed=true->wpQuiet P ops C z l a ->
  iZ P md ops C (m+1) (fun W F=>B W=true/\z F) l.length listed a
 | [],_,listed,a,_,_,_,_,hB,h=>⟨by simpa[JV] using hB,h⟩
 | o::l,d,listed,a,hl,hkj,hk,inv,hB,h=>by
  have t:ops[d]? = some o:=by simpa using (hl 0 (by simp)).symm
  simp only[List.length_cons,JV,aGu]at hB;have J:d<m+1:=by simp only[List.length_cons]at hk;omega
  have O:d∈Region.ready md ops listed:=by simpa using hB.1.1
  have aA:qOp P ops C d (wpQuiet P ops C z l) a:=by unfold qOp;simp only[t];exact h
  obtain⟨v,hy,Z⟩:=aIC t aA;exact SO t (aIc V) U G hm hkj J (fun W F hL=>I _ hL.1) l.length listed a inv (aIR t hB.1.2) O hy
   (K6 V U G hm I l (d+1) _ _ (fun j hj=>by have:=hl (j+1) (by simp;omega);simpa[aG4,aIv 1 j] using this) (by omega) (by simp only[List.length_cons]at hk;omega) (inv.set O J) hB.2 Z)
end
def UO(md:Region.Mode)(ops:Array Oper):List Nat->Array Bool->Bool
 | [],listed=>(Region.ready md ops listed).isEmpty
 | i::r,listed=>decide (Region.ready md ops listed=[i])&&UO md ops r (listed.setIfInBounds i true)
def j6(ops:Array Oper)(is:List Nat):List Oper:=is.filterMap fun i=>ops[i]?
theorem iU{Q':Exit->Act->World->Prop}:∀ (is:List Nat) (listed:Array Bool) (a:Act) (w:World),(∀ i∈is,i<ops.size) ->
  UO md ops is listed=true->wpList P ops Q' (j6 ops is) a w->wpAny P md ops Q' is.length listed a w
 | [],_,_,_,_,hB,h=>⟨by simpa[UO] using hB,h⟩
 | i::r,listed,a,w,hl,hB,h=>by
  have hi:i<ops.size:=hl i (by simp);have d:ops[i]? = some ops[i]:=aI9 hi;simp only[UO,aGu,aGy]at hB;refine⟨fun h1=>(by rw[hB.1]at h1;cases h1),fun j t=>?_⟩;rw[hB.1]at t;have G:j=i:=by simpa using t
  subst G;have e:j6 ops (j::r)=ops[j]::j6 ops r:=by unfold j6;rw[List.filterMap_cons,d]
  rw[e]at h;have I:wpOp P ops Q' j (wpList P ops Q' (j6 ops r)) a w:=by unfold wpOp;simp only[d];exact h
  exact aIA (fun z w' F=>iU r _ z w' (fun x J=>hl x (by simp[J])) hB.2 F) I
def aEm(md:Region.Mode)(ops:Array Oper)(listed:Array Bool):Bool :=
 (Region.ready md ops listed).all (fun j=>decide (11<=j))&&(Region.ready md ops listed).contains 12&&Region.free md ops listed 12&&UO md ops [11,13,14,15,16] (listed.setIfInBounds 12 true)
def YV(md:Region.Mode)(ops:Array Oper):Bool :=
 Region.noSelect ops&&decide (ops.size=17)&&UP md ops 2 10&&aAw md ops 10 &&
 ((Region.ready md ops (Array.replicate 17 false)).contains 0&&Region.free md ops (Array.replicate 17 false) 0) &&
 ((Region.ready md ops ((Array.replicate 17 false).setIfInBounds 0 true)).contains 1&&Region.free md ops ((Array.replicate 17 false).setIfInBounds 0 true) 1) &&
 JV md ops (aEm md ops) 9 2 (((Array.replicate 17 false).setIfInBounds 0 true).setIfInBounds 1 true)
theorem aAY{Q':Exit->Act->World->Prop}{a:Act}{w:World}{z:List Oper}{O W Z:Oper}(h0:z[0]? = some O)(h1:z[1]? = some W)(aH:z[12]? = some Z)(hB:YV .any z.toArray=true)
 (U:∀ c F w' d v,Q' (.panic c) (F.put d v) w'->Q' (.panic c) F w'){v0 v1:Value}(aP:Yields P z.toArray O v0 a)(aQ:Yields P z.toArray W v1 (a.put O.dst v0))
 (h:wpQuiet P z.toArray (fun w'=>∃ x:GW w,w'=x.1) (fun F=>∃ v,Yields P z.toArray Z v F/\∀ w',(∃ x:GW w,w'=x.1)->wpList P z.toArray Q' (j6 z.toArray [11,13,14,15,16]) (F.put Z.dst v) w') ((z.drop 2).take 9) ((a.put O.dst v0).put W.dst v1)):
  wpAny P .any z.toArray Q' z.toArray.size (Array.replicate z.toArray.size false) a { w with drawn:=w.drawn+1 }:=by
 simp only[YV,aGu,aGy]at hB;obtain⟨⟨⟨⟨⟨⟨J,V⟩,hs⟩,hc⟩,aD,aJ⟩,aE,aK⟩,aL⟩:=hB;rw[V];refine aGI (i:=0) (by simpa using h0) J aJ aD (fun c F w'=>U c F w' _ _) aP ?_;refine aGI (i:=1) (by simpa using h1) J aK aE (fun c F w'=>U c F w' _ _) aQ ?_;have aC:z.length=17:=by simpa using V
 have aF:HeadInv .any z.toArray 11 (Array.replicate z.toArray.size false) :=
  ⟨by simp,fun j oj _ hl=>(by rw[aHO]at hl;cases hl),fun t _ ht=>aH6 (by simpa using ht) (aHO _ _)⟩
 rw[V]at aF;have aR:=aF.set (i:=0) (by simpa using aD) (by decide);have aS:=aR.set (i:=1) (by simpa using aE) (by decide);have I:((z.drop 2).take 9).length=9:=by simp[aC]
 have H:=K6 (md:=.any) (k:=2) (m:=10) (B:=aEm .any z.toArray) J hs hc (by omega) (fun listed hb j G=>by
   simp only[aEm,aGu]at hb;exact aJw (aGD.1 hb.1.1.1 j G)) ((z.drop 2).take 9) 2 _ _ (fun j G=>by
    rw[I]at G;rw[aHe,FN G,aHp];simp) (by omega) (by rw[I]) aS (by rw[I];exact aL) h
 rw[I]at H;exact kN (Q':=Q') (g:=6) (n:=11) (fun listed F w' aN hL=>by
  obtain⟨hb,v,hy,hT⟩:=hL;simp only[aEm,aGu]at hb;refine aGI (i:=12) (by simpa using aH) J hb.1.2 hb.1.1.2 (fun c F w'=>U c F w' _ _) hy ?_;exact iU [11,13,14,15,16] _ _ _ (by simp[aC]) hb.2 (hT w' aN)) 9 _ _ { w with drawn:=w.drawn+1 } ⟨⟨_,(Below.refl w.heap.size w).drew⟩,rfl⟩ H
theorem pE{id:Nat}{a:Act}{w:World}{t:List Oper}{F G I J O U V W:Oper}(Z:t[0]? = some F)(h1:t[1]? = some G)(aA:t[11]? = some I)(aB:t[12]? = some J)(aC:t[13]? = some O)(aD:t[14]? = some U)(aE:t[15]? = some V)(aF:t[16]? = some W)
 (hB:YV .any t.toArray=true)(hn:DU t.toArray=true)(hm:P.follows .mixedOrders=true)
 (hL:¬ LetsOut Q)(hQ:∀ c z w' d v,Q (.panic c) (z.put d v) w'->Q (.panic c) z w'){v0 v1:Value}(aJ:Yields P t.toArray F v0 a)(aK:Yields P t.toArray G v1 (a.put F.dst v0))
 (h:wpQuiet P t.toArray (fun w'=>∃ x:GW w,w'=x.1) (fun z=>∃ v,Yields P t.toArray J v z/\∀ w',(∃ x:GW w,w'=x.1)->wpList P t.toArray Q [I,O,U,V,W] (z.put J.dst v) w') ((t.drop 2).take 9) ((a.put F.dst v0).put G.dst v1)):
  (Code.region id t.toArray true).wpIn (Fence.wide.inRound l) n P Q a w:=by
 have e:j6 t.toArray [11,13,14,15,16]=[I,O,U,V,W]:=by
  simp[j6,aA,aC,aD,aE,aF]
 refine wpIn_region_any hm (qT hL hn _ _ _ _ (aAY Z h1 aB hB hQ aJ aK ?_));rw[e];exact h
end
theorem eH{W W':World}{row:Option Nat}(h:Below W.heap.size W W'):W.grownBy W' row:=by
 obtain⟨a,b,c,d,e⟩:=h;exact⟨a,b,c,d,fun k hk _=>e k hk⟩
theorem uH{W:World}{g o:Nat}(v:Value):W.grownBy (W.setCell ⟨g,o,none⟩ v) (some g):=⟨rfl,rfl,rfl,by simp,fun k _ hk=>aHm _ _ _ _ (fun e=>hk (by rw[e]))⟩
end
section
open Go.Lib (hid)
open Go.RowKit Go.Shelf
attribute [local go_sem] Oper.semAt_some
theorem TX(i r:Nat)(w:World)(hi:i<16)(d:r<4):Calls prog 184 #[.int .i64 i,.int .i64 r] w fun e w'=>e=.returned (.int .i64 ((3*i+5*r) % 8:Nat))/\w=w':=by
 have h1:(i:Int)<16:=by omega
 have h2:(r:Int)<4:=by omega
 have H:=hid (show (3*(i:Int)+5*(r:Int)) % 8=(((3*i+5*r) % 8:Nat):Int) by omega);clear hi d;go_enter func184,ntmps184;go_wp2
 go_ret
 exact⟨cL H.out,rfl⟩
abbrev PI(r:Nat):={ i:Nat // i<16/\i / 2 ^ r % 2=0 }
def aCZ(r:Nat)(x:PI r):Array Value:=#[.int .i64 (x.1:Int),.agg #[.int .i64 (aT x.1 r).p,.int .i64 (aT x.1 r).u]]
def lI(r:Nat):Nat->List (PI r)
 | 0=>[]
 | k+1=>if h:k<16/\k / 2 ^ r % 2=0 then lI r k++[⟨k,h⟩] else lI r k
theorem AH{r k:Nat}(h:k<16/\k / 2 ^ r % 2=0):lI r (k+1)=lI r k++[⟨k,h⟩]:=by rw[lI,dif_pos h]
theorem GT{r k:Nat}(h:¬ (k<16/\k / 2 ^ r % 2=0)):lI r (k+1)=lI r k:=by rw[lI,dif_neg h]
theorem OJ:∀ (r:Fin 4) (k:Fin 16),k.1 / 2 ^ r.1 % 2=0->(lI r.1 k.1).length<8:=by decide +kernel
theorem TI{r k:Nat}(d:r<4)(hk:k<16)(h:k / 2 ^ r % 2=0):(lI r k).length<8:=OJ ⟨r,d⟩ ⟨k,hk⟩ h
theorem aAW:∀ (r:Fin 4) (k:Fin 16),bits .and .i64 ((k.1:Nat):Int) ((2 ^ r.1:Nat):Int)=if k.1 / 2 ^ r.1 % 2=0 then 0 else ((2 ^ r.1:Nat):Int):=by decide +kernel
theorem aDO{r:Nat}(h:r<4):wrap64 (2 ^ r)=((2 ^ r:Nat):Int):=by
 have d:r=0\/r=1\/r=2\/r=3:=by omega
 rcases d with rfl|rfl|rfl|rfl <;> decide +kernel
theorem aCL{r k:Nat}(d:r<4)(hk:k<16):bits .and .i64 (k:Int) (wrap64 (2 ^ r))=if k / 2 ^ r % 2=0 then 0 else ((2 ^ r:Nat):Int):=by rw[aDO d];exact aAW ⟨r,d⟩ ⟨k,hk⟩
theorem jJ:∀ (r:Fin 4) (k:Fin 16),k.1 / 2 ^ r.1 % 2=0->bits .or .i64 ((k.1:Nat):Int) ((2 ^ r.1:Nat):Int)=((k.1+2 ^ r.1:Nat):Int)/\k.1+2 ^ r.1<16:=by decide +kernel
def EO(tv:Array Value):Prop:=∀ q,q<8->tv[q*2]? = some (.int .i64 (bD q).p)/\tv[q*2+1]? = some (.int .i64 (bD q).u)
def Kp2(a b:Nat)(W W':World):Prop:=W'.heap[a]? = W.heap[a]?/\W'.heap[b]? = W.heap[b]?
theorem yQ{a b:Nat}{A B C:World}(h:Kp2 a b A B)(k:Kp2 a b B C):Kp2 a b A C:=⟨k.1.trans h.1,k.2.trans h.2⟩
theorem BY{a b:Nat}{w:World}(ha:a<w.heap.size)(hb:b<w.heap.size)(W:World)(l:Nat)(o d:Obj)(h:w.heap.size<=l)(_:W.heap[l]? = some o)(_:o.isCells=false)(_:o.isWalk=false):Kp2 a b W (W.putObj l d) :=
 ⟨aHn (by omega),aHn (by omega)⟩
theorem LH{a b n:Nat}{A B:World}(ha:a<n)(hb:b<n)(h:Below n A B):Kp2 a b A B:=⟨h.block a ha,h.block b hb⟩
set_option maxRecDepth 100000 in
set_option maxHeartbeats 4000000 in
theorem aBM(l r z t:Nat)(tv:Array Value)(V:r<4)(ht:EO tv)(J Jx:List (PI r)->World->Prop)
 (hY:∀ pre x W,J pre W->pre.length<8->YieldAt Fence.wide 2 prog l (aCZ r x) W fun e W' =>
   (e=.returned (.bool true)/\J (pre++[x]) W'/\Kp2 z t W W')\/(e=.returned (.bool false)/\Jx (pre++[x]) W'))
 (W:World)(aG:W.heap[z]? = some (.cells #[.int .i64 r] 3 (0,0)))(aF:W.heap[t]? = some (.cells tv 89 (0,0)))(h0:J [] W):
  CallsIn Fence.wide 3 prog 183 #[.func (.yield l) #[] #[],.pointer (some ⟨z,0,none⟩),.pointer (some ⟨t,0,none⟩)] W fun e W'=>(∃ v,e=.returned v) /\
   ((∃ ys,ys=lI r 16/\J ys W')\/(∃ pre,True/\Jx pre W')):=by
 have Hr:=hid aG;have Hn:=hid aF;have Ht:=hid ht;have HY:=hid hY;have Z:=hid h0;have HT:=hid (fun i W (hi:i<16)=>TX i r W hi V);have HA:=hid (fun k (hk:k<16)=>aCL V hk);have hp:0<2 ^ r/\2 ^ r<=8:=by
  have aN:r=0\/r=1\/r=2\/r=3:=by omega
  rcases aN with rfl|rfl|rfl|rfl <;> decide +kernel
 have Hs:=hid (fun k (hk:k<16) (h:k / 2 ^ r % 2=0)=>TI V hk h);have bC:(0:Int)<=(r:Int):=by omega
 have aN:(r:Int)<4:=by omega
 clear aG aF ht hY h0;refine callsIn_of_wp func183 rfl trivial ?_ rfl;simp only[ntmps183,aGH,List.length_cons,List.length_nil,Nat.reduceAdd,Nat.reduceSub,aJy,Array.replicate_zero,aJV,aJK,List.nil_append,List.cons_append]
 gi_wp2
 gi_loopw [5] (fun i wr=>∃ k:Nat,k<=16/\i=.int .i64 k/\J (lI r k) wr/\Kp2 z t W wr) (fun i _=>16-(intOf i).toNat)
 case atStart=>exact⟨0,aG3 _,rfl,Z.out,rfl,rfl⟩
 case round =>
  obtain⟨k,hk,rfl,aH,aK⟩:=hrel;have I:=hid aH;have F:=hid aK;clear aH aK Z
  by_cases hlt:k<16
  ·have t1:(k:Int)<16:=by omega
   have aJ:=F.out.1.trans Hr.out;have c1:wr.cell? ⟨z,0,none⟩=some (.int .i64 r):=aGo wr z 0 _ _ _ aJ
   by_cases d:k / 2 ^ r % 2=0
   ·have hand:=HA.out k hlt;rw[FN d]at hand;obtain⟨fn,tmps,a4,a5,G,hR⟩:=HY.out _ ⟨k,hlt,d⟩ wr I.out (Hs.out k hlt d);unfold aCZ at G;simp only[aT]at G;have O:=hid (AH ⟨hlt,d⟩);have aB:=hid (fun W=>HT.out k W hlt);obtain⟨q,hq⟩:∃ q,(3*k+5*r) % 8=q:=⟨_,rfl⟩;have aM:q<8:=by omega
    rw[hq]at G aB;have U:=F.out.2.trans Hn.out;have aZ:=(aGo wr t (q*2) _ _ _ U).trans (Ht.out q aM).1;have a0:=(aGo wr t (q*2+1) _ _ _ U).trans (Ht.out q aM).2;generalize bD q=tk at *
    obtain⟨pp,uu⟩:=tk;simp only at G aZ a0;have bA:(0:Int)<=(q:Int):=by omega
    have bB:(q:Int)<8:=by omega
    clear hq aJ U
    gi_wp2_with (refine⟨trivial,?_⟩;gi_at_call 184;refine (aJd.2 (aB.out _)).mono ?_;rintro e w' ⟨rfl,rfl⟩)
    refine hR.mono ?_;rintro e W3 (⟨rfl,aV,aY⟩|⟨rfl,aW⟩)
    ·gi_wp2
     go_roundw
     case rel=>exact⟨k+1,by omega,by simp,by rw[O.out];exact aV,yQ F.out aY⟩
     case measure=>simp[intOf];omega
    ·gi_wp2
     refine aGk (aHJ rfl _ _ _) rfl ?_;exact⟨⟨_,rfl⟩,.inr ⟨_,trivial,aW⟩⟩
   ·have hand:=HA.out k hlt;rw[sL d]at hand;have O:=hid (show lI r (k+1)=lI r k from GT fun h=>d h.2);generalize 2 ^ r=P at *
    have hP:((P:Int) == 0)=false:=by simp;omega
    have a8:¬ (P:Int)=0:=by omega
    clear d
    gi_wp2
    refine⟨trivial,?_⟩
    gi_wp2
    refine⟨fun _ h=>(by cases h),?_⟩
    gi_wp2
    go_roundw
    case rel=>exact⟨k+1,by omega,by simp,by rw[O.out];exact I.out,F.out⟩
    case measure=>simp[intOf];omega
  ·have aX:k=16:=by omega
   subst aX;have t1:¬ (((16:Nat):Int)<16):=by omega
   gi_wp2
   go_end0
   exact⟨⟨_,rfl⟩,.inl I.out⟩
end
section
section
variable {P : Program} {ops : Array Oper} {md : Region.Mode} {C : World → Prop} {n f : Nat}
theorem aBT{o:Oper}{a:Act}{v:Value}{w:World}{D:World->Prop}(t:∀ g args w',(execOp a.eval o).run P w≠.ok (.enter g args) w')(h:o.quietAt P a C w v):o.quietAt P a D w v:=by
 unfold Oper.quietAt Oper.quietUpon at *
 cases d:(execOp a.eval o).run P w with
 | ok x w' =>
  rw[d]at h;cases x with
  | value u=>exact h
  | skip=>exact h
  | enter g args=>exact absurd d (t g args w')
  | _=>exact h
 | halt x w'=>rw[d]at h;exact h
def ND(P:Program)(ops:Array Oper)(n:Nat):Prop:=∀ j oj,j<n->ops[j]? = some oj->∀ (a:Act) (w:World) g args w',(execOp a.eval oj).run P w≠.ok (.enter g args) w'
def uY(P:Program)(md:Region.Mode)(ops:Array Oper)(C:World->Prop)(n f:Nat)(L:Array Bool->Act->Prop):Nat->Array Bool->Act->Prop
 | 0,listed,a=>L listed a
 | d+1,listed,a=>(∃ i∈Region.ready md ops listed,i<n)/\∀ i∈Region.ready md ops listed,i=f\/(i<n/\qOp P ops C i (uY P md ops C n f L d (listed.setIfInBounds i true)) a)
structure aF9(md:Region.Mode)(ops:Array Oper)(n f:Nat)(listed:Array Bool):Prop where
 size:listed.size=ops.size
 closed:∀ j oj,ops[j]? = some oj->listed.getD j false=true->∀ e∈oj.after,Region.binds md e=true->listed.getD e.on false=true
 tail:∀ t,n<=t->t<ops.size->listed.getD t true=false
theorem aF9.set{i:Nat}{listed:Array Bool}(d:aF9 md ops n f listed)(hi:i∈Region.ready md ops listed)(O:i<n):aF9 md ops n f (listed.setIfInBounds i true):=by
 obtain⟨_,J,G,hall⟩:=aGQ.1 hi;refine⟨by simp[d.size],fun j oj z F e he hb=>?_,fun t ht I=>by rw[aHC true (by omega)];exact d.tail t ht I⟩
 by_cases h:i=j
 ·subst h;have:oj=J:=aG7 (z.symm.trans G);subst this;exact getD_set_true (hall e he hb)
 ·rw[aHC false h]at F;exact getD_set_true (d.closed j oj z F e he hb)
def wE(md:Region.Mode)(ops:Array Oper)(n f:Nat):Bool:=(List.range ops.size).all fun t=>decide (t<=n)||decide (t=f)||(List.range t).any fun j=>decide (n<=j)&&decide (j≠f)&&Region.waitsFor md ops t j
theorem tT{listed:Array Bool}(hfn:n<f)(hs:Region.sinkB md ops n=true)(W:wE md ops n f=true)(O:aF9 md ops n f listed)(hn:n<ops.size)(i:Nat)(hi:i<n)(F:listed.getD i true=false):
  ∀ L:Array Bool,(∀ j,j≠f->L.getD j false=listed.getD j false)->∀ t,n<=t->t≠f->t ∉ Region.ready md ops L:=by
 have aK:∀ (d i:Nat),n-i=d->i<n->listed.getD i true=false->∃ j,j<n/\listed.getD j true=false/\Region.waitsFor md ops n j=true:=by
  intro d
  induction d using Nat.strongRecOn with
  | _ d ih =>
   intro i hd hi F;have h1:=aGD.1 hs i (aGA.2 hi);obtain⟨j,G,h⟩:=aIp.1 h1;simp only[aGu,aGy]at h;obtain⟨oj,I,e,he,hb,z⟩:=aId h.2;have aO:j<=n:=by have:=aGA.1 G;omega
   by_cases Z:j=n
   ·subst Z;exact⟨i,hi,F,h.2⟩
   ·cases U:listed.getD j false with
    | true =>
     have h2:=O.closed j oj I U e he hb;rw[z,aHs F]at h2;cases h2
    | false =>
     have aA:j<listed.size:=by rw[O.size];omega
     exact ih (n-j) (by omega) j rfl (by omega) (aH6 aA U)
 obtain⟨j0,aN,aH,aI⟩:=aK _ i rfl hi F;intro L hL t ht aE hr;obtain⟨_,V,J,hall⟩:=aGQ.1 hr;have aF:t<ops.size:=(aIm.1 J).1
 by_cases aG:t=n
 ·subst aG;obtain⟨oj,I,e,he,hb,z⟩:=aId aI;have:oj=V:=aG7 (I.symm.trans J);subst this;have h2:=hall e he hb;rw[z,hL _ (by omega),aHs aH]at h2;cases h2
 ·have h1:=aGD.1 W t (aGA.2 aF);simp only[aHw,aGy]at h1;rcases h1 with (h1|h1)|h1
  ·omega
  ·exact aE h1
  ·obtain⟨j,G,h⟩:=aIp.1 h1;simp only[aGu,aGy]at h;obtain⟨o',aB,e,he,hb,z⟩:=aId h.2;have:o'=V:=aG7 (aB.symm.trans J);subst this;have h2:=hall e he hb;have aP:=aGA.1 G;rw[z,hL _ h.1.2,aHs (O.tail j h.1.1 (by omega))]at h2;cases h2
theorem SM{i:Nat}{F:Oper}{v:Value}{L:Array Bool->Act->Prop}(hi:ops[i]? = some F)(aI:∀ (j:Nat) (o:Oper) J b,ops[j]? = some o->o.op≠.select J b)
 (hfn:n<f)(hs:Region.sinkB md ops n=true)(hc:wE md ops n f=true)(hn:n<ops.size)(O:i<n)
 (aL:∀ listed a,L listed a->∀ j∈Region.ready md ops listed,n<=j)(d:Nat):
  ∀ (listed:Array Bool) (a:Act),aF9 md ops n f listed ->
   (∀ j oj,ops[j]? = some oj->j≠i->listed.getD j true=false->(∀ e∈oj.after,Region.binds md e=true->e.on≠i)->F.apart ops oj=true) ->
   i∈Region.ready md ops listed->YieldsIn P ops C F v a ->
   uY P md ops C n f L d (listed.setIfInBounds i true) (a.put F.dst v)->uY P md ops C n f L (d+1) listed a:=by
 induction d with
 | zero =>
  intro listed a W _ I V H;refine⟨⟨i,I,O⟩,fun j z=>?_⟩
  by_cases G:j=f
  ·exact .inl G
  have U:j<n:=by
   rcases aGt j n with h|h
   ·exact h
   ·exact absurd z (tT hfn hs hc W hn i O (aGQ.1 I).1 listed (fun _ _=>rfl) j h G)
  refine .inr ⟨U,?_⟩
  by_cases t:j=i
  ·subst t;exact V.qOp hi H
  ·have:=aL _ _ H j (aHo z t);omega
 | succ d ih =>
  intro listed a W aC I V H;refine⟨⟨i,I,O⟩,fun j z=>?_⟩;have aJ:=(aGQ.1 I).1
  by_cases G:j=f
  ·exact .inl G
  have U:j<n:=by
   rcases aGt j n with h|h
   ·exact h
   ·exact absurd z (tT hfn hs hc W hn i O aJ listed (fun _ _=>rfl) j h G)
  refine .inr ⟨U,?_⟩
  by_cases t:j=i
  ·subst t;exact V.qOp hi H
  ·obtain⟨aE,oj,Z,hall⟩:=aGQ.1 z;have aQ:∀ e∈oj.after,Region.binds md e=true->e.on≠i:=fun e he hb aM=>by
    have h1:=hall e he hb;rw[aM,aHs aJ]at h1;cases h1
   have hq:qOp P ops C j (uY P md ops C n f L d ((listed.setIfInBounds i true).setIfInBounds j true)) (a.put F.dst v):=by
    rcases H.2 j (aHo z t) with h|h
    ·exact absurd h G
    ·exact h.2
   have h2:=qOp_put Z (aC j oj Z t aE aQ) (fun J b=>aI i F J b hi) (fun J b=>aI j oj J b Z) V hq;have aN:∀ k ok,ops[k]? = some ok->k≠i->(listed.setIfInBounds j true).getD k true=false ->
     (∀ e∈ok.after,Region.binds md e=true->e.on≠i)->F.apart ops ok=true:=fun k ok hk aO aF aP=>by
    refine aC k ok hk aO ?_ aP
    by_cases aD:j=k
    ·subst aD;exact aE
    ·rw[aHC true aD]at aF;exact aF
   refine aIy (fun a' h3=>ih (listed.setIfInBounds j true) a' (W.set z U) aN (aHo I (aHr t)) h3.1 ?_) h2;rw[aIn _ _ t];exact h3.2
theorem AD{B:Array Bool->Bool}{z:Act->Prop}(Z:Region.noSelect ops=true)(hfn:n<f)(W:Region.sinkB md ops n=true)(I:wE md ops n f=true)(U:n<ops.size)
 (J:∀ listed,B listed=true->∀ j∈Region.ready md ops listed,n<=j):
  ∀ (l:List Oper) (d:Nat) (listed:Array Bool) (a:Act),(∀ j,j<l.length->l[j]? = ops[d+j]?)->d+l.length=n->aF9 md ops n f listed ->
  JV md ops B l.length d listed=true->wpQuiet P ops C z l a ->
  uY P md ops C n f (fun F G=>(B F=true/\aF9 md ops n f F)/\z G) l.length listed a
 | [],d,listed,a,_,_,inv,hB,h=>⟨⟨by simpa[JV] using hB,inv⟩,h⟩
 | o::l,d,listed,a,hl,hk,inv,hB,h=>by
  have t:ops[d]? = some o:=by simpa using (hl 0 (by simp)).symm
  simp only[List.length_cons,JV,aGu]at hB;have O:d<n:=by simp only[List.length_cons]at hk;omega
  have V:d∈Region.ready md ops listed:=by simpa using hB.1.1
  have aB:qOp P ops C d (wpQuiet P ops C z l) a:=by unfold qOp;simp only[t];exact h
  obtain⟨v,hy,hK⟩:=aIC t aB;exact SM t (aIc Z) hfn W I U O (fun F G hL=>J _ hL.1.1) l.length listed a inv (aIR t hB.1.2) V hy
   (AD Z hfn W I U J l (d+1) _ _ (fun j hj=>by have:=hl (j+1) (by simp;omega);simpa[aG4,aIv 1 j] using this) (by simp only[List.length_cons]at hk;omega) (inv.set V O) hB.2 hK)
def WD(md:Region.Mode)(ops:Array Oper)(n f:Nat):Bool:=(List.range ops.size).all fun t=>!Region.waitsFor md ops t f||(decide (n<=t)&&(List.range ops.size).any fun j=>decide (n<=j)&&decide (j≠f)&&Region.waitsFor md ops t j)
theorem yJ{z:Oper}{L:Array Bool->Act->Prop}{p:Value}{w2:World}(hf:ops[f]? = some z)(hfn:n<f)(aK:∀ (j:Nat) (o:Oper) V b,ops[j]? = some o->o.op≠.select V b)
 (hs:Region.sinkB md ops n=true)(hc:wE md ops n f=true)(ha:WD md ops n f=true)(hn:n<ops.size)
 (aD:∀ j oj,j<n->ops[j]? = some oj->z.apart ops oj=true)(aI:ND P ops n)(aM:C w2):
  ∀ (d:Nat) (listed:Array Bool) (a:Act),aF9 md ops n f listed->uY P md ops C n f L d listed a ->
   iZ P md ops (fun w=>w=w2) n (fun l' U=>∃ l a,L l a/\l'=l.setIfInBounds f true/\U=a.put z.dst p) d (listed.setIfInBounds f true) (a.put z.dst p)
 | 0,listed,a,_,h=>⟨listed,a,h,rfl,rfl⟩
 | d+1,listed,a,aB,h=>by
  obtain⟨i0,aG,aO⟩:=h.1;have aP:=(aGQ.1 aG).1;refine⟨fun h0=>(by have:=aHo (i:=f) aG (by omega);rw[h0]at this;cases this),fun j I=>?_⟩;have J:j≠f:=by
   rintro rfl;have h1:=(aGQ.1 I).1;obtain⟨_,oj,t,_⟩:=aGQ.1 I;have hlt:j<listed.size:=by rw[aB.size];exact (aIm.1 t).1
   simp[hlt]at h1
  have O:j<n:=by
   rcases aGt j n with h|h
   ·exact h
   ·exact absurd I (tT hfn hs hc aB hn i0 aO aP _ (fun k hk=>aHC false (aHr hk)) j h J)
  have Z:j∈Region.ready md ops listed:=by
   obtain⟨h1,oj,t,hall⟩:=aGQ.1 I;refine aGQ.2 ⟨by rw[aHC true (aHr J)]at h1;exact h1,oj,t,fun e he hb=>?_⟩;have h2:=hall e he hb
   by_cases aF:e.on=f
   ·have G:Region.waitsFor md ops j f=true:=by
     unfold Region.waitsFor;simp only[t];exact Array.any_eq_true'.2 ⟨e,he,by simp[hb,aF]⟩
    have W:=aGD.1 ha j (aGA.2 (aIm.1 t).1);rw[G]at W;simp only[aJB,Bool.false_or,aGu,aGy]at W;omega
   ·rwa [aHC false (aHr aF)]at h2
  refine⟨O,?_⟩;have F:qOp P ops C j (uY P md ops C n f L d (listed.setIfInBounds j true)) a:=by
   rcases h.2 j Z with h|h
   ·exact absurd h J
   ·exact h.2
  obtain⟨_,oj,t,_⟩:=aGQ.1 Z;obtain⟨h1,h2,W⟩:=aJb (aD j oj O t);have aL:∀ u,uY P md ops C n f L d (listed.setIfInBounds j true) (a.put oj.dst u)->iZ P md ops (fun w=>w=w2) n (fun l' U=>∃ l a,L l a/\l'=l.setIfInBounds f true/\U=a.put z.dst p) d ((listed.setIfInBounds f true).setIfInBounds j true) ((a.put z.dst p).put oj.dst u):=fun u hu=>by
   have:=yJ (p:=p) hf hfn aK hs hc ha hn aD aI aM d _ _ (aB.set Z O) hu;rw[aIn _ _ (aHr J),<-Act.put_comm a u p (fun k hk he=>h2 k he hk)];exact this
  unfold qOp at F ⊢;simp only[t]at F ⊢;rw[aIW oj a z.dst p h1];split
  ·rename_i G
   simp only[G,aHW]at F;obtain⟨u,hu,hk⟩:=F;refine⟨u,fun w aQ=>?_,aL u hk⟩;subst aQ;have:=aBT (D:=fun w'=>w'=w) (fun g args w'=>aI j oj O t a w g args w') (hu w aM);unfold Oper.quietAt at *
   rwa [aIV oj (fun V b=>aK j oj V b t) a z.dst p h1]
  ·rename_i G
   simp only[G]at F;exact aL undef F
theorem xQ{g:Nat}{t:Oper}{o:Obj}{L:Array Bool->Act->Prop}{Q':Exit->Act->World->Prop}(hf:ops[f]? = some t)(V:t.guard=none)(hz:∀ (a:Act) (W:World),(execOp a.eval t).run P W=.ok (.value (.pointer (some ⟨W.heap.size,0,none⟩))) (W.alloc o))
 (hfn:n<f)(aD:∀ (j:Nat) (o:Oper) cs b,ops[j]? = some o->o.op≠.select cs b)
 (hs:Region.sinkB md ops n=true)(U:wE md ops n f=true)(ha:WD md ops n f=true)(hn:n<ops.size)
 (O:∀ j oj,j<n->ops[j]? = some oj->t.apart ops oj=true)(aB:ND P ops n)(I:∀ w,C w->C (w.alloc o))
 (hL:∀ listed a w,C w->L listed a->wpAny P md ops Q' (g+1) listed a w)
 (J:∀ listed a w,C w->L listed a->wpAny P md ops Q' g (listed.setIfInBounds f true) (a.put t.dst (.pointer (some ⟨w.heap.size,0,none⟩))) (w.alloc o)):
  ∀ (d:Nat) (listed:Array Bool) (a:Act) (w:World),C w->aF9 md ops n f listed->uY P md ops C n f L d listed a->wpAny P md ops Q' (d+(g+1)) listed a w
 | 0,listed,a,w,z,_,h=>by rw[aGn];exact hL _ _ _ z h
 | d+1,listed,a,w,z,aF,h=>by
  rw[show d+1+(g+1)=(d+(g+1))+1 by omega];obtain⟨i0,Z,_⟩:=h.1;refine⟨fun h0=>(by rw[h0]at Z;cases Z),fun i hi=>?_⟩;rcases h.2 i hi with rfl|⟨aL,hq⟩
  ·unfold wpOp;simp only[hf];have aO:Region.wanted t (yielded ops a.tmps)=true:=by simp[Region.wanted,V]
   rw[FN aO];refine .inl ?_;unfold Oper.wp;rw[hz a w,Oper.upon_value];have H:=yJ (p:=.pointer (some ⟨w.heap.size,0,none⟩)) (w2:=w.alloc o) hf hfn aD hs U ha hn O aB (I w z) (d+1) listed a aF h;have:=kN (C:=fun W=>W=w.alloc o) (n:=n) (L:=fun l' F=>∃ l a,L l a/\l'=l.setIfInBounds i true/\F=a.put t.dst (.pointer (some ⟨w.heap.size,0,none⟩))) (Q':=Q') (g:=g) (fun l' F w' G aK=>by
    obtain⟨l,a0,hl,rfl,rfl⟩:=aK;subst G;exact J l a0 w z hl) (d+1) _ _ (w.alloc o) rfl H
   rwa [show d+1+g=d+(g+1) by omega]at this
  ·exact aIB z (fun F w' G h'=>xQ hf V hz hfn aD hs U ha hn O aB I hL J d _ F w' G (aF.set hi aL) h') hq
def j4(o:Oper):Bool:=o.guard.isNone&&match o.op with
 | .move _=>true
 | .extract _ _=>true
 | _=>false
theorem aDR{o:Oper}{a:Act}(h:j4 o=true):(∃ v,execOp a.eval o=Sem.pure (.value v))\/∃ s,execOp a.eval o=Sem.halt (.stuck s):=by
 unfold j4 at h;simp only[aGu]at h;have t:=h.2;cases d:o.op with
 | move x=>exact .inl ⟨a.eval x,by unfold execOp;simp only[d];rfl⟩
 | extract x k =>
  have e:execOp a.eval o=(do pure (Next.value (<-Instr.extract (a.eval x) k)):Sem Next):=by unfold execOp;simp only[d]
  rw[e];cases a.eval x with
  | tuple vs =>
   cases z:vs[k]? with
   | some v=>exact .inl ⟨v,by unfold Instr.extract;simp only[z];rfl⟩
   | none=>exact .inr ⟨_,by unfold Instr.extract;simp only[z];rfl⟩
  | _=>exact .inr ⟨_,rfl⟩
 | _=>rw[d]at t;cases t
theorem tP{o:Oper}{a:Act}{w:World}{rest:List Oper}{Q':Exit->Act->World->Prop}(d:j4 o=true)(h:wpList P ops Q' (o::rest) a w):∃ v,Yields P ops o v a/\wpList P ops Q' rest (a.put o.dst v) w:=by
 have t:Region.wanted o (yielded ops a.tmps)=true:=by
  unfold j4 at d;simp only[aGu,Option.isNone_iff_eq_none]at d;simp[Region.wanted,d.1]
 unfold wpList at h;rw[FN t]at h;rcases aDR (a:=a) d with ⟨v,e⟩|⟨s,e⟩
 ·refine⟨v,.inl ⟨t,fun w=>by rw[e];rfl⟩,?_⟩;rcases h with h|⟨h,_⟩
  ·unfold Oper.wp at h;rw[e]at h;exact h
  ·exfalso;have:=h.1;rw[e]at this;simp[Sem.runT]at this
 ·exfalso;rcases h with h|⟨h,_⟩
  ·unfold Oper.wp at h;rw[e]at h;exact h
  ·have:=h.1;rw[e]at this;simp[Sem.runT]at this
def U3(md:Region.Mode)(ops:Array Oper)(n:Nat)(is:List Nat)(L:Array Bool):Bool :=
 ((Region.ready md ops L).contains (n+1)&&Region.free md ops L (n+1)) &&
 ((Region.ready md ops (L.setIfInBounds (n+1) true)).contains (n+2)&&Region.free md ops (L.setIfInBounds (n+1) true) (n+2)) &&
 ((Region.ready md ops ((L.setIfInBounds (n+1) true).setIfInBounds (n+2) true)).contains (n+3)&&Region.free md ops ((L.setIfInBounds (n+1) true).setIfInBounds (n+2) true) (n+3)) &&
 UO md ops is (((L.setIfInBounds (n+1) true).setIfInBounds (n+2) true).setIfInBounds (n+3) true)
theorem ET{Q':Exit->Act->World->Prop}{is:List Nat}{L:Array Bool}{a:Act}{w:World}{G I J:Oper}(F:Region.noSelect ops=true)(h1:ops[n+1]? = some G)(h2:ops[n+2]? = some I)(h3:ops[n+3]? = some J)
 (p1:j4 G=true)(p2:j4 I=true)(p3:j4 J=true)(z:∀ c t w' d v,Q' (.panic c) (t.put d v) w'->Q' (.panic c) t w')(W:U3 md ops n is L=true)(aB:∀ i∈is,i<ops.size)
 (h:wpList P ops Q' (G::I::J::j6 ops is) a w):wpAny P md ops Q' (is.length+3) L a w:=by
 simp only[U3,aGu]at W;obtain⟨⟨⟨O,U⟩,V⟩,Z⟩:=W;obtain⟨v1,y1,h⟩:=tP p1 h;refine aGI (fuel:=is.length+2) h1 F O.2 O.1 (fun c t w'=>z c t w' _ _) y1 ?_;obtain⟨v2,y2,h⟩:=tP p2 h;refine aGI (fuel:=is.length+1) h2 F U.2 U.1 (fun c t w'=>z c t w' _ _) y2 ?_;obtain⟨v3,y3,h⟩:=tP p3 h;refine aGI (fuel:=is.length) h3 F V.2 V.1 (fun c t w'=>z c t w' _ _) y3 ?_;exact iU is _ _ _ aB Z h
theorem nM{Q':Exit->Act->World->Prop}{i:Nat}{o:Oper}{rest:List Oper}{a:Act}{w:World}(hi:ops[i]? = some o)(h:wpList P ops Q' (o::rest) a w):wpOp P ops Q' i (wpList P ops Q' rest) a w:=by
 unfold wpOp;simp only[hi];exact h
def XH(md:Region.Mode)(ops:Array Oper)(n:Nat)(listed:Array Bool):Bool :=
 (Region.ready md ops listed).all (fun j=>decide (j=n)||decide (j=n+4))&&!(Region.ready md ops listed).isEmpty &&
 decide (Region.ready md ops (listed.setIfInBounds (n+4) true)=[n]) &&
 U3 md ops n [n+5,n+6] ((listed.setIfInBounds (n+4) true).setIfInBounds n true) &&
 U3 md ops n [n+4,n+5,n+6] (listed.setIfInBounds n true)
def NY(o:Oper):Bool:=match o.op with
 | .move _=>true
 | .load _ _=>true
 | .indexAddr _ _ _=>true
 | .fieldAddr _ _ _=>true
 | .nilCheck _=>true
 | .binOp _ _ _ _ _=>true
 | _=>false
def XO(md:Region.Mode)(ops:Array Oper)(n:Nat):Bool :=
 Region.noSelect ops&&decide (ops.size=n+7)&&Region.sinkB md ops n&&wE md ops n (n+4)&&WD md ops n (n+4) &&
 (List.range n).all (fun j=>match ops[n+4]?,ops[j]? with
  | some x,some y=>x.apart ops y&&NY y
  | _,_=>false) &&
 JV md ops (XH md ops n) n 0 (Array.replicate (n+7) false)
theorem lM{s:Sem Value}{w w':World}{g:FuncId}{args:Array Value}:(do pure (Next.value (<-s)):Sem Next).run P w≠.ok (.enter g args) w':=by
 intro h;rw[aHS]at h;cases d:s.run P w with
 | ok v w2=>rw[d]at h;simp at h
 | halt x w2=>rw[d]at h;cases h
theorem s7{α:Type}{s:Sem α}{k:α->Sem Next}{w w':World}{g:FuncId}{args:Array Value}(hk:∀ b w2,(k b).run P w2≠.ok (.enter g args) w'):(s >>= k).run P w≠.ok (.enter g args) w':=by
 intro h;rw[aHS]at h;cases d:s.run P w with
 | ok v w2=>rw[d]at h;exact hk _ _ h
 | halt x w2=>rw[d]at h;cases h
theorem W7{o:Oper}(h:NY o=true)(a:Act)(w:World)(g:FuncId)(args:Array Value)(w':World):(execOp a.eval o).run P w≠.ok (.enter g args) w':=by
 unfold NY at h;cases d:o.op with
 | move x=>unfold execOp;simp only[d];intro h;cases h
 | load t x=>unfold execOp;simp only[d];exact lM
 | indexAddr t x y=>unfold execOp;simp only[d];exact lM
 | fieldAddr t x y=>unfold execOp;simp only[d];exact lM
 | binOp z t x y r=>unfold execOp;simp only[d];exact lM
 | nilCheck x =>
  unfold execOp;simp only[d];intro h;split at h
  ·cases h
  ·cases h
  ·cases h
  ·split at h
   ·cases h
   ·exact s7 (fun p w2=>s7 (fun b F=>by
     intro h;split at h <;> cases h)) h
   ·cases h
  ·cases h
 | _=>rw[d]at h;cases h
end
theorem GW.alloc_in{w W:World}(h:∃ x:GW w,W=x.1)(o:Obj):∃ x:GW w,W.alloc o=x.1:=by
 obtain⟨x,rfl⟩:=h;exact⟨⟨x.1.alloc o,aC x.2 (aP x.1 o)⟩,rfl⟩
section
variable {P : Program}
theorem aAX{Q':Exit->Act->World->Prop}{a:Act}{w:World}{z:List Oper}(n:Nat){t0 U V Z G J O:Oper}{o:Obj}(hd:z.drop n=[t0,U,V,Z,G,J,O])(hB:XO .any z.toArray n=true)
 (p1:j4 U=true)(p2:j4 V=true)(p3:j4 Z=true)(aR:G.guard=none)(hz:∀ (a:Act) (W:World),(execOp a.eval G).run P W=.ok (.value (.pointer (some ⟨W.heap.size,0,none⟩))) (W.alloc o))
 (hQ:∀ c F w' d v,Q' (.panic c) (F.put d v) w'->Q' (.panic c) F w')
 (h:wpQuiet P z.toArray (fun w'=>∃ x:GW w,w'=x.1) (fun F=>∀ w',(∃ x:GW w,w'=x.1) ->
   wpList P z.toArray Q' [t0,U,V,Z,J,O] (F.put G.dst (.pointer (some ⟨w'.heap.size,0,none⟩))) (w'.alloc o)/\wpList P z.toArray Q' [t0,U,V,Z,G,J,O] F w') (z.take n) a):
  wpAny P .any z.toArray Q' z.toArray.size (Array.replicate z.toArray.size false) a { w with drawn:=w.drawn+1 }:=by
 simp only[XO,aGu,aGy]at hB;obtain⟨⟨⟨⟨⟨⟨aH,aI⟩,hs⟩,hc⟩,ha⟩,a8⟩,bB⟩:=hB;have aG:z.length=n+7:=by simpa using aI
 have aB:∀ i o',([t0,U,V,Z,G,J,O]:List Oper)[i]? = some o'->z.toArray[n+i]? = some o':=fun i o' hi=>by
  rw[<-hd,aHp]at hi;simpa using hi
 have i0:=aB 0 t0 rfl;have i1:=aB 1 U rfl;have i2:=aB 2 V rfl;have i3:=aB 3 Z rfl;have i4:=aB 4 G rfl;have i5:=aB 5 J rfl;have i6:=aB 6 O rfl;have aP:∀ j oj,j<n->z.toArray[j]? = some oj->G.apart z.toArray oj=true/\NY oj=true:=fun j oj I aD=>by
  have:=aGD.1 a8 j (aGA.2 I);simp only[i4,aD,aGu]at this;exact this
 have bC:ND P z.toArray n:=fun j oj I aD a w g args w'=>W7 (aP j oj I aD).2 a w g args w'
 have aL:(z.take n).length=n:=by rw[aGB];omega
 have a2:aF9 .any z.toArray n (n+4) (Array.replicate (n+7) false) :=
  ⟨by simp[aG],fun j oj _ hl=>(by rw[aHO]at hl;cases hl),fun t _ ht=>aH6 (by simpa[aG] using ht) (aHO _ _)⟩
 have H:=AD (C:=fun w'=>∃ x:GW w,w'=x.1) (B:=XH .any z.toArray n) aH (by omega:n<n+4) hs hc (by rw[aI];omega) (fun listed hb j I=>by
  simp only[XH,aGu]at hb;have:=aGD.1 hb.1.1.1.1 j I;simp only[aHw,aGy]at this;omega) (z.take n) 0 (Array.replicate (n+7) false) a (fun j I=>by
   rw[aL]at I;simp[I]) (by omega) a2 (by rw[aL];exact bB) h
 rw[aL]at H;have oB:j6 z.toArray [n+4,n+5,n+6]=[G,J,O]:=by simp only[j6,List.filterMap_cons,i4,i5,i6,List.filterMap_nil]
 have oA:j6 z.toArray [n+5,n+6]=[J,O]:=by simp only[j6,List.filterMap_cons,i5,i6,List.filterMap_nil]
 have a7:∀ (listed:Array Bool) (a:Act) (w':World),XH .any z.toArray n listed=true->wpList P z.toArray Q' [t0,U,V,Z,J,O] (a.put G.dst (.pointer (some ⟨w'.heap.size,0,none⟩))) (w'.alloc o) ->
   wpAny P .any z.toArray Q' 6 (listed.setIfInBounds (n+4) true) (a.put G.dst (.pointer (some ⟨w'.heap.size,0,none⟩))) (w'.alloc o):=by
  intro listed a w' hb hl;simp only[XH,aGu,aGy]at hb;refine⟨fun h0=>(by rw[hb.1.1.2]at h0;cases h0),fun i hi=>?_⟩;rw[hb.1.1.2]at hi;obtain rfl:i=n:=by simpa using hi
  exact aIA (fun F bF h'=>ET (is:=[i+5,i+6]) aH i1 i2 i3 p1 p2 p3 hQ hb.1.2 (by simp[aG]) (by rw[oA];exact h')) (nM i0 hl)
 have:=xQ (C:=fun w'=>∃ x:GW w,w'=x.1) (L:=fun a3 F=>(XH .any z.toArray n a3=true/\aF9 .any z.toArray n (n+4) a3)/\∀ w',(∃ x:GW w,w'=x.1) ->
   wpList P z.toArray Q' [t0,U,V,Z,J,O] (F.put G.dst (.pointer (some ⟨w'.heap.size,0,none⟩))) (w'.alloc o)/\wpList P z.toArray Q' [t0,U,V,Z,G,J,O] F w') (g:=6) (o:=o) (Q':=Q') i4 aR hz (by omega:n<n+4) (aIc aH) hs hc ha (by rw[aI];omega) (fun j oj I aD=>(aP j oj I aD).1) bC (fun w' aC=>GW.alloc_in aC o)
  (fun listed F w' aC hL=>by
   obtain⟨⟨hb,_⟩,hq⟩:=hL;have a9:=hb;simp only[XH,aGu,aGy]at hb;refine⟨fun h0=>(by
    have:=hb.1.1.1.2;rw[h0]at this;cases this),fun i hi=>?_⟩
   have aS:=aGD.1 hb.1.1.1.1 i hi;simp only[aHw,aGy]at aS;rcases aS with rfl|rfl
   ·exact aIA (fun bG bF h'=>ET (is:=[i+4,i+5,i+6]) aH i1 i2 i3 p1 p2 p3 hQ hb.2 (by simp[aG]) (by rw[oB];exact h')) (nM i0 (hq w' aC).2)
   ·unfold wpOp;simp only[i4];rw[FN (by simp[Region.wanted,aR])];refine .inl ?_;unfold Oper.wp;rw[hz F w',Oper.upon_value];exact a7 listed F w' a9 (hq w' aC).1)
  (fun listed F w' aC hL=>a7 listed F w' hL.1.1 (hL.2 w' aC).1) n (Array.replicate (n+7) false) a { w with drawn:=w.drawn+1 } ⟨⟨_,(Below.refl w.heap.size w).drew⟩,rfl⟩ a2 H
 rw[aI];exact this
theorem sQ{id:Nat}{Q:Exit->Act->World->Prop}{a:Act}{w:World}{t:List Oper}(n:Nat){O G I J F U V:Oper}{o:Obj}(hm:P.follows .mixedOrders=true)(hd:t.drop n=[O,G,I,J,F,U,V])(Z:XO .any t.toArray n=true)
 (p1:j4 G=true)(p2:j4 I=true)(p3:j4 J=true)(aC:F.guard=none)(hz:∀ (a:Act) (W:World),(execOp a.eval F).run P W=.ok (.value (.pointer (some ⟨W.heap.size,0,none⟩))) (W.alloc o))
 (hQ:∀ c z w' d v,Q (.panic c) (z.put d v) w'->Q (.panic c) z w')
 (h:wpQuiet P t.toArray (fun w'=>∃ x:GW w,w'=x.1) (fun z=>∀ w',(∃ x:GW w,w'=x.1) ->
   wpList P t.toArray Q [O,G,I,J,U,V] (z.put F.dst (.pointer (some ⟨w'.heap.size,0,none⟩))) (w'.alloc o)/\wpList P t.toArray Q [O,G,I,J,F,U,V] z w') (t.take n) a):(Code.region id t.toArray true).wp P Q a w :=
 aIf hm (aAX n hd Z p1 p2 p3 aC hz hQ h)
end
end
section
section
variable {P : Program} {ops : Array Oper} {md : Region.Mode} {C : World → Prop} {k n f : Nat}
def PG(md:Region.Mode)(ops:Array Oper):List Nat->Array Bool->Bool
 | [],_=>true
 | i::r,L=>(Region.ready md ops L).contains i&&Region.free md ops L i&&PG md ops r (L.setIfInBounds i true)
def PA(L:Array Bool):List Nat->Array Bool
 | []=>L
 | i::r=>PA (L.setIfInBounds i true) r
def QJ(P:Program)(ops:Array Oper)(Q:Act->Prop):List Oper->Act->Prop
 | [],a=>Q a
 | o::r,a=>∃ v,Yields P ops o v a/\QJ P ops Q r (a.put o.dst v)
theorem KD{Q':Exit->Act->World->Prop}{g:Nat}{w:World}(G:Region.noSelect ops=true)(F:∀ c t w' d v,Q' (.panic c) (t.put d v) w'->Q' (.panic c) t w'):
  ∀ (is:List Nat) (L:Array Bool) (a:Act),(∀ i∈is,i<ops.size)->PG md ops is L=true->QJ P ops (fun t=>wpAny P md ops Q' g (PA L is) t w) (j6 ops is) a->wpAny P md ops Q' (is.length+g) L a w
 | [],L,a,_,_,h=>by rw[List.length_nil,aGn];exact h
 | i::r,L,a,hl,hB,h=>by
  have hi:i<ops.size:=hl i (by simp);have z:ops[i]? = some ops[i]:=aI9 hi;have e:j6 ops (i::r)=ops[i]::j6 ops r:=by unfold j6;rw[List.filterMap_cons,z]
  rw[e]at h;obtain⟨v,J,h⟩:=h;simp only[PG,aGu]at hB;rw[List.length_cons,show r.length+1+g=(r.length+g)+1 by omega];exact aGI z G hB.1.2 hB.1.1 (fun c t w'=>F c t w' _ _) J (KD G F r _ _ (fun x I=>hl x (by simp[I])) hB.2 h)
end
theorem IZ{P:Program}{ops:Array Oper}{Q R:Act->Prop}(h:∀ a,Q a->R a):∀ (l:List Oper) (a:Act),QJ P ops Q l a->QJ P ops R l a
 | [],a,hh=>h a hh
 | _::r,_,⟨v,hy,hh⟩=>⟨v,hy,IZ h r _ hh⟩
end
section
section
variable {P : Program} {ops : Array Oper} {md : Region.Mode} {C : World → Prop}
def sC(P:Program)(md:Region.Mode)(ops:Array Oper)(C:World->Prop)(S:List Nat)(f:Nat)(L:Array Bool->Act->Prop):Nat->Array Bool->Act->Prop
 | 0,listed,a=>L listed a
 | d+1,listed,a=>(∃ i∈Region.ready md ops listed,i∈S)/\∀ i∈Region.ready md ops listed,i=f\/(i∈S/\qOp P ops C i (sC P md ops C S f L d (listed.setIfInBounds i true)) a)
def zR(md:Region.Mode)(ops:Array Oper)(S:List Nat)(f:Nat):Nat->Array Bool->Bool
 | 0,_=>true
 | d+1,L=>(Region.ready md ops L).all (fun j=>S.contains j||j == f)&&(Region.ready md ops (L.setIfInBounds f true)).all (fun j=>S.contains j) &&
  (Region.ready md ops L).all (fun j=>!S.contains j||zR md ops S f d (L.setIfInBounds j true))
theorem xP{S:List Nat}{f d j:Nat}{L:Array Bool}(h:zR md ops S f (d+1) L=true)(t:j∈Region.ready md ops L)(z:j∈S):zR md ops S f d (L.setIfInBounds j true)=true:=by
 simp only[zR,aGu]at h;have:=aGD.1 h.2 j t;simpa[z] using this
theorem QL{S:List Nat}{f d j:Nat}{L:Array Bool}(h:zR md ops S f (d+1) L=true)(t:j∈Region.ready md ops L):j∈S\/j=f:=by
 simp only[zR,aGu]at h;have:=aGD.1 h.1.1 j t;simpa using this
theorem aFd{S:List Nat}{f d j:Nat}{L:Array Bool}(h:zR md ops S f (d+1) L=true)(t:j∈Region.ready md ops (L.setIfInBounds f true)):j∈S:=by
 simp only[zR,aGu]at h;have:=aGD.1 h.1.2 j t;simpa using this
theorem SQ{S:List Nat}{f i:Nat}{F:Oper}{v:Value}{L:Array Bool->Act->Prop}(hi:ops[i]? = some F)(aE:∀ (j:Nat) (o:Oper) I b,ops[j]? = some o->o.op≠.select I b)
 (aA:i∈S)(aJ:f ∉ S)(aH:∀ listed a,L listed a->∀ j∈Region.ready md ops listed,j ∉ S)(d:Nat):
  ∀ (listed:Array Bool) (a:Act),zR md ops S f (d+1) listed=true ->
   (∀ j oj,ops[j]? = some oj->j≠i->listed.getD j true=false->(∀ e∈oj.after,Region.binds md e=true->e.on≠i)->F.apart ops oj=true) ->
   i∈Region.ready md ops listed->YieldsIn P ops C F v a ->
   sC P md ops C S f L d (listed.setIfInBounds i true) (a.put F.dst v)->sC P md ops C S f L (d+1) listed a:=by
 induction d with
 | zero =>
  intro listed a hall _ J O H;refine⟨⟨i,J,aA⟩,fun j z=>?_⟩;rcases QL hall z with G|U
  ·refine .inr ⟨G,?_⟩
   by_cases t:j=i
   ·subst t;exact O.qOp hi H
   ·exact absurd G (aH _ _ H j (aHo z t))
  ·exact .inl U
 | succ d ih =>
  intro listed a hall Z J O H;refine⟨⟨i,J,aA⟩,fun j z=>?_⟩;rcases QL hall z with G|U
  ·refine .inr ⟨G,?_⟩;have aP:=(aGQ.1 J).1
   by_cases t:j=i
   ·subst t;exact O.qOp hi H
   ·obtain⟨aC,oj,V,aG⟩:=aGQ.1 z;have aN:∀ e∈oj.after,Region.binds md e=true->e.on≠i:=fun e he hb aI=>by
     have h1:=aG e he hb;rw[aI,aHs aP]at h1;cases h1
    have hq:qOp P ops C j (sC P md ops C S f L d ((listed.setIfInBounds i true).setIfInBounds j true)) (a.put F.dst v):=by
     rcases H.2 j (aHo z t) with h|h
     ·subst h;exact absurd G aJ
     ·exact h.2
    have h2:=qOp_put V (Z j oj V t aC aN) (fun I b=>aE i F I b hi) (fun I b=>aE j oj I b V) O hq;have aK:∀ k ok,ops[k]? = some ok->k≠i->(listed.setIfInBounds j true).getD k true=false ->
      (∀ e∈ok.after,Region.binds md e=true->e.on≠i)->F.apart ops ok=true:=fun k ok hk aL aD aM=>by
     refine Z k ok hk aL ?_ aM
     by_cases aB:j=k
     ·subst aB;exact aC
     ·rw[aHC true aB]at aD;exact aD
    refine aIy (fun a' W=>ih (listed.setIfInBounds j true) a' (xP hall z G) aK (aHo J (aHr t)) W.1 ?_) h2;rw[aIn _ _ t];exact W.2
  ·exact .inl U
def aDu(md:Region.Mode)(ops:Array Oper)(B:Array Bool->Bool):List Nat->Array Bool->Bool
 | [],L=>B L
 | i::r,L=>(Region.ready md ops L).contains i&&Region.free md ops L i&&aDu md ops B r (L.setIfInBounds i true)
theorem K7{S:List Nat}{f:Nat}{B:Array Bool->Bool}{t:Act->Prop}(O:Region.noSelect ops=true)(I:f ∉ S)(G:∀ listed,B listed=true->∀ j∈Region.ready md ops listed,j ∉ S):
  ∀ (is:List Nat) (listed:Array Bool) (a:Act),(∀ i∈is,i∈S)->(∀ i∈is,i<ops.size)->zR md ops S f is.length listed=true ->
  aDu md ops B is listed=true->wpQuiet P ops C t (j6 ops is) a ->
  sC P md ops C S f (fun U F=>B U=true/\t F) is.length listed a
 | [],listed,a,_,_,_,hB,h=>⟨by simpa[aDu] using hB,h⟩
 | i::r,listed,a,hS,hl,hall,hB,h=>by
  have hi:i<ops.size:=hl i (by simp);have d:ops[i]? = some ops[i]:=aI9 hi;have e:j6 ops (i::r)=ops[i]::j6 ops r:=by unfold j6;rw[List.filterMap_cons,d]
  rw[e]at h;simp only[aDu,aGu]at hB;have J:i∈Region.ready md ops listed:=by simpa using hB.1.1
  have W:qOp P ops C i (wpQuiet P ops C t (j6 ops r)) a:=by unfold qOp;simp only[d];exact h
  obtain⟨v,Z,V⟩:=aIC d W;exact SQ d (aIc O) (hS i (by simp)) I (fun U F hL=>G _ hL.1) r.length listed a hall (aIR d hB.1.2) J Z
   (K7 O I G r _ _ (fun x z=>hS x (by simp[z])) (fun x z=>hl x (by simp[z])) (xP hall J (hS i (by simp))) hB.2 V)
def aFi(md:Region.Mode)(ops:Array Oper)(S:List Nat)(f:Nat):Bool:=S.all fun j=>!Region.waitsFor md ops j f&&match ops[f]?,ops[j]? with
 | some x,some y=>x.apart ops y
 | _,_=>false
theorem yK{S:List Nat}{f:Nat}{t:Oper}{L:Array Bool->Act->Prop}{p:Value}(hf:ops[f]? = some t)(V:f ∉ S)(aG:∀ (j:Nat) (o:Oper) U b,ops[j]? = some o->o.op≠.select U b)(aF:aFi md ops S f=true):
  ∀ (d:Nat) (listed:Array Bool) (a:Act),zR md ops S f d listed=true->sC P md ops C S f L d listed a ->
   sC P md ops C S f (fun l' O=>∃ l a,L l a/\l'=l.setIfInBounds f true/\O=a.put t.dst p) d (listed.setIfInBounds f true) (a.put t.dst p)
 | 0,listed,a,_,h=>⟨listed,a,h,rfl,rfl⟩
 | d+1,listed,a,hall,h=>by
  obtain⟨i0,aK,aD⟩:=h.1;refine⟨⟨i0,aHo aK (fun e=>by subst e;exact V aD),aD⟩,fun j hj=>?_⟩;have I:=aFd hall hj;have Z:j≠f:=fun e=>by subst e;exact V I
  have J:=aGD.1 aF j I;simp only[aGu,aIQ]at J;have W:j∈Region.ready md ops listed:=by
   obtain⟨h1,oj,z,aI⟩:=aGQ.1 hj;refine aGQ.2 ⟨by rw[aHC true (aHr Z)]at h1;exact h1,oj,z,fun e he hb=>?_⟩;have h2:=aI e he hb
   by_cases aC:e.on=f
   ·have G:Region.waitsFor md ops j f=true:=by
     unfold Region.waitsFor;simp only[z];exact Array.any_eq_true'.2 ⟨e,he,by simp[hb,aC]⟩
    rw[G]at J;cases J.1
   ·rwa [aHC false (aHr aC)]at h2
  refine .inr ⟨I,?_⟩;have F:qOp P ops C j (sC P md ops C S f L d (listed.setIfInBounds j true)) a:=by
   rcases h.2 j W with h|h
   ·exact absurd h Z
   ·exact h.2
  obtain⟨_,oj,z,_⟩:=aGQ.1 W;have aJ:t.apart ops oj=true:=by have:=J.2;simpa only[hf,z] using this
  obtain⟨h1,h2,h3⟩:=aJb aJ;have aH:∀ u,sC P md ops C S f L d (listed.setIfInBounds j true) (a.put oj.dst u)->sC P md ops C S f (fun l' O=>∃ l a,L l a/\l'=l.setIfInBounds f true/\O=a.put t.dst p) d ((listed.setIfInBounds f true).setIfInBounds j true) ((a.put t.dst p).put oj.dst u):=fun u hu=>by
   have:=yK (p:=p) hf V aG aF d _ _ (xP hall W I) hu;rw[aIn _ _ (aHr Z),<-Act.put_comm a u p (fun k hk he=>h2 k he hk)];exact this
  unfold qOp at F ⊢;simp only[z]at F ⊢;rw[aIW oj a t.dst p h1];split
  ·rename_i G
   simp only[G,aHW]at F;obtain⟨u,hu,hk⟩:=F;refine⟨u,fun w aL=>?_,aH u hk⟩;have:=hu w aL;unfold Oper.quietAt at *
   rwa [aIV oj (fun U b=>aG j oj U b z) a t.dst p h1]
  ·rename_i G
   simp only[G]at F;exact aH undef F
theorem xR{S:List Nat}{f g:Nat}{t:Oper}{v:Value}{L:Array Bool->Act->Prop}{Q':Exit->Act->World->Prop}(hf:ops[f]? = some t)(aD:f ∉ S)(aA:∀ (j:Nat) (o:Oper) U b,ops[j]? = some o->o.op≠.select U b)(W:aFi md ops S f=true)
 (hL:∀ listed a w,C w->L listed a->YieldsIn P ops C t v a->wpAny P md ops Q' (g+1) listed a w)
 (aC:∀ listed a w,C w->L listed a->wpAny P md ops Q' g (listed.setIfInBounds f true) (a.put t.dst v) w):
  ∀ (d:Nat) (listed:Array Bool) (a:Act) (w:World),C w->zR md ops S f d listed=true->YieldsIn P ops C t v a->sC P md ops C S f L d listed a->wpAny P md ops Q' (d+(g+1)) listed a w
 | 0,listed,a,w,J,_,O,h=>by rw[aGn];exact hL _ _ _ J h O
 | d+1,listed,a,w,J,hall,O,h=>by
  rw[show d+1+(g+1)=(d+(g+1))+1 by omega];obtain⟨i0,aE,_⟩:=h.1;refine⟨fun V=>(by rw[V]at aE;cases aE),fun i hi=>?_⟩;rcases h.2 i hi with rfl|⟨aF,Z⟩
  ·have H:=yK (p:=v) hf aD aA W (d+1) listed a hall h;have aS:∀ w',C w'->wpAny P md ops Q' (d+1+g) (listed.setIfInBounds i true) (a.put t.dst v) w':=by
    have go:∀ (e:Nat) (l:Array Bool) (b:Act) (w':World),C w'->l.getD i false=true->sC P md ops C S i (fun l' z=>∃ l a,L l a/\l'=l.setIfInBounds i true/\z=a.put t.dst v) e l b->wpAny P md ops Q' (e+g) l b w':=by
     intro e
     induction e with
     | zero =>
      intro l b w' F _ hh;obtain⟨l0,a0,h1,rfl,rfl⟩:=hh;rw[aGn];exact aC l0 a0 w' F h1
     | succ e ih =>
      intro l b w' F aJ hh;rw[show e+1+g=(e+g)+1 by omega];obtain⟨j0,aH,_⟩:=hh.1;refine⟨fun V=>(by rw[V]at aH;cases aH),fun j hj=>?_⟩;rcases hh.2 j hj with rfl|⟨_,Z⟩
      ·have h1:=aHs (aGQ.1 hj).1;rw[aJ]at h1;cases h1
      ·exact aIB F (fun z aV aO h'=>ih _ z aV aO (getD_set_true aJ) h') Z
    intro w' F;refine go (d+1) _ _ w' F ?_ H;obtain⟨aN,G,I,_⟩:=aGQ.1 hi;have hlt:i<listed.size:=by
     rcases aGt i listed.size with h|h
     ·exact h
     ·simp[aHl h]at aN
    simp[hlt]
   have:=aIB (Q':=Q') (K':=wpAny P md ops Q' (d+1+g) (listed.setIfInBounds i true)) (K:=fun z=>z=a.put t.dst v) J (fun z w' F ha=>by rw[ha];exact aS w' F) (O.qOp hf rfl)
   rwa [show d+1+g=d+(g+1) by omega]at this
  ·obtain⟨_,G,I,_⟩:=aGQ.1 hi;have aI:=aGD.1 W i aF;simp only[aGu,hf,I]at aI;obtain⟨h1,h2,h3⟩:=aJb aI.2;obtain⟨u,aQ,hK⟩:=aIC I Z;have aP:YieldsIn P ops C t v (a.put G.dst u):=O.of_same (aIV t (fun U b=>aA f t U b hf) a G.dst u h3) (aIW t a G.dst u h3);exact aIB (K:=fun z=>z=a.put G.dst u) J (fun z w' F ha=>by
    rw[ha];exact xR hf aD aA W hL aC d _ _ w' F (xP hall hi aF) aP hK) (aQ.qOp I rfl)
end
def aC4(md:Region.Mode)(ops:Array Oper)(S:List Nat)(f t:Nat)(d:List Nat)(L:Array Bool):Bool :=
 (Region.ready md ops L).all (fun j=>j == f||j == t)&&!(Region.ready md ops L).isEmpty&&UO md ops (t::d) (L.setIfInBounds f true)&&UO md ops (f::d) (L.setIfInBounds t true)&&(Region.ready md ops L).all (fun j=>!S.contains j)
def aAg(md:Region.Mode)(ops:Array Oper)(T S:List Nat)(f t:Nat)(d:List Nat):Bool :=
 Region.noSelect ops&&PG md ops T (Array.replicate ops.size false)&&zR md ops S f S.length (PA (Array.replicate ops.size false) T)&&aDu md ops (aC4 md ops S f t d) S (PA (Array.replicate ops.size false) T)&&aFi md ops S f &&
 (T++S++(f::t::d)).all (fun i=>decide (i<ops.size))&&decide (ops.size=T.length+(S.length+(d.length+1+1)))&&!S.contains f
theorem A9{P:Program}{id:Nat}{Q:Exit->Act->World->Prop}{a:Act}{w:World}{z:List Oper}(T S:List Nat)(f t:Nat)(G:List Nat){O:Oper}{v:Value}(hm:P.follows .mixedOrders=true)(hB:aAg .any z.toArray T S f t G=true)(aH:z.toArray[f]? = some O)
 (hQ:∀ c F w' d v,Q (.panic c) (F.put d v) w'->Q (.panic c) F w')
 (h:QJ P z.toArray (fun U=>YieldsIn P z.toArray (fun w'=>∃ x:GW w,w'=x.1) O v U/\wpQuiet P z.toArray (fun w'=>∃ x:GW w,w'=x.1) (fun F=>∀ w',(∃ x:GW w,w'=x.1) ->
   wpList P z.toArray Q (j6 z.toArray (t::G)) (F.put O.dst v) w'/\wpList P z.toArray Q (j6 z.toArray (t::f::G)) F w') (j6 z.toArray S) U) (j6 z.toArray T) a):
  (Code.region id z.toArray true).wp P Q a w:=by
 refine aIf hm ?_;simp only[aAg,aGu,aGy,aIQ]at hB;obtain⟨⟨⟨⟨⟨⟨⟨aC,aT⟩,hall⟩,aQ⟩,aP⟩,aN⟩,aS⟩,aM⟩:=hB;have J:∀ i,i∈T++S++(f::t::G)->i<z.toArray.size:=fun i hi=>by simpa using aGD.1 aN i hi
 have aF:f ∉ S:=by simpa using aM
 have ht:t<z.toArray.size:=J t (by simp);have aD:z.toArray[t]? = some z.toArray[t]:=Array.getElem?_eq_getElem ht;have W:∀ l,j6 z.toArray (t::l)=z.toArray[t]::j6 z.toArray l:=fun l=>by unfold j6;rw[List.filterMap_cons,aD]
 rw[W,W]at h;have aI:=KD (P:=P) (md:=.any) (Q':=Q) (g:=S.length+(G.length+1+1)) (w:={ w with drawn:=w.drawn+1 }) aC hQ T (Array.replicate z.toArray.size false) a (fun i hi=>J i (by simp[hi])) aT (IZ (fun U h1=>by
  obtain⟨hy,hq⟩:=h1;have H:=K7 (C:=fun w'=>∃ x:GW w,w'=x.1) (B:=aC4 .any z.toArray S f t G) aC aF (fun listed hb j hj=>by
   simp only[aC4,aGu]at hb;simpa using aGD.1 hb.2 j hj) S _ U (fun i hi=>hi) (fun i hi=>J i (by simp[hi])) hall aQ hq
  refine xR (g:=G.length+1) aH aF (aIc aC) aP (fun listed F w' aA hL aW=>?_) (fun listed F w' aA hL=>?_) S.length _ U _ ⟨⟨_,(aGj w.heap.size w).drew⟩,rfl⟩ hall hy H
  ·obtain⟨hb,Z⟩:=hL;simp only[aC4,aGu]at hb;refine⟨fun h0=>(by
    have:=hb.1.1.1.2;rw[h0]at this;cases this),fun i hi=>?_⟩
   have aG:=aGD.1 hb.1.1.1.1 i hi;simp only[aHw,aIl]at aG;rcases aG with rfl|rfl
   ·exact aIB (K:=fun V=>V=F.put O.dst v) aA (fun V aB aU ha=>by
     rw[ha];have:=iU (t::G) (listed.setIfInBounds i true) (F.put O.dst v) aB (fun x I=>J x (by simp at I ⊢;rcases I with h|h <;> simp[h])) hb.1.1.2 (by rw[W];exact (Z aB aU).1);simpa using this) (aW.qOp aH rfl)
   ·exact aIA (fun V aB h'=>by
     have:=iU (f::G) (listed.setIfInBounds i true) V aB (fun x I=>J x (by simp at I ⊢;rcases I with h|h <;> simp[h])) hb.1.2 h';simpa using this) (nM aD (Z w' aA).2)
  ·obtain⟨hb,Z⟩:=hL;simp only[aC4,aGu]at hb;have:=iU (t::G) (listed.setIfInBounds f true) (F.put O.dst v) w' (fun x I=>J x (by simp at I ⊢;rcases I with h|h <;> simp[h])) hb.1.1.2 (by rw[W];exact (Z w' aA).1);simpa using this) _ _ h)
 rw[<-aS]at aI;exact aI
end
section
section
variable {P : Program} {ops : Array Oper} {md : Region.Mode} {C : World → Prop}
theorem yI{n f:Nat}{L:Array Bool->Act->Prop}(hf:ops.size<=f):∀ (d:Nat) (listed:Array Bool) (a:Act),uY P md ops C n f L d listed a->iZ P md ops C n L d listed a
 | 0,_,_,h=>h
 | d+1,listed,a,h=>by
  obtain⟨J,t,_⟩:=h.1;refine⟨fun F=>(by rw[F]at t;cases t),fun i hi=>?_⟩;rcases h.2 i hi with rfl|⟨h1,h2⟩
  ·obtain⟨_,O,I,_⟩:=aGQ.1 hi;have:=(aIm.1 I).1;omega
  ·exact⟨h1,aIy (fun z G=>yI hf d _ z G) h2⟩
def aEy(md:Region.Mode)(ops:Array Oper)(n:Nat)(listed:Array Bool):Bool :=
 decide (Region.ready md ops listed=[n])&&U3 md ops n [n+4,n+5] (listed.setIfInBounds n true)
def aE7(md:Region.Mode)(ops:Array Oper)(n:Nat):Bool :=
 Region.noSelect ops&&decide (ops.size=n+6)&&Region.sinkB md ops n&&wE md ops n (n+6)&&JV md ops (aEy md ops n) n 0 (Array.replicate (n+6) false)
end
section
variable {P : Program}
theorem JC{id:Nat}{Q':Exit->Act->World->Prop}{a:Act}{w:World}{z:List Oper}(n:Nat){t0 J O U V W:Oper}(hm:P.follows .mixedOrders=true)(hd:z.drop n=[t0,J,O,U,V,W])(hB:aE7 .any z.toArray n=true)
 (p1:j4 J=true)(p2:j4 O=true)(p3:j4 U=true)
 (hQ:∀ c G w' d v,Q' (.panic c) (G.put d v) w'->Q' (.panic c) G w')
 (h:wpQuiet P z.toArray (fun w'=>∃ x:GW w,w'=x.1) (fun G=>∀ w',(∃ x:GW w,w'=x.1)->wpList P z.toArray Q' [t0,J,O,U,V,W] G w') (z.take n) a):
  (Code.region id z.toArray true).wp P Q' a w:=by
 refine aIf hm ?_;simp only[aE7,aGu,aGy]at hB;obtain⟨⟨⟨⟨aH,Z⟩,hs⟩,hc⟩,aN⟩:=hB;have aB:z.length=n+6:=by simpa using Z
 have F:∀ i o',([t0,J,O,U,V,W]:List Oper)[i]? = some o'->z.toArray[n+i]? = some o':=fun i o' hi=>by
  rw[<-hd,aHp]at hi;simpa using hi
 have i0:=F 0 t0 rfl;have i1:=F 1 J rfl;have i2:=F 2 O rfl;have i3:=F 3 U rfl;have i4:=F 4 V rfl;have i5:=F 5 W rfl;have aC:(z.take n).length=n:=by rw[aGB];omega
 have aX:aF9 .any z.toArray n (n+6) (Array.replicate (n+6) false) :=
  ⟨by simp[aB],fun j oj _ hl=>(by rw[aHO]at hl;cases hl),fun t _ ht=>aH6 (by simpa[aB] using ht) (aHO _ _)⟩
 have H:=AD (C:=fun w'=>∃ x:GW w,w'=x.1) (B:=aEy .any z.toArray n) aH (by omega:n<n+6) hs hc (by rw[Z];omega) (fun listed hb j I=>by
  simp only[aEy,aGu,aGy]at hb;rw[hb.1]at I;have:j=n:=by simpa using I
  omega) (z.take n) 0 (Array.replicate (n+6) false) a (fun j I=>by
   rw[aC]at I;simp[I]) (by omega) aX (by rw[aC];exact aN) h
 rw[aC]at H;have H2:=yI (by rw[Z];exact LE _) n _ _ H;have oA:j6 z.toArray [n+4,n+5]=[V,W]:=by simp only[j6,List.filterMap_cons,i4,i5,List.filterMap_nil]
 have:=kN (Q':=Q') (g:=6) (fun listed G w' aQ hL=>by
  obtain⟨⟨hb,_⟩,hq⟩:=hL;simp only[aEy,aGu,aGy]at hb;refine⟨fun h0=>(by rw[hb.1]at h0;cases h0),fun i hi=>?_⟩;rw[hb.1]at hi;obtain rfl:i=n:=by simpa using hi
  exact aIA (fun a2 a3 h'=>ET (is:=[i+4,i+5]) aH i1 i2 i3 p1 p2 p3 hQ hb.2 (by simp[aB]) (by rw[oA];exact h')) (nM i0 (hq w' aQ))) n _ a { w with drawn:=w.drawn+1 } ⟨⟨_,(Below.refl w.heap.size w).drew⟩,rfl⟩ H2
 rw[Z];exact this
end
end
end Go.Proofs.YtbpgfkjhclpbdaaGreatDoor
