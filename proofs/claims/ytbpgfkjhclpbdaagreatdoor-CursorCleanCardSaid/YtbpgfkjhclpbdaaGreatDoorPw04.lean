/- Calm, Drawn, CalmT. Conditions: as each theorem states. -/
import Derived.StillTail
import Derived.Test.YtbpgfkjhclpbdaaGreatDoorPw03
namespace Go.Proofs.YtbpgfkjhclpbdaaGreatDoor
abbrev aHs:=@Go.getD_both
abbrev aHO:=@Go.getD_replicate_false
abbrev aH6:=@Go.getD_in
abbrev aId:=@Go.Region.waitsFor_spec
open Tryz
open Go.RowKit
section
section
variable {P : Program} {ops : Array Oper} {md : Region.Mode} {C : World → Prop}
def iZ(P:Program)(md:Region.Mode)(ops:Array Oper)(C:World->Prop)(n:Nat)(L:Array Bool->Act->Prop):Nat->Array Bool->Act->Prop
 | 0,listed,a=>L listed a
 | f+1,listed,a=>Region.ready md ops listed≠[]/\∀ i∈Region.ready md ops listed,i<n/\qOp P ops C i (iZ P md ops C n L f (listed.setIfInBounds i true)) a
theorem kN{n g:Nat}{L:Array Bool->Act->Prop}{Q':Exit->Act->World->Prop}(hL:∀ listed a w,C w->L listed a->wpAny P md ops Q' g listed a w):
  ∀ (f:Nat) (listed:Array Bool) (a:Act) (w:World),C w->iZ P md ops C n L f listed a->wpAny P md ops Q' (f+g) listed a w
 | 0,listed,a,w,d,h=>by rw[aGn];exact hL _ _ _ d h
 | f+1,listed,a,w,d,h=>by
  rw[show f+1+g=(f+g)+1 by omega];exact⟨fun F=>absurd F h.1,fun i hi=>aIB d (fun t w' G z=>kN hL f _ t w' G z) (h.2 i hi).2⟩
theorem XY{n i:Nat}{F:Oper}{v:Value}{L:Array Bool->Act->Prop}(hi:ops[i]? = some F)(aG:∀ (j:Nat) (o:Oper) G b,ops[j]? = some o->o.op≠.select G b)
 (hs:Region.sinkB md ops n=true)(W:Region.chainB md ops n=true)(hn:n<ops.size)(aA:i<n)
 (aJ:∀ listed a,L listed a->∀ j∈Region.ready md ops listed,n<=j)(f:Nat):
  ∀ (listed:Array Bool) (a:Act),HeadInv md ops n listed ->
   (∀ j oj,ops[j]? = some oj->j≠i->listed.getD j true=false->(∀ e∈oj.after,Region.binds md e=true->e.on≠i)->F.apart ops oj=true) ->
   i∈Region.ready md ops listed->YieldsIn P ops C F v a ->
   iZ P md ops C n L f (listed.setIfInBounds i true) (a.put F.dst v)->iZ P md ops C n L (f+1) listed a:=by
 induction f with
 | zero =>
  intro listed a O _ t J H;refine⟨fun h=>(by rw[h]at t;cases t),fun j z=>?_⟩;have I:j<n:=by
   rcases aGt j n with h|h
   ·exact h
   ·exact absurd z (tail_waits hs W hn O _ i rfl aA (aGQ.1 t).1 j h)
  refine⟨I,?_⟩
  by_cases d:j=i
  ·subst d;exact J.qOp hi H
  ·have:=aJ _ _ H j (aHo z d);omega
 | succ f ih =>
  intro listed a O Z t J H;refine⟨fun h=>(by rw[h]at t;cases t),fun j z=>?_⟩;have aH:=(aGQ.1 t).1;have I:j<n:=by
   rcases aGt j n with h|h
   ·exact h
   ·exact absurd z (tail_waits hs W hn O _ i rfl aA aH j h)
  refine⟨I,?_⟩
  by_cases d:j=i
  ·subst d;exact J.qOp hi H
  ·obtain⟨aC,oj,U,hall⟩:=aGQ.1 z;have aO:∀ e∈oj.after,Region.binds md e=true->e.on≠i:=fun e he hb aK=>by
    have h1:=hall e he hb;rw[aK,aHs aH]at h1;cases h1
   have h2:=qOp_put U (Z j oj U d aC aO) (fun G b=>aG i F G b hi) (fun G b=>aG j oj G b U) J (H.2 j (aHo z d)).2;have aL:∀ k ok,ops[k]? = some ok->k≠i->(listed.setIfInBounds j true).getD k true=false ->
     (∀ e∈ok.after,Region.binds md e=true->e.on≠i)->F.apart ops ok=true:=fun k ok hk aM aD aN=>by
    refine Z k ok hk aM ?_ aN
    by_cases aB:j=k
    ·subst aB;exact aC
    ·rw[aHC true aB]at aD;exact aD
   refine aIy (fun a' V=>ih (listed.setIfInBounds j true) a' (O.set z I) aL (aHo t (aHr d)) V.1 ?_) h2;rw[aIn _ _ d];exact V.2
theorem SU{n g:Nat}{t:Act->Prop}(U:Region.noSelect ops=true)(O:Region.sinkB md ops n=true)(F:Region.chainB md ops n=true)(I:n<ops.size):
  ∀ (l:List Oper) (k:Nat) (listed:Array Bool) (a:Act),(∀ j,j<l.length->l[j]? = ops[k+j]?)->k+l.length=n->HeadInv md ops n listed ->
  Region.lexHead md ops g l.length k listed=true->wpQuiet P ops C t l a ->
  iZ P md ops C n (fun V z=>Region.seqB md ops g n V=true/\t z) l.length listed a
 | [],k,listed,a,_,hk,_,hB,h=>by
  have:k=n:=by simpa using hk
  subst this;exact⟨by simpa[Region.lexHead] using hB,h⟩
 | o::l,k,listed,a,hl,hk,inv,hB,h=>by
  have d:ops[k]? = some o:=by simpa using (hl 0 (by simp)).symm
  simp only[List.length_cons,Region.lexHead,aGu]at hB;have G:k<n:=by simp only[List.length_cons]at hk;omega
  have J:k∈Region.ready md ops listed:=by simpa using hB.1.1
  have Z:qOp P ops C k (wpQuiet P ops C t l) a:=by unfold qOp;simp only[d];exact h
  obtain⟨v,hy,W⟩:=aIC d Z;exact XY d (aIc U) O F I G (fun V z hL=>seqB_ready hL.1) l.length listed a inv (aIR d hB.1.2) J hy
   (SU U O F I l (k+1) _ _ (fun j hj=>by have:=hl (j+1) (by simp;omega);simpa[aG4,aIv 1 j] using this) (by simp only[List.length_cons]at hk;omega) (inv.set J G) hB.2 W)
theorem JI{Q:Exit->Act->World->Prop}{a:Act}{w:World}{l:List Oper}(n:Nat)(F:Region.lexTailB .any l.toArray n=true)
 (h:wpQuiet P l.toArray (fun w'=>∃ x:GW w,w'=x.1) (fun z=>∀ w',(∃ x:GW w,w'=x.1)->wpList P l.toArray Q (l.drop n) z w') (l.take n) a):wpAny P .any l.toArray Q l.toArray.size (Array.replicate l.toArray.size false) a { w with drawn:=w.drawn+1 }:=by
 simp only[Region.lexTailB,aGu,aGy]at F;obtain⟨⟨⟨⟨aA,O⟩,Z⟩,U⟩,W⟩:=F;have aD:n<l.length:=by simpa using O
 have d:(l.take n).length=n:=by simp;omega
 have G:(l.drop n).length=l.toArray.size-n:=by simp
 have aC:HeadInv .any l.toArray n (Array.replicate l.toArray.size false) :=
  ⟨by simp,fun j oj _ J=>(by rw[aHO]at J;cases J),fun t _ ht=>aH6 (by simpa using ht) (aHO _ _)⟩
 have H:=SU (md:=.any) (g:=l.toArray.size-n) aA Z U O (l.take n) 0 _ a (fun j I=>by
  have V:j<n:=by rw[d]at I;exact I
  simp[V]) (by simpa using d) aC (by rw[d];exact W) h
 have:=kN (Q':=Q) (g:=l.toArray.size-n) (fun listed z w' aB hL=>by
  have:=wpAny_of_seq (md:=.any) (Q':=Q) (l.drop n) n listed z w' (fun j=>by simp[List.getElem?_drop]) (by rw[G];exact hL.1) (hL.2 w' aB)
  rwa [G]at this) _ _ _ { w with drawn:=w.drawn+1 } ⟨⟨_,(Below.refl w.heap.size w).drew⟩,rfl⟩ H
 rw[d,show n+(l.toArray.size-n)=l.toArray.size by omega]at this;exact this
theorem aJ{id:Nat}{Q:Exit->Act->World->Prop}{a:Act}{w:World}{l:List Oper}(n:Nat)(hm:P.follows .mixedOrders=true)(t:Region.lexTailB .any l.toArray n=true)
 (h:wpQuiet P l.toArray (fun w'=>∃ x:GW w,w'=x.1) (fun d=>∀ w',(∃ x:GW w,w'=x.1)->wpList P l.toArray Q (l.drop n) d w') (l.take n) a):(Code.region id l.toArray true).wp P Q a w :=
 aIf hm (JI n t h)
end
theorem aQ{W w':World}(h:∃ x:GW W,w'=x.1):Below W.heap.size W w':=by obtain⟨x,rfl⟩:=h;exact x.2
theorem iX{W:World}{g:Nat}{t:TypeId}{d:List Value}(h:Blk W g t d)(x:GW W)(i:Nat):x.1.cell? ⟨g,i,none⟩=d[i]?:=(DQ x h.lt).trans (h.cell i)
theorem aH{w:World}{g:Nat}{t:TypeId}{d:List Value}(h:Blk w g t d):∀ i,w.cell? ⟨g,i,none⟩=d[i]?:=h.cell
theorem mP{w:World}{g:Nat}{t:TypeId}{d:List Value}(h:Blk w g t d):∀ i,w.frozen? ⟨g,i,none⟩=false:=h.frozen
end
section
section
variable {P : Program}
theorem ML{m t:Machine}(n:Nat)(h:runN P n m=.next t)(k:Nat):runN P (n+k) m=runN P k t:=by
 induction n generalizing m with
 | zero=>rw[aGn];simp only[runN]at h;injection h with h;subst h;rfl
 | succ n z =>
  rw[show n+1+k=(n+k)+1 by omega];simp only[runN]at h ⊢;cases d:step P m with
  | next F=>rw[d]at h;simp only at h ⊢;exact z h
  | ended o w=>rw[d]at h;simp at h
def nG:Frame:={ fn:=0,tmps:=#[],todo:=[.code (.cond (.const (.int .i64 0)) .skip .skip)],defers:=[],mode:=.run,kind:=.normal }
theorem ZK(w:World):∃ o w',step P (lone nG [] w)=.ended o w':=by
 refine ⟨_, _, step_lone_ended (o := .stuck "cond: bool expected" (nG.pos P)) (w' := w) ?_⟩
 simp[stepG,stepG.exec,nG,Frame.eval,GStep.bare]
theorem BK{f:FuncId}{args:Array Value}{w:World}{v:Value}{A:World->Prop}(h:Calls P f args w fun e w'=>e=.returned v/\A w'):
  ∃ n w' fr,runN P n (lone (Frame.enter P f args .normal) [nG] w)=.next (lone fr [nG] w')/\fr.leaving P w' (.returned v):=by
 obtain⟨e,w',fr,⟨rfl,_⟩,z,_,d⟩:=h [nG];obtain⟨n,t⟩:=z;exact⟨n,w',fr,t,d⟩
theorem YD{fr:Frame}{w:World}{v:Value}(h:fr.leaving P w (.returned v)):runN P 1 (lone fr [nG] w)=.next (lone nG [] w):=by
 simp only[runN,step_leave_returned h]
 rfl
theorem QW{f:FuncId}{args:Array Value}{w:World}{v1 G:Value}{A B:World->Prop}(h1:Calls P f args w fun e w'=>e=.returned v1/\A w')(h2:Calls P f args w fun e w'=>e=.returned G/\B w'):v1=G:=by
 obtain⟨t,F,f1,I,O⟩:=BK h1;obtain⟨z,w2,f2,h,W⟩:=BK h2;have V:∀ (t z:Nat) (F w2:World) (f1 f2:Frame) (v1 G:Value),runN P t (lone (Frame.enter P f args .normal) [nG] w)=.next (lone f1 [nG] F)->f1.leaving P F (.returned v1) ->
   runN P z (lone (Frame.enter P f args .normal) [nG] w)=.next (lone f2 [nG] w2)->¬ t<z:=by
  intro t z F w2 f1 f2 v1 G I O h hlt;obtain⟨d,rfl⟩:∃ d,z=t+(1+d):=⟨z-t-1,by omega⟩;rw[ML t I,ML 1 (YD O)]at h;obtain⟨o,w',hs⟩:=ZK (P:=P) F;cases d with
  | zero =>
   simp only[runN]at h;injection h with h
   simp[lone]at h
  | succ d=>simp[runN,hs]at h
 have hn:t=z:=by
  have a:=V t z F w2 f1 f2 v1 G I O h;have b:=V z t w2 F f2 f1 G v1 h W I;omega
 subst hn;rw[I]at h;injection h with h
 simp only[lone,Machine.mk.injEq]at h;obtain⟨rfl,Z,_⟩:=h;have hf:f1=f2:=by simpa using Z
 subst hf;obtain⟨_,_,_,g1,aA,aC⟩:=O;obtain⟨_,_,_,g2,J,U⟩:=W;rw[aA]at J;injection J with J
 subst J;rw[aC]at U;injection U with U
variable {ops : Array Oper} {md : Region.Mode} {w : World}
theorem vK{o:Oper}{a:Act}{W:World}{v1 d:Value}{A B:World->Prop}(h1:o.quietAt P a A W v1)(h2:o.quietAt P a B W d):v1=d:=by
 unfold Oper.quietAt at h1 h2;generalize (execOp a.eval o).run P W=r at *
 cases r with
 | halt x w'=>simp only[Oper.quietUpon]at h1
 | ok n w' =>
  cases n <;> simp only[Oper.quietUpon]at h1 h2
  case value u=>exact h1.2.symm.trans h2.2
  case skip=>exact h1.2.trans h2.2.symm
  case enter f args=>exact QW h1.2 h2.2
theorem OO{o:Oper}{a:Act}{W:World}{v:Value}{A B:World->Prop}(h:∀ w,A w->B w)(h1:o.quietAt P a A W v):o.quietAt P a B W v:=by
 unfold Oper.quietAt at h1 ⊢;generalize (execOp a.eval o).run P W=r at *
 cases r with
 | halt x w'=>simp only[Oper.quietUpon]at h1
 | ok n w' =>
  cases n <;> simp only[Oper.quietUpon]at h1 ⊢ <;> try exact h1
  exact⟨h1.1,h1.2.mono fun e t ⟨he,d⟩=>⟨he,h _ d⟩⟩
abbrev Ltr(w W:World):Prop:=Below w.heap.size w W
theorem Ltr.trans{a b c:World}(h:Ltr a b)(k:Ltr b c):Ltr a c:=aC h k
def aCF(P:Program)(o:Oper)(a:Act)(w:World)(v:Value):Prop:=∀ W,Ltr w W->o.quietAt P a (Ltr W) W v
def YR(P:Program)(ops:Array Oper)(w:World)(o:Oper)(v:Value)(a:Act):Prop :=
 (Region.wanted o (yielded ops a.tmps)=true/\aCF P o a w v)\/(Region.wanted o (yielded ops a.tmps)=false/\v=undef)
def Special(P:Program)(ops:Array Oper)(w:World)(o:Oper)(a:Act)(H:Value->World->Prop):Prop :=
 Region.wanted o (yielded ops a.tmps)=true/\∀ W,Ltr w W->∃ v W',(execOp a.eval o).run P W=.ok (.value v) W'/\Ltr W W'/\H v W'
def qY(G:World->Prop):Prop:=∀ W W',G W->Ltr W W'->G W'
theorem YR.value{o:Oper}{v1 t:Value}{a:Act}(h1:YR P ops w o v1 a)(h2:YR P ops w o t a):v1=t:=by
 rcases h1 with ⟨h,z⟩|⟨h,rfl⟩
 ·rcases h2 with ⟨_,F⟩|⟨d,_⟩
  ·exact vK (z w (aGj _ _)) (F w (aGj _ _))
  ·rw[h]at d;cases d
 ·rcases h2 with ⟨d,_⟩|⟨_,rfl⟩
  ·rw[h]at d;cases d
  ·rfl
theorem YR.same{o:Oper}{v:Value}{a d:Act}(t:YR P ops w o v a)(he:execOp d.eval o=execOp a.eval o)
 (h:Region.wanted o (yielded ops d.tmps)=Region.wanted o (yielded ops a.tmps)):YR P ops w o v d:=by
 unfold YR aCF Oper.quietAt at *
 rw[he,h];exact t
theorem Special.same{o:Oper}{H:Value->World->Prop}{a d:Act}(t:Special P ops w o a H)(he:execOp d.eval o=execOp a.eval o)
 (h:Region.wanted o (yielded ops d.tmps)=Region.wanted o (yielded ops a.tmps)):Special P ops w o d H:=by
 unfold Special at *
 rw[he,h];exact t
def rR(P:Program)(ops:Array Oper)(w:World)(S:Nat->Option (Value->World->Prop))(T:(World->Prop)->Act->Prop):List Nat->(World->Prop)->Act->Prop
 | [],G,a=>T G a
 | j::r,G,a=>∃ o,ops[j]? = some o/\match S j with
  | some H=>Special P ops w o a H/\∀ v,rR P ops w S T r (fun W=>G W/\H v W) (a.put o.dst v)
  | none=>∃ v,YR P ops w o v a/\rR P ops w S T r G (a.put o.dst v)
variable {S : Nat → Option (Value → World → Prop)} {T : (World → Prop) → Act → Prop}
theorem wX(hT:∀ G d a,(∀ W,G W ↔ d W)->T G a->T d a):∀ (l:List Nat) (G d:World->Prop) (a:Act),(∀ W,G W ↔ d W)->rR P ops w S T l G a->rR P ops w S T l d a
 | [],G,d,a,hg,h=>hT G d a hg h
 | j::r,G,d,a,hg,⟨o,ho,h⟩=>by
  refine⟨o,ho,?_⟩;cases t:S j with
  | some H =>
   rw[t]at h;exact⟨h.1,fun v=>wX hT r _ _ _ (fun W=>by rw[hg W]) (h.2 v)⟩
  | none =>
   rw[t]at h;obtain⟨v,h1,h2⟩:=h;exact⟨v,h1,wX hT r _ _ _ hg h2⟩
theorem AQ(aG:∀ (j:Nat) (o:Oper) U b,ops[j]? = some o->o.op≠.select U b)(hT:∀ G G' a,(∀ W,G W ↔ G' W)->T G a->T G' a){j:Nat}{oj:Oper}(hj:ops[j]? = some oj):∀ (F J:List Nat) (G:World->Prop) (a:Act),
  (∀ k∈F,∀ ok,ops[k]? = some ok->ok.apart ops oj=true)->rR P ops w S T (F++j::J) G a ->
  match S j with
  | some H=>Special P ops w oj a H/\∀ v,rR P ops w S T (F++J) (fun W=>G W/\H v W) (a.put oj.dst v)
  | none=>∃ v,YR P ops w oj v a/\rR P ops w S T (F++J) G (a.put oj.dst v)
 | [],J,G,a,_,⟨o,ho,h⟩=>by
  have:o=oj:=aG7 (ho.symm.trans hj);subst this;exact h
 | k::F,J,G,a,hap,⟨ok,hok,h⟩=>by
  obtain⟨p1,p2,p3⟩:=aJb (hap k (by simp) ok hok);have Z:∀ u,execOp (a.put ok.dst u).eval oj=execOp a.eval oj:=fun u=>aIV oj (fun U b=>aG j oj U b hj) a ok.dst u p1
  have aA:∀ u,Region.wanted oj (yielded ops (a.put ok.dst u).tmps)=Region.wanted oj (yielded ops a.tmps):=fun u=>aIW oj a ok.dst u p1
  have aE:∀ u,execOp (a.put oj.dst u).eval ok=execOp a.eval ok:=fun u=>aIV ok (fun U b=>aG k ok U b hok) a oj.dst u p3
  have aF:∀ u,Region.wanted ok (yielded ops (a.put oj.dst u).tmps)=Region.wanted ok (yielded ops a.tmps):=fun u=>aIW ok a oj.dst u p3
  have aC:∀ v u,(a.put ok.dst v).put oj.dst u=(a.put oj.dst u).put ok.dst v:=fun v u=>Act.put_comm a v u p2
  have aK:∀ k∈F,∀ ok,ops[k]? = some ok->ok.apart ops oj=true:=fun x hx=>hap x (by simp[hx])
  cases O:S k with
  | none =>
   rw[O]at h;obtain⟨d,aN,aH⟩:=h;have t:=AQ aG hT hj F J G _ aK aH;cases V:S j with
   | none =>
    rw[V]at t;obtain⟨I,aI,aB⟩:=t;refine⟨I,aI.same (Z d).symm (aA d).symm,ok,hok,?_⟩;rw[O];exact⟨d,aN.same (aE I) (aF I),by rw[<-aC];exact aB⟩
   | some H =>
    rw[V]at t;obtain⟨aQ,aB⟩:=t;refine⟨aQ.same (Z d).symm (aA d).symm,fun u=>⟨ok,hok,?_⟩⟩;rw[O];exact⟨d,aN.same (aE u) (aF u),by rw[<-aC];exact aB u⟩
  | some Hk =>
   rw[O]at h;obtain⟨aL,aH⟩:=h;have t:=fun d=>AQ aG hT hj F J _ _ aK (aH d)
   cases V:S j with
   | none =>
    rw[V]at t;obtain⟨I,aI,_⟩:=t undef;have aM:=aI.same (Z undef).symm (aA undef).symm;refine⟨I,aM,ok,hok,?_⟩;rw[O];refine⟨aL.same (aE I) (aF I),fun d=>?_⟩;obtain⟨aU,aS,aB⟩:=t d;have:aU=I:=(aS.same (Z d).symm (aA d).symm).value aM;subst this;rw[<-aC];exact aB
   | some H =>
    rw[V]at t;refine⟨(t undef).1.same (Z undef).symm (aA undef).symm,fun u=>⟨ok,hok,?_⟩⟩;rw[O];refine⟨aL.same (aE u) (aF u),fun d=>?_⟩;rw[<-aC];exact wX hT _ _ _ _ (fun W=>by constructor <;> (rintro⟨⟨x,y⟩,z⟩;exact⟨⟨x,z⟩,y⟩)) ((t d).2 u)
/-! The schedule. -/
def uW(n:Nat)(listed:Array Bool):List Nat:=(List.range n).filter fun j=>!listed.getD j true
def aFy(md:Region.Mode)(ops:Array Oper)(n:Nat):Bool :=
 (List.range n).all fun j=>(List.range j).all fun k=>Region.waitsFor md ops j k||match ops[k]?,ops[j]? with
  | some ok,some oj=>ok.apart ops oj
  | _,_=>false
def aFu(md:Region.Mode)(ops:Array Oper)(n:Nat):Bool:=(List.range n).all fun j=>match ops[j]? with
 | some o=>o.after.all fun e=>!Region.binds md e||decide (e.on<j)
 | none=>false
def aAk(n m:Nat):Array Bool:=Array.ofFn (n:=m) fun i=>decide (i.1<n)
def FH(md:Region.Mode)(ops:Array Oper)(n:Nat):Bool :=
 Region.noSelect ops&&decide (n<ops.size)&&Region.sinkB md ops n&&Region.chainB md ops n&&aFy md ops n&&aFu md ops n&&Region.seqB md ops (ops.size-n) n (aAk n ops.size)
theorem wZ{n j:Nat}{listed:Array Bool}(G:j<n)(t:listed.getD j true=false):∃ d z,uW n listed=d++j::z/\(∀ k∈d,k<j/\listed.getD k true=false)/\uW n (listed.setIfInBounds j true)=d++z:=by
 have F:j<listed.size:=by
  rcases aGt j listed.size with h|h
  ·exact h
  ·simp[aHl h]at t
 have e:List.range n=List.range j++j::(List.range (n-j-1)).map (·+(j+1)):=by
  have h1:n=j+(1+(n-j-1)):=by omega
  conv=>lhs;rw[h1,List.range_add,List.range_add,aG2]
  simp[aIv,Nat.add_left_comm]
 refine⟨(List.range j).filter fun j=>!listed.getD j true,((List.range (n-j-1)).map (·+(j+1))).filter fun j=>!listed.getD j true,?_,?_,?_⟩
 ·unfold uW;rw[e,aJN,aIq,FN (by simp[t])]
 ·intro k hk;rw[aII,aGA]at hk;exact⟨hk.1,by simpa using hk.2⟩
 ·unfold uW;rw[e,aJN,aIq,sL (by simp[F])]
  congr 1
  ·refine aIE fun k hk=>?_
   rw[aHC true (by have:=aGA.1 hk;omega)]
  ·refine aIE fun k hk=>?_
   obtain⟨x,_,rfl⟩:=aGq.1 hk;rw[aHC true (by omega)]
theorem ZZ{o:Oper}{i:Nat}{a:Act}{W:World}{v:Value}{K:Act->World->Prop}{Q':Exit->Act->World->Prop}(hi:ops[i]? = some o)(hW:Ltr w W)(I:YR P ops w o v a)
 (h:∀ W',Ltr W W'->K (a.put o.dst v) W'):wpOp P ops Q' i K a W:=by
 unfold wpOp;simp only[hi];rcases I with ⟨t,F⟩|⟨t,rfl⟩
 ·simp only[t,aHW];refine .inl ?_;have d:=F W hW;unfold Oper.quietAt at d;unfold Oper.wp;generalize (execOp a.eval o).run P W=r at *
  cases r with
  | halt x w'=>simp only[Oper.quietUpon]at d
  | ok m w' =>
   cases m <;> simp only[Oper.quietUpon]at d <;> simp only[Oper.upon]
   case value u=>obtain⟨rfl,rfl⟩:=d;exact h _ (aGj _ _)
   case skip=>obtain⟨rfl,rfl⟩:=d;exact h _ (aGj _ _)
   case enter f args =>
    obtain⟨rfl,z⟩:=d;exact z.mono fun e J ⟨he,G⟩=>by subst he;exact h _ G
 ·simp only[t,Bool.false_eq_true,if_false];exact h _ (aGj _ _)
theorem DI{o:Oper}{i:Nat}{a:Act}{W:World}{H:Value->World->Prop}{K:Act->World->Prop}{Q':Exit->Act->World->Prop}(hi:ops[i]? = some o)(hW:Ltr w W)(d:Special P ops w o a H)
 (h:∀ v W',Ltr W W'->H v W'->K (a.put o.dst v) W'):wpOp P ops Q' i K a W:=by
 unfold wpOp;simp only[hi,d.1,aHW];obtain⟨v,W',z,t,hh⟩:=d.2 W hW;refine .inl ?_;unfold Oper.wp;rw[z];exact h v W' t hh
variable {Q' : Exit → Act → World → Prop} {tail : List Oper}
def MS(P:Program)(ops:Array Oper)(w:World)(Q':Exit->Act->World->Prop)(tail:List Oper)(G:World->Prop)(a:Act):Prop:=∀ W,Ltr w W->G W->wpList P ops Q' tail a W
theorem aA7{n:Nat}(hB:FH md ops n=true)(ht:∀ j,tail[j]? = ops[n+j]?)(bK:∀ j H,S j=some H->∀ v,qY (H v)):
  ∀ (f:Nat) (listed:Array Bool) (G:World->Prop) (a:Act) (W:World),Ltr w W->qY G->G W->HeadInv md ops n listed->(uW n listed).length=f ->
   rR P ops w S (MS P ops w Q' tail) (uW n listed) G a->wpAny P md ops Q' (f+(ops.size-n)) listed a W:=by
 simp only[FH,aGu,aGy]at hB;obtain⟨⟨⟨⟨⟨⟨bH,hn⟩,bJ⟩,a4⟩,bE⟩,a3⟩,bI⟩:=hB;have bG:=fun (j:Nat) (o:Oper) cs b (h:ops[j]? = some o)=>aIc bH j o cs b h
 have hT:∀ G G' a,(∀ W,G W ↔ G' W)->MS P ops w Q' tail G a->MS P ops w Q' tail G' a:=fun G G' a hg h W hW I=>h W hW ((hg W).2 I)
 intro f
 induction f with
 | zero =>
  intro listed G a W hW U I F J hr;have aE:=aIi J;rw[aE]at hr;have a5:listed=aAk n ops.size:=by
   apply Array.ext
   ·simp[aAk,F.size]
   ·intro i h1 h2;simp only[aAk,Array.getElem_ofFn]
    by_cases aM:i<n
    ·rw[aGs aM];have:i ∉ uW n listed:=by rw[aE];simp
     unfold uW at this;rw[aII,aGA]at this;simp[aM,h1]at this;exact this
    ·rw[aGm aM];have:=F.tail i (by omega) (by rw[<-F.size];exact h1);simpa[h1] using this
  subst a5;rw[aGn];have t:tail.length=ops.size-n:=by
   have h1:∀ j,j<tail.length ↔ n+j<ops.size:=fun j=>by
    have:=ht j;constructor
    ·intro h;rw[TT h]at this;exact (aIm.1 this.symm).1
    ·intro h;rw[aI9 h]at this;exact (aGi.1 this).1
   rcases aJu tail.length (ops.size-n) with h|h|h
   ·have:=(h1 tail.length).2 (by omega);omega
   ·exact h
   ·have:=(h1 (ops.size-n)).1 h;omega
  have:=wpAny_of_seq (md:=md) (Q':=Q') tail n _ a W ht (by rw[t];exact bI) (hr W hW I)
  rwa [t]at this
 | succ f ih =>
  intro listed G a W hW U I F J hr;rw[show f+1+(ops.size-n)=(f+(ops.size-n))+1 by omega];obtain⟨z,r0,he⟩:∃ i r,uW n listed=i::r:=by
   cases h:uW n listed with
   | nil=>rw[h]at J;simp at J
   | cons i r=>exact⟨i,r,rfl⟩
  have a6:z∈uW n listed:=by rw[he];simp
  have aK:=a6;unfold uW at aK;rw[aII,aGA]at aK;obtain⟨aL,V⟩:=aK;have V:listed.getD z true=false:=by simpa using V
  refine⟨fun aE=>?_,fun j hj=>?_⟩
  ·exfalso;have wK:∀ k,k<z->listed.getD k true=true:=by
    intro k hk;have aR:=wZ aL V;obtain⟨O,l2,e1,e2,_⟩:=aR;rw[he]at e1;cases O with
    | cons x O =>
     rw[List.cons_append,aJL]at e1;have:=(e2 x (by simp)).1;omega
    | nil =>
     cases t:listed.getD k true with
     | true=>rfl
     | false =>
      have bQ:k∈uW n listed:=by unfold uW;rw[aII,aGA];exact⟨by omega,by simp[t]⟩
      obtain⟨l3,l4,d,e4,_⟩:=wZ (listed:=listed) (show k<n by omega) t;rw[he]at d;cases l3 with
      | nil=>rw[List.nil_append,aJL]at d;omega
      | cons x l3 =>
       rw[List.cons_append,aJL]at d;have:=(e4 x (by simp)).1;omega
   have aV:z∈Region.ready md ops listed:=by
    have h1:=aGD.1 a3 z (aGA.2 aL);cases ho:ops[z]? with
    | none=>rw[ho]at h1;cases h1
    | some o =>
     rw[ho]at h1;refine aGQ.2 ⟨V,o,ho,fun e aJ hb=>?_⟩;have h2:=aGY.1 h1 e aJ;simp only[hb,aJB,Bool.false_or,aGy]at h2;have h3:=wK _ h2;have h4:e.on<listed.size:=by rw[F.size];omega
     simpa[h4] using h3
   rw[aE]at aV;cases aV
  ·have aO:j<n:=by
    rcases aGt j n with h|h
    ·exact h
    ·exact absurd hj (tail_waits bJ a4 hn F _ z rfl aL V j h)
   obtain⟨a7,oj,Z,hall⟩:=aGQ.1 hj;obtain⟨O,l2,e1,e2,d⟩:=wZ aO a7;have a2:∀ k∈O,∀ ok,ops[k]? = some ok->ok.apart ops oj=true:=by
    intro k hk ok bC;obtain⟨a8,a9⟩:=e2 k hk;have h1:=aGD.1 bE j (aGA.2 aO);have h2:=aGD.1 h1 k (aGA.2 a8);simp only[bC,Z,aHw]at h2;rcases h2 with h2|h2
    ·obtain⟨o',bB,e,aJ,hb,bD⟩:=aId h2;have:o'=oj:=aG7 (bB.symm.trans Z);subst this;have h3:=hall e aJ hb;rw[bD,aHs a9]at h3;cases h3
    ·exact h2
   rw[e1]at hr J;have aF:=AQ bG hT Z O l2 G a a2 hr;have aU:(O++l2).length=f:=by simp at J ⊢;omega
   have aX:=F.set hj aO;cases hS:S j with
   | none =>
    rw[hS]at aF;obtain⟨v,hy,aQ⟩:=aF;refine ZZ Z hW hy fun W' hW'=>?_
    exact ih _ G _ W' (Ltr.trans hW hW') U (U _ _ I hW') aX (by rw[d];exact aU) (by rw[d];exact aQ)
   | some H =>
    rw[hS]at aF;obtain⟨aR,aQ⟩:=aF;refine DI Z hW aR fun v W' hW' hv=>?_
    have bF:qY fun W=>G W/\H v W:=fun W1 W2 hg t=>⟨U _ _ hg.1 t,bK j H hS v _ _ hg.2 t⟩
    exact ih _ _ _ W' (Ltr.trans hW hW') bF ⟨U _ _ I hW',hv⟩ aX (by rw[d];exact aU) (by rw[d];exact aQ v)
theorem MI(n m:Nat)(h:n<=m):uW n (Array.replicate m false)=List.range n:=by
 unfold uW;rw[List.filter_eq_self];intro j d;have:=aGA.1 d;simp[show j<m by omega]
theorem DJ{id:Nat}{Q:Exit->Act->World->Prop}{a:Act}{w:World}{l:List Oper}(n:Nat)(S:Nat->Option (Value->World->Prop))(hm:P.follows .mixedOrders=true)(d:FH .any l.toArray n=true)
 (G:∀ j H,S j=some H->∀ v,qY (H v))(h:rR P l.toArray w S (MS P l.toArray w Q (l.drop n)) (List.range n) (fun _=>True) a):(Code.region id l.toArray true).wp P Q a w:=by
 have F:n<l.toArray.size:=by
  simp only[FH,aGu,aGy]at d;exact d.1.1.1.1.1.2
 have J:n<l.length:=by simpa using F
 refine aIf hm ?_;have I:HeadInv .any l.toArray n (Array.replicate l.toArray.size false) :=
  ⟨by simp,fun j oj _ z=>(by rw[aHO]at z;cases z),fun t _ ht=>aH6 (by simpa using ht) (aHO _ _)⟩
 have:=aA7 (md:=.any) (w:=w) (S:=S) (Q':=Q) (tail:=l.drop n) d (fun j=>by simp[List.getElem?_drop]) G n (Array.replicate l.toArray.size false) (fun _=>True) a { w with drawn:=w.drawn+1 }
  (aGj w.heap.size w).drew (fun _ _ _ _=>trivial) trivial I (by rw[MI _ _ (by omega)];simp) (by rw[MI _ _ (by omega)];exact h)
 rwa [show n+(l.toArray.size-n)=l.toArray.size by omega]at this
theorem wY{Q:Act->Prop}:∀ (d:List Oper) (k:Nat) (r:List Nat) (G:World->Prop) (a:Act),(∀ j,j<d.length->d[j]? = ops[k+j]?)->(∀ j,j<d.length->S (k+j)=none) ->
  (∀ W,Ltr w W->wpQuiet P ops (fun w'=>∃ x:GW W,w'=x.1) Q d a)->(∀ F,Q F->rR P ops w S T r G F)->rR P ops w S T ((List.range' k d.length)++r) G a
 | [],k,r,G,a,_,_,h,hQ=>hQ a (h w (aGj _ _))
 | o::d,k,r,G,a,hl,hS,h,hQ=>by
  have O:ops[k]? = some o:=by simpa using (hl 0 (by simp)).symm
  rw[List.length_cons,List.range'_succ,List.cons_append];refine⟨o,O,?_⟩;rw[show S k=none by simpa using hS 0 (by simp)];have J:∀ j,j<d.length->d[j]? = ops[k+1+j]?:=fun j U=>by
   have:=hl (j+1) (by simp;omega);simpa[aG4,aIv 1 j] using this
  have I:∀ j,j<d.length->S (k+1+j)=none:=fun j U=>by
   have:=hS (j+1) (by simp;omega);simpa[aG4,aIv 1 j] using this
  by_cases z:Region.wanted o (yielded ops a.tmps)=true
  ·have h1:∀ W,Ltr w W->o.quiet P a (fun w'=>∃ x:GW W,w'=x.1) (wpQuiet P ops (fun w'=>∃ x:GW W,w'=x.1) Q d):=fun W hW=>by
    have:=h W hW;unfold wpQuiet at this
    rwa [FN z]at this
   obtain⟨v,V,_⟩:=h1 w (aGj _ _);have hval:∀ W (hW:Ltr w W),∀ u,(∀ w',(∃ x:GW W,w'=x.1)->o.quietAt P a (fun w'=>∃ x:GW W,w'=x.1) w' u)->u=v:=fun W hW u t =>
    vK (t W ⟨⟨W,aGj _ _⟩,rfl⟩) (V W ⟨⟨W,hW⟩,rfl⟩)
   refine⟨v,.inl ⟨z,fun W hW=>?_⟩,wY d (k+1) r G _ J I (fun W hW=>?_) hQ⟩
   ·obtain⟨u,t,_⟩:=h1 W hW;have:u=v:=hval W hW u t;subst this;exact OO (fun w' ⟨x,hx⟩=>by rw[hx];exact x.2) (t W ⟨⟨W,aGj _ _⟩,rfl⟩)
   ·obtain⟨u,t,hk⟩:=h1 W hW;have:u=v:=hval W hW u t;subst this;exact hk
  ·have Z:Region.wanted o (yielded ops a.tmps)=false:=by simpa using z
   refine⟨undef,.inr ⟨Z,rfl⟩,wY d (k+1) r G _ J I (fun W hW=>?_) hQ⟩;have:=h W hW;unfold wpQuiet at this
   rwa [sL z]at this
theorem OQ{o:Oper}{k:Nat}{r:List Nat}{G:World->Prop}{a:Act}{H:Value->World->Prop}(t:ops[k]? = some o)(d:S k=some H)(z:Special P ops w o a H)
 (h:∀ v,rR P ops w S T r (fun W=>G W/\H v W) (a.put o.dst v)):rR P ops w S T (k::r) G a:=⟨o,t,by rw[d];exact⟨z,h⟩⟩
def DT(base:Nat)(d:Array Value)(t:TypeId)(v:Value)(W:World):Prop:=∃ g,v=.pointer (some ⟨g,0,none⟩)/\base<=g/\W.heap[g]? = some (.cells d t (0,0))
theorem JZ(base:Nat)(z:Array Value)(t:TypeId)(v:Value):qY (DT base z t v):=by
 rintro W W' ⟨g,h1,h2,d⟩ F;refine⟨g,h1,h2,(F.block g ?_).trans d⟩;rcases aGt g W.heap.size with h|h
 ·exact h
 ·rw[aHl h]at d;cases d
theorem BN{l:List Oper}{G:World->Prop}{a:Act}(k m len:Nat)(hk:k+m<=l.length)(z:∀ j,j<m->S (k+j)=none)
 (h:∀ W,Ltr w W->wpQuiet P l.toArray (fun w'=>∃ x:GW W,w'=x.1) (rR P l.toArray w S T (List.range' (k+m) len) G) ((l.drop k).take m) a):rR P l.toArray w S T (List.range' k (m+len)) G a:=by
 have t:((l.drop k).take m).length=m:=by rw[aGB,aHV];omega
 have:=wY (ops:=l.toArray) (S:=S) (T:=T) ((l.drop k).take m) k (List.range' (k+m) len) G a (fun j d=>by
  rw[t]at d;rw[aHe,FN d,aHp];simp) (fun j d=>z j (by rw[t]at d;exact d)) h (fun _ h=>h)
 rw[t,List.range'_append_1]at this;exact this
theorem BM{l:List Oper}{G:World->Prop}{a:Act}(k len:Nat)(o:Oper)(base:Nat)(d:Array Value)(ty:TypeId)(I:l[k]? = some o)(t:S k=some (DT base d ty))(z:base<=w.heap.size)(F:o.guard=none)
 (J:∀ W,(execOp a.eval o).run P W=.ok (.value (.pointer (some ⟨W.heap.size,0,none⟩))) (W.alloc (.cells d ty)))
 (h:∀ v,rR P l.toArray w S T (List.range' (k+1) len) (fun W=>G W/\DT base d ty v W) (a.put o.dst v)):rR P l.toArray w S T (List.range' k (len+1)) G a:=by
 rw[List.range'_succ];refine OQ (o:=o) (by simpa using I) t ⟨by unfold Region.wanted;rw[F],fun W hW=>⟨_,_,J W,aP _ _,W.heap.size,rfl,aGE z hW.size,LT W _⟩⟩ h
theorem FI{G:World->Prop}{a:Act}{Q':Exit->Act->World->Prop}{tail:List Oper}{k:Nat}(h:∀ W,Ltr w W->G W->wpList P ops Q' tail a W):rR P ops w S (MS P ops w Q' tail) (List.range' k 0) G a:=h
theorem qU{id:Nat}{Q:Exit->Act->World->Prop}{a:Act}{w:World}{l:List Oper}(n:Nat)(S:Nat->Option (Value->World->Prop))(hm:P.follows .mixedOrders=true)(d:FH .any l.toArray n=true)
 (t:∀ j H,S j=some H->∀ v,qY (H v))(h:rR P l.toArray w S (MS P l.toArray w Q (l.drop n)) (List.range' 0 n) (fun _=>True) a):(Code.region id l.toArray true).wp P Q a w :=
 DJ n S hm d t (by rw[List.range_eq_range'];exact h)
def AM(base k:Nat)(d:Array Value)(t:TypeId)(j:Nat):Option (Value->World->Prop):=if j=k then some (DT base d t) else none
theorem vI(base k:Nat)(d:Array Value)(t:TypeId):∀ j H,AM base k d t j=some H->∀ v,qY (H v):=by
 intro j H h v;unfold AM at h;split at h
 ·injection h with h;subst h;exact JZ base d t v
 ·cases h
end
end
section
section
variable {P : Program} {ops : Array Oper} {md : Region.Mode} {C : World → Prop}
def aAB(md:Region.Mode)(ops:Array Oper)(n:Nat):Bool :=
 (List.range ops.size).all fun t=>decide (t<=n)||(List.range t).any fun j=>decide (n<=j)&&Region.waitsFor md ops t j
theorem CX{n:Nat}{listed:Array Bool}(hs:Region.sinkB md ops n=true)(hc:aAB md ops n=true)(hn:n<ops.size)(I:HeadInv md ops n listed):
  ∀ (d i:Nat),n-i=d->i<n->listed.getD i true=false->∀ t,n<=t->t ∉ Region.ready md ops listed:=by
 intro d
 induction d using Nat.strongRecOn with
 | _ d ih =>
  intro i hd hi W t ht V;obtain⟨_,Z,G,hall⟩:=aGQ.1 V;have aD:t<ops.size:=(aIm.1 G).1
  by_cases aE:t=n
  ·subst aE;obtain⟨j,F,h⟩:=aIp.1 (aGD.1 hs i (aGA.2 hi));simp only[aGu,aGy]at h;obtain⟨oj,U,e,he,hb,z⟩:=aId h.2;have aI:j<=t:=by have:=aGA.1 F;omega
   by_cases J:j=t
   ·subst J;obtain rfl:oj=Z:=aG7 (U.symm.trans G);have h2:=hall e he hb;rw[z,aHs W]at h2;cases h2
   ·cases O:listed.getD j false with
    | true =>
     have h2:=I.closed j oj U O e he hb;rw[z,aHs W]at h2;cases h2
    | false=>exact ih (t-j) (by omega) j rfl (by omega) (aH6 (by rw[I.size];omega) O) t (LE _) V
  ·have h1:=aGD.1 hc t (aGA.2 aD);simp only[aHw,aGy]at h1;rcases h1 with h1|h1
   ·omega
   ·obtain⟨j,F,h⟩:=aIp.1 h1;simp only[aGu,aGy]at h;have J:=aGA.1 F;obtain⟨o',aB,e,he,hb,z⟩:=aId h.2;obtain rfl:o'=Z:=aG7 (aB.symm.trans G);have h2:=hall e he hb;rw[z,aHs (I.tail j h.1 (by omega))]at h2;cases h2
theorem SR{n i:Nat}{F:Oper}{v:Value}{L:Array Bool->Act->Prop}(hi:ops[i]? = some F)(aG:∀ (j:Nat) (o:Oper) G b,ops[j]? = some o->o.op≠.select G b)
 (hs:Region.sinkB md ops n=true)(W:aAB md ops n=true)(hn:n<ops.size)(aA:i<n)
 (aJ:∀ listed a,L listed a->∀ j∈Region.ready md ops listed,n<=j)(f:Nat):
  ∀ (listed:Array Bool) (a:Act),HeadInv md ops n listed ->
   (∀ j oj,ops[j]? = some oj->j≠i->listed.getD j true=false->(∀ e∈oj.after,Region.binds md e=true->e.on≠i)->F.apart ops oj=true) ->
   i∈Region.ready md ops listed->YieldsIn P ops C F v a ->
   iZ P md ops C n L f (listed.setIfInBounds i true) (a.put F.dst v)->iZ P md ops C n L (f+1) listed a:=by
 induction f with
 | zero =>
  intro listed a O _ t J H;refine⟨fun h=>(by rw[h]at t;cases t),fun j z=>?_⟩;have I:j<n:=by
   rcases aGt j n with h|h
   ·exact h
   ·exact absurd z (CX hs W hn O _ i rfl aA (aGQ.1 t).1 j h)
  refine⟨I,?_⟩
  by_cases d:j=i
  ·subst d;exact J.qOp hi H
  ·have:=aJ _ _ H j (aHo z d);omega
 | succ f ih =>
  intro listed a O Z t J H;refine⟨fun h=>(by rw[h]at t;cases t),fun j z=>?_⟩;have aH:=(aGQ.1 t).1;have I:j<n:=by
   rcases aGt j n with h|h
   ·exact h
   ·exact absurd z (CX hs W hn O _ i rfl aA aH j h)
  refine⟨I,?_⟩
  by_cases d:j=i
  ·subst d;exact J.qOp hi H
  ·obtain⟨aC,oj,U,hall⟩:=aGQ.1 z;have aO:∀ e∈oj.after,Region.binds md e=true->e.on≠i:=fun e he hb aK=>by
    have h1:=hall e he hb;rw[aK,aHs aH]at h1;cases h1
   have h2:=qOp_put U (Z j oj U d aC aO) (fun G b=>aG i F G b hi) (fun G b=>aG j oj G b U) J (H.2 j (aHo z d)).2;have aL:∀ k ok,ops[k]? = some ok->k≠i->(listed.setIfInBounds j true).getD k true=false ->
     (∀ e∈ok.after,Region.binds md e=true->e.on≠i)->F.apart ops ok=true:=fun k ok hk aM aD aN=>by
    refine Z k ok hk aM ?_ aN
    by_cases aB:j=k
    ·subst aB;exact aC
    ·rw[aHC true aB]at aD;exact aD
   refine aIy (fun a' V=>ih (listed.setIfInBounds j true) a' (O.set z I) aL (aHo t (aHr d)) V.1 ?_) h2;rw[aIn _ _ d];exact V.2
def aAl(md:Region.Mode)(ops:Array Oper)(n:Nat)(T:Array Bool):Nat->Nat->Array Bool->Bool
 | 0,_,listed=>decide (listed=T)&&(Region.ready md ops listed).all fun j=>decide (n<=j)
 | f+1,k,listed=>(Region.ready md ops listed).contains k&&Region.free md ops listed k&&aAl md ops n T f (k+1) (listed.setIfInBounds k true)
def XX(md:Region.Mode)(ops:Array Oper)(n:Nat)(T:Array Bool):Bool :=
 Region.noSelect ops&&decide (n<ops.size)&&Region.sinkB md ops n&&aAB md ops n&&aAl md ops n T n 0 (Array.replicate ops.size false)
theorem K8{n:Nat}{T:Array Bool}{t:Act->Prop}(Z:Region.noSelect ops=true)(W:Region.sinkB md ops n=true)(I:aAB md ops n=true)(U:n<ops.size):
  ∀ (l:List Oper) (k:Nat) (listed:Array Bool) (a:Act),(∀ j,j<l.length->l[j]? = ops[k+j]?)->k+l.length=n->HeadInv md ops n listed ->
  aAl md ops n T l.length k listed=true->wpQuiet P ops C t l a ->
  iZ P md ops C n (fun F G=>(F=T/\∀ j∈Region.ready md ops F,n<=j)/\t G) l.length listed a
 | [],k,listed,a,_,hk,_,hB,h=>by
  have:k=n:=by simpa using hk
  subst this;have z:(decide (listed=T)&&(Region.ready md ops listed).all fun j=>decide (k<=j))=true:=hB;rw[aGu,aGy,aGD]at z;exact⟨⟨z.1,fun j J=>aJw (z.2 j J)⟩,h⟩
 | o::l,k,listed,a,hl,hk,inv,hB,h=>by
  have d:ops[k]? = some o:=by simpa using (hl 0 (by simp)).symm
  simp only[List.length_cons,aAl,aGu]at hB;have O:k<n:=by simp only[List.length_cons]at hk;omega
  have V:k∈Region.ready md ops listed:=by simpa using hB.1.1
  have aB:qOp P ops C k (wpQuiet P ops C t l) a:=by unfold qOp;simp only[d];exact h
  obtain⟨v,hy,hK⟩:=aIC d aB;exact SR d (aIc Z) W I U O (fun F G hL=>hL.1.2) l.length listed a inv (aIR d hB.1.2) V hy
   (K8 Z W I U l (k+1) _ _ (fun j J=>by have:=hl (j+1) (by simp;omega);simpa[aG4,aIv 1 j] using this) (by simp only[List.length_cons]at hk;omega) (inv.set V O) hB.2 hK)
theorem JH{Q:Exit->Act->World->Prop}{a:Act}{w:World}{l:List Oper}(n:Nat)(T:Array Bool)(F:XX .any l.toArray n T=true)
 (h:wpQuiet P l.toArray (fun w'=>∃ x:GW w,w'=x.1) (fun z=>∀ w',(∃ x:GW w,w'=x.1)->wpAny P .any l.toArray Q (l.length-n) T z w') (l.take n) a):wpAny P .any l.toArray Q l.toArray.size (Array.replicate l.toArray.size false) a { w with drawn:=w.drawn+1 }:=by
 simp only[XX,aGu,aGy]at F;obtain⟨⟨⟨⟨Z,J⟩,W⟩,O⟩,V⟩:=F;have aC:n<l.length:=by simpa using J
 have d:(l.take n).length=n:=by simp;omega
 have aB:HeadInv .any l.toArray n (Array.replicate l.toArray.size false) :=
  ⟨by simp,fun j oj _ I=>(by rw[aHO]at I;cases I),fun t _ ht=>aH6 (by simpa using ht) (aHO _ _)⟩
 have H:=K8 (md:=.any) Z W O J (l.take n) 0 _ a (fun j G=>by
  have U:j<n:=by rw[d]at G;exact G
  simp[U]) (by simpa using d) aB (by rw[d];exact V) h
 have:=kN (Q':=Q) (g:=l.length-n) (fun listed z w' aA hL=>by
  rw[hL.1.1];exact hL.2 w' aA) _ _ _ { w with drawn:=w.drawn+1 } ⟨⟨_,(Below.refl w.heap.size w).drew⟩,rfl⟩ H
 rw[d,show n+(l.length-n)=l.toArray.size by simp;omega]at this;exact this
theorem uX{id:Nat}{Q:Exit->Act->World->Prop}{a:Act}{w:World}{l:List Oper}(n:Nat)(T:Array Bool)(hm:P.follows .mixedOrders=true)(t:XX .any l.toArray n T=true)
 (h:wpQuiet P l.toArray (fun w'=>∃ x:GW w,w'=x.1) (fun d=>∀ w',(∃ x:GW w,w'=x.1)->wpAny P .any l.toArray Q (l.length-n) T d w') (l.take n) a):(Code.region id l.toArray true).wp P Q a w :=
 aIf hm (JH n T t h)
end
end
end Go.Proofs.YtbpgfkjhclpbdaaGreatDoor
