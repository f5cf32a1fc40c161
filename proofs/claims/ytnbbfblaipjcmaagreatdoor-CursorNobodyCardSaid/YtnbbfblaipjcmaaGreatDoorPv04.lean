/- Calm, Drawn, CalmT. Conditions: as each theorem states. -/
import Derived.StillTail
import Derived.Test.YtnbbfblaipjcmaaGreatDoorPv03
namespace Go.Proofs.YtnbbfblaipjcmaaGreatDoor
section
open Go.RowKit
section
variable {P : Program} {ops : Array Oper} {md : Region.Mode} {C : World → Prop}
def g9 (P:Program) (md:Region.Mode) (ops:Array Oper) (C:World->Prop) (n:Nat) (L:Array Bool->Act->Prop):Nat->Array Bool->Act->Prop
 | 0,listed,a=>L listed a
 | f+1,listed,a=>Region.ready md ops listed ≠ []/\∀ i ∈ Region.ready md ops listed,i < n/\qOp P ops C i (g9 P md ops C n L f (listed.setIfInBounds i true)) a
theorem j1 {n g:Nat} {L:Array Bool->Act->Prop} {Q':Exit->Act->World->Prop} (hL:∀ listed a w,C w->L listed a->wpAny P md ops Q' g listed a w) :
  ∀ (f:Nat) (listed:Array Bool) (a:Act) (w:World),C w->g9 P md ops C n L f listed a->wpAny P md ops Q' (f+g) listed a w
 | 0,listed,a,w,hw,h=>by rw [Nat.zero_add]; exact hL _ _ _ hw h
 | f+1,listed,a,w,hw,h=>by
  rw [show f+1+g=(f+g)+1 by omega]
  exact ⟨fun h0=>absurd h0 h.1,fun i hi=>wpOp_of_qOp hw (fun a' w' hw' h'=>j1 hL f _ a' w' hw' h') (h.2 i hi).2⟩
theorem UV {n i:Nat} {oi:Oper} {v:Value} {L:Array Bool->Act->Prop} (hi:ops[i]? = some oi) (hsel:∀ (j:Nat) (o:Oper) cs b,ops[j]? = some o->o.op ≠ .select cs b)
  (hs:Region.sinkB md ops n=true) (hc:Region.chainB md ops n=true) (hn:n < ops.size) (hin:i < n)
  (hdone:∀ listed a,L listed a->∀ j ∈ Region.ready md ops listed,n<=j) (f:Nat) :
  ∀ (listed:Array Bool) (a:Act),HeadInv md ops n listed ->
   (∀ j oj,ops[j]? = some oj->j ≠ i->listed.getD j true=false->(∀ e ∈ oj.after,Region.binds md e=true->e.on ≠ i)->oi.apart ops oj=true) ->
   i ∈ Region.ready md ops listed->YieldsIn P ops C oi v a ->
   g9 P md ops C n L f (listed.setIfInBounds i true) (a.put oi.dst v)->g9 P md ops C n L (f+1) listed a:=by
 induction f with
 | zero =>
  intro listed a inv _ hr hy H
  refine ⟨fun h=>(by rw [h] at hr; cases hr),fun j hj=>?_⟩
  have hjn:j < n:=by
   rcases Nat.lt_or_ge j n with h | h
   ·exact h
   ·exact absurd hj (tail_waits hs hc hn inv _ i rfl hin (mem_ready.1 hr).1 j h)
  refine ⟨hjn,?_⟩
  by_cases hji:j=i
  ·subst hji; exact hy.qOp hi H
  ·have:=hdone _ _ H j (ready_mono hj hji)
   omega
 | succ f ih =>
  intro listed a inv hfree hr hy H
  refine ⟨fun h=>(by rw [h] at hr; cases hr),fun j hj=>?_⟩
  have hun:=(mem_ready.1 hr).1
  have hjn:j < n:=by
   rcases Nat.lt_or_ge j n with h | h
   ·exact h
   ·exact absurd hj (tail_waits hs hc hn inv _ i rfl hin hun j h)
  refine ⟨hjn,?_⟩
  by_cases hji:j=i
  ·subst hji; exact hy.qOp hi H
  ·obtain ⟨hjun,oj,hoj,hall⟩:=mem_ready.1 hj
   have hnot:∀ e ∈ oj.after,Region.binds md e=true->e.on ≠ i:=fun e he hb heq=>by
    have h1:=hall e he hb
    rw [heq,getD_both hun] at h1
    cases h1
   have h2:=qOp_put hoj (hfree j oj hoj hji hjun hnot) (fun cs b=>hsel i oi cs b hi) (fun cs b=>hsel j oj cs b hoj) hy (H.2 j (ready_mono hj hji)).2
   have hfree':∀ k ok,ops[k]? = some ok->k ≠ i->(listed.setIfInBounds j true).getD k true=false ->
     (∀ e ∈ ok.after,Region.binds md e=true->e.on ≠ i)->oi.apart ops ok=true:=fun k ok hk hki hk2 hno=>by
    refine hfree k ok hk hki ?_ hno
    by_cases hjk:j=k
    ·subst hjk; exact hjun
    ·rw [getD_set_ne true hjk] at hk2; exact hk2
   refine qOp_mono (fun a' h3=>ih (listed.setIfInBounds j true) a' (inv.set hj hjn) hfree' (ready_mono hr (Ne.symm hji)) h3.1 ?_) h2
   rw [Array.setIfInBounds_comm _ _ hji]
   exact h3.2
theorem OZ {n g:Nat} {Lq:Act->Prop} (hsel:Region.noSelect ops=true) (hs:Region.sinkB md ops n=true) (hc:Region.chainB md ops n=true) (hn:n < ops.size) :
  ∀ (l:List Oper) (k:Nat) (listed:Array Bool) (a:Act),(∀ j,j < l.length->l[j]? = ops[k+j]?)->k+l.length=n->HeadInv md ops n listed ->
  Region.lexHead md ops g l.length k listed=true->wpQuiet P ops C Lq l a ->
  g9 P md ops C n (fun listed' a'=>Region.seqB md ops g n listed'=true/\Lq a') l.length listed a
 | [],k,listed,a,_,hk,_,hB,h=>by
  have:k=n:=by simpa using hk
  subst this
  exact ⟨by simpa [Region.lexHead] using hB,h⟩
 | o :: l,k,listed,a,hl,hk,inv,hB,h=>by
  have h0:ops[k]? = some o:=by simpa using (hl 0 (by simp)).symm
  simp only [List.length_cons,Region.lexHead,Bool.and_eq_true] at hB
  have hkn:k < n:=by simp only [List.length_cons] at hk; omega
  have hr':k ∈ Region.ready md ops listed:=by simpa using hB.1.1
  have hst:qOp P ops C k (wpQuiet P ops C Lq l) a:=by unfold qOp; simp only [h0]; exact h
  obtain ⟨v,hy,hK⟩:=yieldsIn_of_qOp h0 hst
  exact UV h0 (Region.noSelect_spec hsel) hs hc hn hkn (fun listed' a' hL=>seqB_ready hL.1) l.length listed a inv (Region.free_spec h0 hB.1.2) hr' hy
   (OZ hsel hs hc hn l (k+1) _ _ (fun j hj=>by have:=hl (j+1) (by simp; omega); simpa [Nat.add_assoc,Nat.add_comm 1 j] using this) (by simp only [List.length_cons] at hk; omega) (inv.set hr' hkn) hB.2 hK)
theorem GD {Q:Exit->Act->World->Prop} {a:Act} {w:World} {l:List Oper} (n:Nat) (hB:Region.lexTailB .any l.toArray n=true)
  (h:wpQuiet P l.toArray (fun w'=>∃ x:GW w,w'=x.1) (fun a'=>∀ w',(∃ x:GW w,w'=x.1)->wpList P l.toArray Q (l.drop n) a' w') (l.take n) a):wpAny P .any l.toArray Q l.toArray.size (Array.replicate l.toArray.size false) a { w with drawn:=w.drawn+1 }:=by
 simp only [Region.lexTailB,Bool.and_eq_true,decide_eq_true_eq] at hB
 obtain ⟨⟨⟨⟨hsel,hn⟩,hs⟩,hc⟩,hlex⟩:=hB
 have hn':n < l.length:=by simpa using hn
 have htl:(l.take n).length=n:=by simp; omega
 have hdl:(l.drop n).length=l.toArray.size - n:=by simp
 have inv0:HeadInv .any l.toArray n (Array.replicate l.toArray.size false) :=
  ⟨by simp,fun j oj _ hl=>(by rw [getD_replicate_false] at hl; cases hl),fun t _ ht=>getD_in (by simpa using ht) (getD_replicate_false _ _)⟩
 have H:=OZ (md:=.any) (g:=l.toArray.size - n) hsel hs hc hn (l.take n) 0 _ a (fun j hj=>by
  have hj':j < n:=by rw [htl] at hj; exact hj
  simp [hj']) (by simpa using htl) inv0 (by rw [htl]; exact hlex) h
 have:=j1 (Q':=Q) (g:=l.toArray.size - n) (fun listed a' w' hw' hL=>by
  have:=wpAny_of_seq (md:=.any) (Q':=Q) (l.drop n) n listed a' w' (fun j=>by simp [List.getElem?_drop]) (by rw [hdl]; exact hL.1) (hL.2 w' hw')
  rwa [hdl] at this) _ _ _ { w with drawn:=w.drawn+1 } ⟨⟨_,(Below.refl w.heap.size w).drew⟩,rfl⟩ H
 rw [htl,show n+(l.toArray.size - n)=l.toArray.size by omega] at this
 exact this
theorem aI {id:Nat} {Q:Exit->Act->World->Prop} {a:Act} {w:World} {l:List Oper} (n:Nat) (hm:P.follows .mixedOrders=true) (hB:Region.lexTailB .any l.toArray n=true)
  (h:wpQuiet P l.toArray (fun w'=>∃ x:GW w,w'=x.1) (fun a'=>∀ w',(∃ x:GW w,w'=x.1)->wpList P l.toArray Q (l.drop n) a' w') (l.take n) a):(Code.region id l.toArray true).wp P Q a w :=
 wp_region_any hm (GD n hB h)
end
theorem aK {W w':World} (h:∃ x:GW W,w'=x.1):Below W.heap.size W w':=by obtain ⟨x,rfl⟩:=h; exact x.2
theorem jY {W:World} {g:Nat} {t:TypeId} {cs:List Value} (h:Blk W g t cs) (x:GW W) (i:Nat):x.1.cell? ⟨g,i,none⟩=cs[i]?:=(BC x h.lt).trans (h.cell i)
theorem aG {w:World} {g:Nat} {t:TypeId} {cs:List Value} (h:Blk w g t cs):∀ i,w.cell? ⟨g,i,none⟩=cs[i]?:=h.cell
theorem lW {w:World} {g:Nat} {t:TypeId} {cs:List Value} (h:Blk w g t cs):∀ i,w.frozen? ⟨g,i,none⟩=false:=h.frozen
end
section
open Go.RowKit
section
variable {P : Program}
theorem J1 {m m1:Machine} (n:Nat) (h:runN P n m=.next m1) (k:Nat):runN P (n+k) m=runN P k m1:=by
 induction n generalizing m with
 | zero=>rw [Nat.zero_add]; simp only [runN] at h; injection h with h; subst h; rfl
 | succ n ih =>
  rw [show n+1+k=(n+k)+1 by omega]
  simp only [runN] at h ⊢
  cases hs:step P m with
  | next m'=>rw [hs] at h; simp only at h ⊢; exact ih h
  | ended o w=>rw [hs] at h; simp at h
def mG:Frame:={ fn:=0,tmps:=#[],todo:=[.code (.cond (.const (.int .i64 0)) .skip .skip)],defers:=[],mode:=.run,kind:=.normal }
theorem VZ (w:World):∃ o w',step P (lone mG [] w)=.ended o w':=by
 refine ⟨_, _, step_lone_ended (o := .stuck "cond: bool expected" (mG.pos P)) (w' := w) ?_⟩
 simp [stepG,stepG.exec,mG,Frame.eval,GStep.bare]
theorem zD {f:FuncId} {args:Array Value} {w:World} {v:Value} {A:World->Prop} (h:Calls P f args w fun e w'=>e=.returned v/\A w') :
  ∃ n w' fr,runN P n (lone (Frame.enter P f args .normal) [mG] w)=.next (lone fr [mG] w')/\fr.leaving P w' (.returned v):=by
 obtain ⟨e,w',fr,⟨rfl,_⟩,hs,_,hl⟩:=h [mG]
 obtain ⟨n,hn⟩:=hs
 exact ⟨n,w',fr,hn,hl⟩
theorem U2 {fr:Frame} {w:World} {v:Value} (h:fr.leaving P w (.returned v)):runN P 1 (lone fr [mG] w)=.next (lone mG [] w):=by
 simp only [runN,step_leave_returned h]
 rfl
theorem NO {f:FuncId} {args:Array Value} {w:World} {v1 v2:Value} {A B:World->Prop} (h1:Calls P f args w fun e w'=>e=.returned v1/\A w') (h2:Calls P f args w fun e w'=>e=.returned v2/\B w'):v1=v2:=by
 obtain ⟨n1,w1,f1,r1,l1⟩:=zD h1
 obtain ⟨n2,w2,f2,r2,l2⟩:=zD h2
 have key:∀ (n1 n2:Nat) (w1 w2:World) (f1 f2:Frame) (v1 v2:Value),runN P n1 (lone (Frame.enter P f args .normal) [mG] w)=.next (lone f1 [mG] w1)->f1.leaving P w1 (.returned v1) ->
   runN P n2 (lone (Frame.enter P f args .normal) [mG] w)=.next (lone f2 [mG] w2)->¬ n1 < n2:=by
  intro n1 n2 w1 w2 f1 f2 v1 v2 r1 l1 r2 hlt
  obtain ⟨d,rfl⟩:∃ d,n2=n1+(1+d):=⟨n2 - n1 - 1,by omega⟩
  rw [J1 n1 r1,J1 1 (U2 l1)] at r2
  obtain ⟨o,w',hs⟩:=VZ (P:=P) w1
  cases d with
  | zero =>
   simp only [runN] at r2
   injection r2 with r2
   simp [lone] at r2
  | succ d=>simp [runN,hs] at r2
 have hn:n1=n2:=by
  have a:=key n1 n2 w1 w2 f1 f2 v1 v2 r1 l1 r2
  have b:=key n2 n1 w2 w1 f2 f1 v2 v1 r2 l2 r1
  omega
 subst hn
 rw [r1] at r2
 injection r2 with r2
 simp only [lone,Machine.mk.injEq] at r2
 obtain ⟨rfl,hg,_⟩:=r2
 have hf:f1=f2:=by simpa using hg
 subst hf
 obtain ⟨_,_,_,g1,hg1,hr1⟩:=l1
 obtain ⟨_,_,_,g2,hg2,hr2⟩:=l2
 rw [hg1] at hg2
 injection hg2 with hg2
 subst hg2
 rw [hr1] at hr2
 injection hr2 with hr2
variable {ops : Array Oper} {md : Region.Mode} {w : World}
theorem tW {o:Oper} {a:Act} {W:World} {v1 v2:Value} {A B:World->Prop} (h1:o.quietAt P a A W v1) (h2:o.quietAt P a B W v2):v1=v2:=by
 unfold Oper.quietAt at h1 h2
 generalize (execOp a.eval o).run P W=r at *
 cases r with
 | halt x w'=>simp only [Oper.quietUpon] at h1
 | ok n w' =>
  cases n <;> simp only [Oper.quietUpon] at h1 h2
  case value u=>exact h1.2.symm.trans h2.2
  case skip=>exact h1.2.trans h2.2.symm
  case enter f args=>exact NO h1.2 h2.2
theorem LP {o:Oper} {a:Act} {W:World} {v:Value} {A B:World->Prop} (h:∀ w,A w->B w) (h1:o.quietAt P a A W v):o.quietAt P a B W v:=by
 unfold Oper.quietAt at h1 ⊢
 generalize (execOp a.eval o).run P W=r at *
 cases r with
 | halt x w'=>simp only [Oper.quietUpon] at h1
 | ok n w' =>
  cases n <;> simp only [Oper.quietUpon] at h1 ⊢ <;> try exact h1
  exact ⟨h1.1,h1.2.mono fun e w'' ⟨he,hw⟩=>⟨he,h _ hw⟩⟩
abbrev Ltr (w W:World):Prop:=Below w.heap.size w W
theorem Ltr.trans {a b c:World} (h:Ltr a b) (k:Ltr b c):Ltr a c:=aC h k
def aAY (P:Program) (o:Oper) (a:Act) (w:World) (v:Value):Prop:=∀ W,Ltr w W->o.quietAt P a (Ltr W) W v
def YR (P:Program) (ops:Array Oper) (w:World) (o:Oper) (v:Value) (a:Act):Prop :=
 (Region.wanted o (yielded ops a.tmps)=true/\aAY P o a w v)\/(Region.wanted o (yielded ops a.tmps)=false/\v=undef)
def Special (P:Program) (ops:Array Oper) (w:World) (o:Oper) (a:Act) (H:Value->World->Prop):Prop :=
 Region.wanted o (yielded ops a.tmps)=true/\∀ W,Ltr w W->∃ v W',(execOp a.eval o).run P W=.ok (.value v) W'/\Ltr W W'/\H v W'
def pT (G:World->Prop):Prop:=∀ W W',G W->Ltr W W'->G W'
theorem YR.value {o:Oper} {v1 v2:Value} {a:Act} (h1:YR P ops w o v1 a) (h2:YR P ops w o v2 a):v1=v2:=by
 rcases h1 with ⟨a1,b1⟩ | ⟨a1,rfl⟩
 ·rcases h2 with ⟨_,b2⟩ | ⟨a2,_⟩
  ·exact tW (b1 w (Below.refl _ _)) (b2 w (Below.refl _ _))
  ·rw [a1] at a2; cases a2
 ·rcases h2 with ⟨a2,_⟩ | ⟨_,rfl⟩
  ·rw [a1] at a2; cases a2
  ·rfl
theorem YR.same {o:Oper} {v:Value} {a a':Act} (hy:YR P ops w o v a) (he:execOp a'.eval o=execOp a.eval o)
  (hw:Region.wanted o (yielded ops a'.tmps)=Region.wanted o (yielded ops a.tmps)):YR P ops w o v a':=by
 unfold YR aAY Oper.quietAt at *
 rw [he,hw]
 exact hy
theorem Special.same {o:Oper} {H:Value->World->Prop} {a a':Act} (hy:Special P ops w o a H) (he:execOp a'.eval o=execOp a.eval o)
  (hw:Region.wanted o (yielded ops a'.tmps)=Region.wanted o (yielded ops a.tmps)):Special P ops w o a' H:=by
 unfold Special at *
 rw [he,hw]
 exact hy
def qL (P:Program) (ops:Array Oper) (w:World) (S:Nat->Option (Value->World->Prop)) (T:(World->Prop)->Act->Prop):List Nat->(World->Prop)->Act->Prop
 | [],G,a=>T G a
 | j :: r,G,a=>∃ o,ops[j]? = some o/\match S j with
  | some H=>Special P ops w o a H/\∀ v,qL P ops w S T r (fun W=>G W/\H v W) (a.put o.dst v)
  | none=>∃ v,YR P ops w o v a/\qL P ops w S T r G (a.put o.dst v)
variable {S : Nat → Option (Value → World → Prop)} {T : (World → Prop) → Act → Prop}
theorem u9 (hT:∀ G G' a,(∀ W,G W ↔ G' W)->T G a->T G' a):∀ (l:List Nat) (G G':World->Prop) (a:Act),(∀ W,G W ↔ G' W)->qL P ops w S T l G a->qL P ops w S T l G' a
 | [],G,G',a,hg,h=>hT G G' a hg h
 | j :: r,G,G',a,hg,⟨o,ho,h⟩=>by
  refine ⟨o,ho,?_⟩
  cases hS:S j with
  | some H =>
   rw [hS] at h
   exact ⟨h.1,fun v=>u9 hT r _ _ _ (fun W=>by rw [hg W]) (h.2 v)⟩
  | none =>
   rw [hS] at h
   obtain ⟨v,h1,h2⟩:=h
   exact ⟨v,h1,u9 hT r _ _ _ hg h2⟩
theorem yK (hsel:∀ (j:Nat) (o:Oper) cs b,ops[j]? = some o->o.op ≠ .select cs b) (hT:∀ G G' a,(∀ W,G W ↔ G' W)->T G a->T G' a) {j:Nat} {oj:Oper} (hj:ops[j]? = some oj):∀ (l1 l2:List Nat) (G:World->Prop) (a:Act),
  (∀ k ∈ l1,∀ ok,ops[k]? = some ok->ok.apart ops oj=true)->qL P ops w S T (l1 ++ j :: l2) G a ->
  match S j with
  | some H=>Special P ops w oj a H/\∀ v,qL P ops w S T (l1 ++ l2) (fun W=>G W/\H v W) (a.put oj.dst v)
  | none=>∃ v,YR P ops w oj v a/\qL P ops w S T (l1 ++ l2) G (a.put oj.dst v)
 | [],l2,G,a,_,⟨o,ho,h⟩=>by
  have:o=oj:=Option.some.inj (ho.symm.trans hj)
  subst this
  exact h
 | k :: l1,l2,G,a,hap,⟨ok,hok,h⟩=>by
  obtain ⟨p1,p2,p3⟩:=Oper.apart_spec (hap k (by simp) ok hok)
  have hjsame:∀ u,execOp (a.put ok.dst u).eval oj=execOp a.eval oj:=fun u=>execOp_put oj (fun cs b=>hsel j oj cs b hj) a ok.dst u p1
  have hjw:∀ u,Region.wanted oj (yielded ops (a.put ok.dst u).tmps)=Region.wanted oj (yielded ops a.tmps):=fun u=>wanted_put oj a ok.dst u p1
  have hksame:∀ u,execOp (a.put oj.dst u).eval ok=execOp a.eval ok:=fun u=>execOp_put ok (fun cs b=>hsel k ok cs b hok) a oj.dst u p3
  have hkw:∀ u,Region.wanted ok (yielded ops (a.put oj.dst u).tmps)=Region.wanted ok (yielded ops a.tmps):=fun u=>wanted_put ok a oj.dst u p3
  have hcomm:∀ v u,(a.put ok.dst v).put oj.dst u=(a.put oj.dst u).put ok.dst v:=fun v u=>Act.put_comm a v u p2
  have hap':∀ k ∈ l1,∀ ok,ops[k]? = some ok->ok.apart ops oj=true:=fun x hx=>hap x (by simp [hx])
  cases hSk:S k with
  | none =>
   rw [hSk] at h
   obtain ⟨vk,hyk,hrest⟩:=h
   have ih:=yK hsel hT hj l1 l2 G _ hap' hrest
   cases hSj:S j with
   | none =>
    rw [hSj] at ih
    obtain ⟨vj,hyj,hr2⟩:=ih
    refine ⟨vj,hyj.same (hjsame vk).symm (hjw vk).symm,ok,hok,?_⟩
    rw [hSk]
    exact ⟨vk,hyk.same (hksame vj) (hkw vj),by rw [<-hcomm]; exact hr2⟩
   | some H =>
    rw [hSj] at ih
    obtain ⟨hsp,hr2⟩:=ih
    refine ⟨hsp.same (hjsame vk).symm (hjw vk).symm,fun u=>⟨ok,hok,?_⟩⟩
    rw [hSk]
    exact ⟨vk,hyk.same (hksame u) (hkw u),by rw [<-hcomm]; exact hr2 u⟩
  | some Hk =>
   rw [hSk] at h
   obtain ⟨hspk,hrest⟩:=h
   have ih:=fun vk=>yK hsel hT hj l1 l2 _ _ hap' (hrest vk)
   cases hSj:S j with
   | none =>
    rw [hSj] at ih
    obtain ⟨vj,hyj,_⟩:=ih undef
    have hyj':=hyj.same (hjsame undef).symm (hjw undef).symm
    refine ⟨vj,hyj',ok,hok,?_⟩
    rw [hSk]
    refine ⟨hspk.same (hksame vj) (hkw vj),fun vk=>?_⟩
    obtain ⟨vj2,hy2,hr2⟩:=ih vk
    have:vj2=vj:=(hy2.same (hjsame vk).symm (hjw vk).symm).value hyj'
    subst this
    rw [<-hcomm]; exact hr2
   | some H =>
    rw [hSj] at ih
    refine ⟨(ih undef).1.same (hjsame undef).symm (hjw undef).symm,fun u=>⟨ok,hok,?_⟩⟩
    rw [hSk]
    refine ⟨hspk.same (hksame u) (hkw u),fun vk=>?_⟩
    rw [<-hcomm]
    exact u9 hT _ _ _ _ (fun W=>by constructor <;> (rintro ⟨⟨x,y⟩,z⟩; exact ⟨⟨x,z⟩,y⟩)) ((ih vk).2 u)
/-! The schedule. -/
def tH (n:Nat) (listed:Array Bool):List Nat:=(List.range n).filter fun j=>!listed.getD j true
def aDR (md:Region.Mode) (ops:Array Oper) (n:Nat):Bool :=
 (List.range n).all fun j=>(List.range j).all fun k=>Region.waitsFor md ops j k || match ops[k]?,ops[j]? with
  | some ok,some oj=>ok.apart ops oj
  | _,_=>false
def aDM (md:Region.Mode) (ops:Array Oper) (n:Nat):Bool:=(List.range n).all fun j=>match ops[j]? with
 | some o=>o.after.all fun e=>!Region.binds md e || decide (e.on < j)
 | none=>false
def WW (n m:Nat):Array Bool:=Array.ofFn (n:=m) fun i=>decide (i.1 < n)
def DB (md:Region.Mode) (ops:Array Oper) (n:Nat):Bool :=
 Region.noSelect ops && decide (n < ops.size) && Region.sinkB md ops n && Region.chainB md ops n && aDR md ops n && aDM md ops n && Region.seqB md ops (ops.size - n) n (WW n ops.size)
theorem vB {n j:Nat} {listed:Array Bool} (hj:j < n) (hu:listed.getD j true=false):∃ l1 l2,tH n listed=l1 ++ j :: l2/\(∀ k ∈ l1,k < j/\listed.getD k true=false)/\tH n (listed.setIfInBounds j true)=l1 ++ l2:=by
 have hsz:j < listed.size:=by
  rcases Nat.lt_or_ge j listed.size with h | h
  ·exact h
  ·simp [Array.getElem?_eq_none h] at hu
 have e:List.range n=List.range j ++ j :: (List.range (n - j - 1)).map (·+(j+1)):=by
  have h1:n=j+(1+(n - j - 1)):=by omega
  conv=>lhs; rw [h1,List.range_add,List.range_add,List.map_append]
  simp [Nat.add_comm,Nat.add_left_comm]
 refine ⟨(List.range j).filter fun j=>!listed.getD j true,((List.range (n - j - 1)).map (·+(j+1))).filter fun j=>!listed.getD j true,?_,?_,?_⟩
 ·unfold tH
  rw [e,List.filter_append,List.filter_cons,if_pos (by simp [hu])]
 ·intro k hk
  rw [List.mem_filter,List.mem_range] at hk
  exact ⟨hk.1,by simpa using hk.2⟩
 ·unfold tH
  rw [e,List.filter_append,List.filter_cons,if_neg (by simp [hsz])]
  congr 1
  ·refine List.filter_congr fun k hk=>?_
   rw [getD_set_ne true (by have:=List.mem_range.1 hk; omega)]
  ·refine List.filter_congr fun k hk=>?_
   obtain ⟨x,_,rfl⟩:=List.mem_map.1 hk
   rw [getD_set_ne true (by omega)]
theorem WL {o:Oper} {i:Nat} {a:Act} {W:World} {v:Value} {K:Act->World->Prop} {Q':Exit->Act->World->Prop} (hi:ops[i]? = some o) (hW:Ltr w W) (hy:YR P ops w o v a)
  (hK:∀ W',Ltr W W'->K (a.put o.dst v) W'):wpOp P ops Q' i K a W:=by
 unfold wpOp
 simp only [hi]
 rcases hy with ⟨hw,hv⟩ | ⟨hw,rfl⟩
 ·simp only [hw,if_true]
  refine .inl ?_
  have h3:=hv W hW
  unfold Oper.quietAt at h3
  unfold Oper.wp
  generalize (execOp a.eval o).run P W=r at *
  cases r with
  | halt x w'=>simp only [Oper.quietUpon] at h3
  | ok m w' =>
   cases m <;> simp only [Oper.quietUpon] at h3 <;> simp only [Oper.upon]
   case value u=>obtain ⟨rfl,rfl⟩:=h3; exact hK _ (Below.refl _ _)
   case skip=>obtain ⟨rfl,rfl⟩:=h3; exact hK _ (Below.refl _ _)
   case enter f args =>
    obtain ⟨rfl,hc⟩:=h3
    exact hc.mono fun e w'' ⟨he,hw''⟩=>by subst he; exact hK _ hw''
 ·simp only [hw,Bool.false_eq_true,if_false]; exact hK _ (Below.refl _ _)
theorem AX {o:Oper} {i:Nat} {a:Act} {W:World} {H:Value->World->Prop} {K:Act->World->Prop} {Q':Exit->Act->World->Prop} (hi:ops[i]? = some o) (hW:Ltr w W) (hy:Special P ops w o a H)
  (hK:∀ v W',Ltr W W'->H v W'->K (a.put o.dst v) W'):wpOp P ops Q' i K a W:=by
 unfold wpOp
 simp only [hi,hy.1,if_true]
 obtain ⟨v,W',hr,hl,hh⟩:=hy.2 W hW
 refine .inl ?_
 unfold Oper.wp
 rw [hr]
 exact hK v W' hl hh
variable {Q' : Exit → Act → World → Prop} {tail : List Oper}
def J6 (P:Program) (ops:Array Oper) (w:World) (Q':Exit->Act->World->Prop) (tail:List Oper) (G:World->Prop) (a:Act):Prop:=∀ W,Ltr w W->G W->wpList P ops Q' tail a W
theorem YS {n:Nat} (hB:DB md ops n=true) (ht:∀ j,tail[j]? = ops[n+j]?) (hst:∀ j H,S j=some H->∀ v,pT (H v)) :
  ∀ (f:Nat) (listed:Array Bool) (G:World->Prop) (a:Act) (W:World),Ltr w W->pT G->G W->HeadInv md ops n listed->(tH n listed).length=f ->
   qL P ops w S (J6 P ops w Q' tail) (tH n listed) G a->wpAny P md ops Q' (f+(ops.size - n)) listed a W:=by
 simp only [DB,Bool.and_eq_true,decide_eq_true_eq] at hB
 obtain ⟨⟨⟨⟨⟨⟨hsel0,hn⟩,hsink⟩,hchain⟩,hpair⟩,hback⟩,hseq⟩:=hB
 have hsel:=fun (j:Nat) (o:Oper) cs b (h:ops[j]? = some o)=>Region.noSelect_spec hsel0 j o cs b h
 have hT:∀ G G' a,(∀ W,G W ↔ G' W)->J6 P ops w Q' tail G a->J6 P ops w Q' tail G' a:=fun G G' a hg h W hW hG=>h W hW ((hg W).2 hG)
 intro f
 induction f with
 | zero =>
  intro listed G a W hW hGs hG inv hc hr
  have hnil:=List.eq_nil_of_length_eq_zero hc
  rw [hnil] at hr
  have hfull:listed=WW n ops.size:=by
   apply Array.ext
   ·simp [WW,inv.size]
   ·intro i h1 h2
    simp only [WW,Array.getElem_ofFn]
    by_cases hin:i < n
    ·rw [decide_eq_true hin]
     have:i ∉ tH n listed:=by rw [hnil]; simp
     unfold tH at this
     rw [List.mem_filter,List.mem_range] at this
     simp [hin,h1] at this
     exact this
    ·rw [decide_eq_false hin]
     have:=inv.tail i (by omega) (by rw [<-inv.size]; exact h1)
     simpa [h1] using this
  subst hfull
  rw [Nat.zero_add]
  have hl:tail.length=ops.size - n:=by
   have h1:∀ j,j < tail.length ↔ n+j < ops.size:=fun j=>by
    have:=ht j
    constructor
    ·intro h; rw [List.getElem?_eq_getElem h] at this; exact (Array.getElem?_eq_some_iff.1 this.symm).1
    ·intro h
     rw [Array.getElem?_eq_getElem h] at this
     exact (List.getElem?_eq_some_iff.1 this).1
   rcases Nat.lt_trichotomy tail.length (ops.size - n) with h | h | h
   ·have:=(h1 tail.length).2 (by omega); omega
   ·exact h
   ·have:=(h1 (ops.size - n)).1 h; omega
  have:=wpAny_of_seq (md:=md) (Q':=Q') tail n _ a W ht (by rw [hl]; exact hseq) (hr W hW hG)
  rwa [hl] at this
 | succ f ih =>
  intro listed G a W hW hGs hG inv hc hr
  rw [show f+1+(ops.size - n)=(f+(ops.size - n))+1 by omega]
  obtain ⟨i0,r0,he⟩:∃ i r,tH n listed=i :: r:=by
   cases h:tH n listed with
   | nil=>rw [h] at hc; simp at hc
   | cons i r=>exact ⟨i,r,rfl⟩
  have hi0:i0 ∈ tH n listed:=by rw [he]; simp
  have hi0':=hi0
  unfold tH at hi0'
  rw [List.mem_filter,List.mem_range] at hi0'
  obtain ⟨hi0n,hi0u⟩:=hi0'
  have hi0u:listed.getD i0 true=false:=by simpa using hi0u
  refine ⟨fun hnil=>?_,fun j hj=>?_⟩
  ·exfalso
   have uR:∀ k,k < i0->listed.getD k true=true:=by
    intro k hk
    have hsp:=vB hi0n hi0u
    obtain ⟨l1,l2,e1,e2,_⟩:=hsp
    rw [he] at e1
    cases l1 with
    | cons x l1 =>
     rw [List.cons_append,List.cons.injEq] at e1
     have:=(e2 x (by simp)).1
     omega
    | nil =>
     cases hl:listed.getD k true with
     | true=>rfl
     | false =>
      have hkm:k ∈ tH n listed:=by unfold tH; rw [List.mem_filter,List.mem_range]; exact ⟨by omega,by simp [hl]⟩
      obtain ⟨l3,l4,e3,e4,_⟩:=vB (listed:=listed) (show k < n by omega) hl
      rw [he] at e3
      cases l3 with
      | nil=>rw [List.nil_append,List.cons.injEq] at e3; omega
      | cons x l3 =>
       rw [List.cons_append,List.cons.injEq] at e3
       have:=(e4 x (by simp)).1
       omega
   have hrdy:i0 ∈ Region.ready md ops listed:=by
    have h1:=List.all_eq_true.1 hback i0 (List.mem_range.2 hi0n)
    cases ho:ops[i0]? with
    | none=>rw [ho] at h1; cases h1
    | some o =>
     rw [ho] at h1
     refine mem_ready.2 ⟨hi0u,o,ho,fun e hee hb=>?_⟩
     have h2:=Array.all_eq_true_iff_forall_mem.1 h1 e hee
     simp only [hb,Bool.not_true,Bool.false_or,decide_eq_true_eq] at h2
     have h3:=uR _ h2
     have h4:e.on < listed.size:=by rw [inv.size]; omega
     simpa [h4] using h3
   rw [hnil] at hrdy
   cases hrdy
  ·have hjn:j < n:=by
    rcases Nat.lt_or_ge j n with h | h
    ·exact h
    ·exact absurd hj (tail_waits hsink hchain hn inv _ i0 rfl hi0n hi0u j h)
   obtain ⟨hju,oj,hoj,hall⟩:=mem_ready.1 hj
   obtain ⟨l1,l2,e1,e2,e3⟩:=vB hjn hju
   have hap:∀ k ∈ l1,∀ ok,ops[k]? = some ok->ok.apart ops oj=true:=by
    intro k hk ok hok
    obtain ⟨hkj,hku⟩:=e2 k hk
    have h1:=List.all_eq_true.1 hpair j (List.mem_range.2 hjn)
    have h2:=List.all_eq_true.1 h1 k (List.mem_range.2 hkj)
    simp only [hok,hoj,Bool.or_eq_true] at h2
    rcases h2 with h2 | h2
    ·obtain ⟨o',ho',e,hee,hb,hon⟩:=Region.waitsFor_spec h2
     have:o'=oj:=Option.some.inj (ho'.symm.trans hoj)
     subst this
     have h3:=hall e hee hb
     rw [hon,getD_both hku] at h3
     cases h3
    ·exact h2
   rw [e1] at hr hc
   have htk:=yK hsel hT hoj l1 l2 G a hap hr
   have hlen:(l1 ++ l2).length=f:=by simp at hc ⊢; omega
   have inv2:=inv.set hj hjn
   cases hS:S j with
   | none =>
    rw [hS] at htk
    obtain ⟨v,hy,hr2⟩:=htk
    refine WL hoj hW hy fun W' hW'=>?_
    exact ih _ G _ W' (Ltr.trans hW hW') hGs (hGs _ _ hG hW') inv2 (by rw [e3]; exact hlen) (by rw [e3]; exact hr2)
   | some H =>
    rw [hS] at htk
    obtain ⟨hsp,hr2⟩:=htk
    refine AX hoj hW hsp fun v W' hW' hv=>?_
    have hs2:pT fun W=>G W/\H v W:=fun W1 W2 hg hl=>⟨hGs _ _ hg.1 hl,hst j H hS v _ _ hg.2 hl⟩
    exact ih _ _ _ W' (Ltr.trans hW hW') hs2 ⟨hGs _ _ hG hW',hv⟩ inv2 (by rw [e3]; exact hlen) (by rw [e3]; exact hr2 v)
theorem JZ (n m:Nat) (h:n<=m):tH n (Array.replicate m false)=List.range n:=by
 unfold tH
 rw [List.filter_eq_self]
 intro j hj
 have:=List.mem_range.1 hj
 simp [show j < m by omega]
theorem AY {id:Nat} {Q:Exit->Act->World->Prop} {a:Act} {w:World} {l:List Oper} (n:Nat) (S:Nat->Option (Value->World->Prop)) (hm:P.follows .mixedOrders=true) (hB:DB .any l.toArray n=true)
  (hst:∀ j H,S j=some H->∀ v,pT (H v)) (h:qL P l.toArray w S (J6 P l.toArray w Q (l.drop n)) (List.range n) (fun _=>True) a):(Code.region id l.toArray true).wp P Q a w:=by
 have hn:n < l.toArray.size:=by
  simp only [DB,Bool.and_eq_true,decide_eq_true_eq] at hB
  exact hB.1.1.1.1.1.2
 have hn':n < l.length:=by simpa using hn
 refine wp_region_any hm ?_
 have inv0:HeadInv .any l.toArray n (Array.replicate l.toArray.size false) :=
  ⟨by simp,fun j oj _ hl=>(by rw [getD_replicate_false] at hl; cases hl),fun t _ ht=>getD_in (by simpa using ht) (getD_replicate_false _ _)⟩
 have:=YS (md:=.any) (w:=w) (S:=S) (Q':=Q) (tail:=l.drop n) hB (fun j=>by simp [List.getElem?_drop]) hst n (Array.replicate l.toArray.size false) (fun _=>True) a { w with drawn:=w.drawn+1 }
  (Below.refl w.heap.size w).drew (fun _ _ _ _=>trivial) trivial inv0 (by rw [JZ _ _ (by omega)]; simp) (by rw [JZ _ _ (by omega)]; exact h)
 rwa [show n+(l.toArray.size - n)=l.toArray.size by omega] at this
theorem vA {Q:Act->Prop}:∀ (seg:List Oper) (k:Nat) (r:List Nat) (G:World->Prop) (a:Act),(∀ j,j < seg.length->seg[j]? = ops[k+j]?)->(∀ j,j < seg.length->S (k+j)=none) ->
  (∀ W,Ltr w W->wpQuiet P ops (fun w'=>∃ x:GW W,w'=x.1) Q seg a)->(∀ a',Q a'->qL P ops w S T r G a')->qL P ops w S T ((List.range' k seg.length) ++ r) G a
 | [],k,r,G,a,_,_,h,hQ=>hQ a (h w (Below.refl _ _))
 | o :: seg,k,r,G,a,hl,hS,h,hQ=>by
  have h0:ops[k]? = some o:=by simpa using (hl 0 (by simp)).symm
  rw [List.length_cons,List.range'_succ,List.cons_append]
  refine ⟨o,h0,?_⟩
  rw [show S k=none by simpa using hS 0 (by simp)]
  have hl':∀ j,j < seg.length->seg[j]? = ops[k+1+j]?:=fun j hj=>by
   have:=hl (j+1) (by simp; omega)
   simpa [Nat.add_assoc,Nat.add_comm 1 j] using this
  have hS':∀ j,j < seg.length->S (k+1+j)=none:=fun j hj=>by
   have:=hS (j+1) (by simp; omega)
   simpa [Nat.add_assoc,Nat.add_comm 1 j] using this
  by_cases hw:Region.wanted o (yielded ops a.tmps)=true
  ·have h1:∀ W,Ltr w W->o.quiet P a (fun w'=>∃ x:GW W,w'=x.1) (wpQuiet P ops (fun w'=>∃ x:GW W,w'=x.1) Q seg):=fun W hW=>by
    have:=h W hW
    unfold wpQuiet at this
    rwa [if_pos hw] at this
   obtain ⟨v,hv,_⟩:=h1 w (Below.refl _ _)
   have hval:∀ W (hW:Ltr w W),∀ u,(∀ w',(∃ x:GW W,w'=x.1)->o.quietAt P a (fun w'=>∃ x:GW W,w'=x.1) w' u)->u=v:=fun W hW u hu =>
    tW (hu W ⟨⟨W,Below.refl _ _⟩,rfl⟩) (hv W ⟨⟨W,hW⟩,rfl⟩)
   refine ⟨v,.inl ⟨hw,fun W hW=>?_⟩,vA seg (k+1) r G _ hl' hS' (fun W hW=>?_) hQ⟩
   ·obtain ⟨u,hu,_⟩:=h1 W hW
    have:u=v:=hval W hW u hu
    subst this
    exact LP (fun w' ⟨x,hx⟩=>by rw [hx]; exact x.2) (hu W ⟨⟨W,Below.refl _ _⟩,rfl⟩)
   ·obtain ⟨u,hu,hk⟩:=h1 W hW
    have:u=v:=hval W hW u hu
    subst this
    exact hk
  ·have hw':Region.wanted o (yielded ops a.tmps)=false:=by simpa using hw
   refine ⟨undef,.inr ⟨hw',rfl⟩,vA seg (k+1) r G _ hl' hS' (fun W hW=>?_) hQ⟩
   have:=h W hW
   unfold wpQuiet at this
   rwa [if_neg hw] at this
theorem LR {o:Oper} {k:Nat} {r:List Nat} {G:World->Prop} {a:Act} {H:Value->World->Prop} (ho:ops[k]? = some o) (hS:S k=some H) (hsp:Special P ops w o a H)
  (h:∀ v,qL P ops w S T r (fun W=>G W/\H v W) (a.put o.dst v)):qL P ops w S T (k :: r) G a:=⟨o,ho,by rw [hS]; exact ⟨hsp,h⟩⟩
def BG (base:Nat) (cs:Array Value) (t:TypeId) (v:Value) (W:World):Prop:=∃ g,v=.pointer (some ⟨g,0,none⟩)/\base<=g/\W.heap[g]? = some (.cells cs t (0,0))
theorem G7 (base:Nat) (cs:Array Value) (t:TypeId) (v:Value):pT (BG base cs t v):=by
 rintro W W' ⟨g,h1,h2,h3⟩ hl
 refine ⟨g,h1,h2,(hl.block g ?_).trans h3⟩
 rcases Nat.lt_or_ge g W.heap.size with h | h
 ·exact h
 ·rw [Array.getElem?_eq_none h] at h3; cases h3
theorem zI {l:List Oper} {G:World->Prop} {a:Act} (k m len:Nat) (hk:k+m<=l.length) (hS:∀ j,j < m->S (k+j)=none)
  (h:∀ W,Ltr w W->wpQuiet P l.toArray (fun w'=>∃ x:GW W,w'=x.1) (qL P l.toArray w S T (List.range' (k+m) len) G) ((l.drop k).take m) a):qL P l.toArray w S T (List.range' k (m+len)) G a:=by
 have hlen:((l.drop k).take m).length=m:=by rw [List.length_take,List.length_drop]; omega
 have:=vA (ops:=l.toArray) (S:=S) (T:=T) ((l.drop k).take m) k (List.range' (k+m) len) G a (fun j hj=>by
  rw [hlen] at hj
  rw [List.getElem?_take,if_pos hj,List.getElem?_drop]; simp) (fun j hj=>hS j (by rw [hlen] at hj; exact hj)) h (fun _ h=>h)
 rw [hlen,List.range'_append_1] at this
 exact this
theorem zH {l:List Oper} {G:World->Prop} {a:Act} (k len:Nat) (o:Oper) (base:Nat) (cs:Array Value) (ty:TypeId) (ho:l[k]? = some o) (hS:S k=some (BG base cs ty)) (hbase:base<=w.heap.size) (hg:o.guard=none)
  (hrun:∀ W,(execOp a.eval o).run P W=.ok (.value (.pointer (some ⟨W.heap.size,0,none⟩))) (W.alloc (.cells cs ty)))
  (h:∀ v,qL P l.toArray w S T (List.range' (k+1) len) (fun W=>G W/\BG base cs ty v W) (a.put o.dst v)):qL P l.toArray w S T (List.range' k (len+1)) G a:=by
 rw [List.range'_succ]
 refine LR (o:=o) (by simpa using ho) hS ⟨by unfold Region.wanted; rw [hg],fun W hW=>⟨_,_,hrun W,aL _ _,W.heap.size,rfl,Nat.le_trans hbase hW.size,heap_alloc_new W _⟩⟩ h
theorem DC {G:World->Prop} {a:Act} {Q':Exit->Act->World->Prop} {tail:List Oper} {k:Nat} (h:∀ W,Ltr w W->G W->wpList P ops Q' tail a W):qL P ops w S (J6 P ops w Q' tail) (List.range' k 0) G a:=h
theorem pQ {id:Nat} {Q:Exit->Act->World->Prop} {a:Act} {w:World} {l:List Oper} (n:Nat) (S:Nat->Option (Value->World->Prop)) (hm:P.follows .mixedOrders=true) (hB:DB .any l.toArray n=true)
  (hst:∀ j H,S j=some H->∀ v,pT (H v)) (h:qL P l.toArray w S (J6 P l.toArray w Q (l.drop n)) (List.range' 0 n) (fun _=>True) a):(Code.region id l.toArray true).wp P Q a w :=
 AY n S hm hB hst (by rw [List.range_eq_range']; exact h)
def yG (base k:Nat) (cs:Array Value) (t:TypeId) (j:Nat):Option (Value->World->Prop):=if j=k then some (BG base cs t) else none
theorem tT (base k:Nat) (cs:Array Value) (t:TypeId):∀ j H,yG base k cs t j=some H->∀ v,pT (H v):=by
 intro j H h v
 unfold yG at h
 split at h
 ·injection h with h; subst h; exact G7 base cs t v
 ·cases h
end
end
section
open Go.RowKit
section
variable {P : Program} {ops : Array Oper} {md : Region.Mode} {C : World → Prop}
def XL (md:Region.Mode) (ops:Array Oper) (n:Nat):Bool :=
 (List.range ops.size).all fun t=>decide (t<=n) || (List.range t).any fun j=>decide (n<=j) && Region.waitsFor md ops t j
theorem AK {n:Nat} {listed:Array Bool} (hs:Region.sinkB md ops n=true) (hc:XL md ops n=true) (hn:n < ops.size) (inv:HeadInv md ops n listed) :
  ∀ (d i:Nat),n - i=d->i < n->listed.getD i true=false->∀ t,n<=t->t ∉ Region.ready md ops listed:=by
 intro d
 induction d using Nat.strongRecOn with
 | _ d ih =>
  intro i hd hi hun t ht hr
  obtain ⟨_,ot,hot,hall⟩:=mem_ready.1 hr
  have htlt:t < ops.size:=(Array.getElem?_eq_some_iff.1 hot).1
  by_cases htn:t=n
  ·subst htn
   obtain ⟨j,hj,hj2⟩:=List.any_eq_true.1 (List.all_eq_true.1 hs i (List.mem_range.2 hi))
   simp only [Bool.and_eq_true,decide_eq_true_eq] at hj2
   obtain ⟨oj,hoj,e,he,hb,hon⟩:=Region.waitsFor_spec hj2.2
   have hjle:j<=t:=by have:=List.mem_range.1 hj; omega
   by_cases hjt:j=t
   ·subst hjt
    obtain rfl:oj=ot:=Option.some.inj (hoj.symm.trans hot)
    have h2:=hall e he hb
    rw [hon,getD_both hun] at h2
    cases h2
   ·cases hl:listed.getD j false with
    | true =>
     have h2:=inv.closed j oj hoj hl e he hb
     rw [hon,getD_both hun] at h2
     cases h2
    | false=>exact ih (t - j) (by omega) j rfl (by omega) (getD_in (by rw [inv.size]; omega) hl) t (Nat.le_refl _) hr
  ·have h1:=List.all_eq_true.1 hc t (List.mem_range.2 htlt)
   simp only [Bool.or_eq_true,decide_eq_true_eq] at h1
   rcases h1 with h1 | h1
   ·omega
   ·obtain ⟨j,hj,hj2⟩:=List.any_eq_true.1 h1
    simp only [Bool.and_eq_true,decide_eq_true_eq] at hj2
    have hjt:=List.mem_range.1 hj
    obtain ⟨o',ho',e,he,hb,hon⟩:=Region.waitsFor_spec hj2.2
    obtain rfl:o'=ot:=Option.some.inj (ho'.symm.trans hot)
    have h2:=hall e he hb
    rw [hon,getD_both (inv.tail j hj2.1 (by omega))] at h2
    cases h2
theorem OX {n i:Nat} {oi:Oper} {v:Value} {L:Array Bool->Act->Prop} (hi:ops[i]? = some oi) (hsel:∀ (j:Nat) (o:Oper) cs b,ops[j]? = some o->o.op ≠ .select cs b)
  (hs:Region.sinkB md ops n=true) (hc:XL md ops n=true) (hn:n < ops.size) (hin:i < n)
  (hdone:∀ listed a,L listed a->∀ j ∈ Region.ready md ops listed,n<=j) (f:Nat) :
  ∀ (listed:Array Bool) (a:Act),HeadInv md ops n listed ->
   (∀ j oj,ops[j]? = some oj->j ≠ i->listed.getD j true=false->(∀ e ∈ oj.after,Region.binds md e=true->e.on ≠ i)->oi.apart ops oj=true) ->
   i ∈ Region.ready md ops listed->YieldsIn P ops C oi v a ->
   g9 P md ops C n L f (listed.setIfInBounds i true) (a.put oi.dst v)->g9 P md ops C n L (f+1) listed a:=by
 induction f with
 | zero =>
  intro listed a inv _ hr hy H
  refine ⟨fun h=>(by rw [h] at hr; cases hr),fun j hj=>?_⟩
  have hjn:j < n:=by
   rcases Nat.lt_or_ge j n with h | h
   ·exact h
   ·exact absurd hj (AK hs hc hn inv _ i rfl hin (mem_ready.1 hr).1 j h)
  refine ⟨hjn,?_⟩
  by_cases hji:j=i
  ·subst hji; exact hy.qOp hi H
  ·have:=hdone _ _ H j (ready_mono hj hji)
   omega
 | succ f ih =>
  intro listed a inv hfree hr hy H
  refine ⟨fun h=>(by rw [h] at hr; cases hr),fun j hj=>?_⟩
  have hun:=(mem_ready.1 hr).1
  have hjn:j < n:=by
   rcases Nat.lt_or_ge j n with h | h
   ·exact h
   ·exact absurd hj (AK hs hc hn inv _ i rfl hin hun j h)
  refine ⟨hjn,?_⟩
  by_cases hji:j=i
  ·subst hji; exact hy.qOp hi H
  ·obtain ⟨hjun,oj,hoj,hall⟩:=mem_ready.1 hj
   have hnot:∀ e ∈ oj.after,Region.binds md e=true->e.on ≠ i:=fun e he hb heq=>by
    have h1:=hall e he hb
    rw [heq,getD_both hun] at h1
    cases h1
   have h2:=qOp_put hoj (hfree j oj hoj hji hjun hnot) (fun cs b=>hsel i oi cs b hi) (fun cs b=>hsel j oj cs b hoj) hy (H.2 j (ready_mono hj hji)).2
   have hfree':∀ k ok,ops[k]? = some ok->k ≠ i->(listed.setIfInBounds j true).getD k true=false ->
     (∀ e ∈ ok.after,Region.binds md e=true->e.on ≠ i)->oi.apart ops ok=true:=fun k ok hk hki hk2 hno=>by
    refine hfree k ok hk hki ?_ hno
    by_cases hjk:j=k
    ·subst hjk; exact hjun
    ·rw [getD_set_ne true hjk] at hk2; exact hk2
   refine qOp_mono (fun a' h3=>ih (listed.setIfInBounds j true) a' (inv.set hj hjn) hfree' (ready_mono hr (Ne.symm hji)) h3.1 ?_) h2
   rw [Array.setIfInBounds_comm _ _ hji]
   exact h3.2
def WY (md:Region.Mode) (ops:Array Oper) (n:Nat) (T:Array Bool):Nat->Nat->Array Bool->Bool
 | 0,_,listed=>decide (listed=T) && (Region.ready md ops listed).all fun j=>decide (n<=j)
 | f+1,k,listed=>(Region.ready md ops listed).contains k && Region.free md ops listed k && WY md ops n T f (k+1) (listed.setIfInBounds k true)
def UU (md:Region.Mode) (ops:Array Oper) (n:Nat) (T:Array Bool):Bool :=
 Region.noSelect ops && decide (n < ops.size) && Region.sinkB md ops n && XL md ops n && WY md ops n T n 0 (Array.replicate ops.size false)
theorem JA {n:Nat} {T:Array Bool} {Lq:Act->Prop} (hsel:Region.noSelect ops=true) (hs:Region.sinkB md ops n=true) (hc:XL md ops n=true) (hn:n < ops.size) :
  ∀ (l:List Oper) (k:Nat) (listed:Array Bool) (a:Act),(∀ j,j < l.length->l[j]? = ops[k+j]?)->k+l.length=n->HeadInv md ops n listed ->
  WY md ops n T l.length k listed=true->wpQuiet P ops C Lq l a ->
  g9 P md ops C n (fun listed' a'=>(listed'=T/\∀ j ∈ Region.ready md ops listed',n<=j)/\Lq a') l.length listed a
 | [],k,listed,a,_,hk,_,hB,h=>by
  have:k=n:=by simpa using hk
  subst this
  have hB':(decide (listed=T) && (Region.ready md ops listed).all fun j=>decide (k<=j))=true:=hB
  rw [Bool.and_eq_true,decide_eq_true_eq,List.all_eq_true] at hB'
  exact ⟨⟨hB'.1,fun j hj=>of_decide_eq_true (hB'.2 j hj)⟩,h⟩
 | o :: l,k,listed,a,hl,hk,inv,hB,h=>by
  have h0:ops[k]? = some o:=by simpa using (hl 0 (by simp)).symm
  simp only [List.length_cons,WY,Bool.and_eq_true] at hB
  have hkn:k < n:=by simp only [List.length_cons] at hk; omega
  have hr':k ∈ Region.ready md ops listed:=by simpa using hB.1.1
  have hst:qOp P ops C k (wpQuiet P ops C Lq l) a:=by unfold qOp; simp only [h0]; exact h
  obtain ⟨v,hy,hK⟩:=yieldsIn_of_qOp h0 hst
  exact OX h0 (Region.noSelect_spec hsel) hs hc hn hkn (fun listed' a' hL=>hL.1.2) l.length listed a inv (Region.free_spec h0 hB.1.2) hr' hy
   (JA hsel hs hc hn l (k+1) _ _ (fun j hj=>by have:=hl (j+1) (by simp; omega); simpa [Nat.add_assoc,Nat.add_comm 1 j] using this) (by simp only [List.length_cons] at hk; omega) (inv.set hr' hkn) hB.2 hK)
theorem GC {Q:Exit->Act->World->Prop} {a:Act} {w:World} {l:List Oper} (n:Nat) (T:Array Bool) (hB:UU .any l.toArray n T=true)
  (h:wpQuiet P l.toArray (fun w'=>∃ x:GW w,w'=x.1) (fun a'=>∀ w',(∃ x:GW w,w'=x.1)->wpAny P .any l.toArray Q (l.length - n) T a' w') (l.take n) a):wpAny P .any l.toArray Q l.toArray.size (Array.replicate l.toArray.size false) a { w with drawn:=w.drawn+1 }:=by
 simp only [UU,Bool.and_eq_true,decide_eq_true_eq] at hB
 obtain ⟨⟨⟨⟨hsel,hn⟩,hs⟩,hc⟩,hlex⟩:=hB
 have hn':n < l.length:=by simpa using hn
 have htl:(l.take n).length=n:=by simp; omega
 have inv0:HeadInv .any l.toArray n (Array.replicate l.toArray.size false) :=
  ⟨by simp,fun j oj _ hl=>(by rw [getD_replicate_false] at hl; cases hl),fun t _ ht=>getD_in (by simpa using ht) (getD_replicate_false _ _)⟩
 have H:=JA (md:=.any) hsel hs hc hn (l.take n) 0 _ a (fun j hj=>by
  have hj':j < n:=by rw [htl] at hj; exact hj
  simp [hj']) (by simpa using htl) inv0 (by rw [htl]; exact hlex) h
 have:=j1 (Q':=Q) (g:=l.length - n) (fun listed a' w' hw' hL=>by
  rw [hL.1.1]
  exact hL.2 w' hw') _ _ _ { w with drawn:=w.drawn+1 } ⟨⟨_,(Below.refl w.heap.size w).drew⟩,rfl⟩ H
 rw [htl,show n+(l.length - n)=l.toArray.size by simp; omega] at this
 exact this
theorem tI {id:Nat} {Q:Exit->Act->World->Prop} {a:Act} {w:World} {l:List Oper} (n:Nat) (T:Array Bool) (hm:P.follows .mixedOrders=true) (hB:UU .any l.toArray n T=true)
  (h:wpQuiet P l.toArray (fun w'=>∃ x:GW w,w'=x.1) (fun a'=>∀ w',(∃ x:GW w,w'=x.1)->wpAny P .any l.toArray Q (l.length - n) T a' w') (l.take n) a):(Code.region id l.toArray true).wp P Q a w :=
 wp_region_any hm (GC n T hB h)
end
end
end Go.Proofs.YtnbbfblaipjcmaaGreatDoor
