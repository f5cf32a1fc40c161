/- NetA, NetB, CalmF, CalmG, CalmH, CalmI. Conditions: as each theorem states. -/
import Derived.RangeFuncNested
import Derived.RangeFuncBound
import Derived.RangeFuncCalls
import Derived.RangeFuncLeaves
import Derived.RangeFuncFrom
import Derived.Shelf.Abstract
import Derived.Shelf.RegionOpen
import Derived.OwnWalkIn
import Derived.TacticsInMore
import Derived.LoopNIn
import Derived.LoopIn
import Derived.LoopN
import Derived.Test.YtnbbfblaipjcmaaGreatDoorPv06
namespace Go.Proofs.YtnbbfblaipjcmaaGreatDoor
section
open Go.RowKit
section
variable {P : Program} {ops : Array Oper} {md : Region.Mode} {Q : Exit → Act → World → Prop} {l n : Nat}
theorem MN {o:Oper} {a:Act} {w:World} {K:Act->World->Prop} (hd:∀ c,o.op ≠ .defer c) (h:o.wp P a w K Q):o.wpIn (Fence.wide.inRound l) n P a w K Q:=by
 refine ⟨fun _ _=>trivial,?_⟩
 rw [Oper.semAt_plain _ _ _ hd]
 unfold Oper.wp at h
 generalize (execOp a.eval o).run P w=r at h
 cases r with
 | ok x w' =>
  cases x with
  | value v=>exact h
  | skip=>exact h
  | defer d=>exact h
  | enter f args =>
   refine ⟨fun h=>(by cases h),?_⟩
   have h2:=CallsIn.inRound l ((callsIn_wide (n:=n - 1)).2 h)
   exact h2.mono fun e w'' he=>(by cases e <;> exact he)
  | row row args =>
   refine ⟨fun h=>(by cases h),fun c cs _=>?_⟩
   obtain ⟨v,w',r,s⟩:=h c cs
   exact ⟨v,w',r,stepsIn_wide.2 s⟩
  | _=>exact h.elim
 | halt x w'=>cases x <;> exact h
def BH (ops:Array Oper):Bool:=ops.toList.all fun o=>match o.op with | .defer _=>false | _=>true
theorem U9 {i:Nat} {o:Oper} (hn:BH ops=true) (h:ops[i]? = some o):∀ c,o.op ≠ .defer c:=by
 intro c hc
 have:=List.all_eq_true.1 hn o (Array.mem_toList_iff.2 (Array.mem_of_getElem? h))
 rw [hc] at this
 cases this
theorem FU (hL:¬ LetsOut Q) (hn:BH ops=true) {i:Nat} {K:Act->World->Prop} {a:Act} {w:World} (h:wpOp P ops Q i K a w):wpOpIn (Fence.wide.inRound l) n P ops Q i K a w:=by
 unfold wpOp at h
 unfold wpOpIn
 split
 ·rename_i ho
  simpa only [ho] using h
 ·rename_i o ho
  simp only [ho] at h
  split
  ·rename_i hw
   simp only [hw,if_true] at h
   rcases h with h | h
   ·exact MN (U9 hn ho) h
   ·exact absurd h.2 hL
  ·rename_i hw
   simp only [hw] at h
   exact ⟨fun _ _=>trivial,h⟩
theorem pP (hL:¬ LetsOut Q) (hn:BH ops=true):∀ (fuel:Nat) (listed:Array Bool) (a:Act) (w:World),wpAny P md ops Q fuel listed a w->wpAnyIn (Fence.wide.inRound l) n P md ops Q fuel listed a w
 | 0,_,_,_,h=>h
 | fuel+1,_,_,_,h=>⟨h.1,fun i hi=>FU hL hn (wpOp_mono (fun a' w' h'=>pP hL hn fuel _ a' w' h') (h.2 i hi))⟩
/-! A statement 'a[i], a[k] = f(a[i], a[k], ..)': two of its operations wait for nothing, one for the call alone; the others come in the text's order, or are quiet. -/
def QU (md:Region.Mode) (ops:Array Oper) (k m:Nat):Bool:=(List.range m).all fun i=>decide (i < k) || (List.range (m+1)).any fun j=>decide (i < j) && Region.waitsFor md ops j i
def XF (md:Region.Mode) (ops:Array Oper) (m:Nat):Bool:=(List.range ops.size).all fun t=>decide (t<=m) || (List.range t).any fun j=>decide (m<=j) && Region.waitsFor md ops t j
theorem aAp {k m:Nat} {listed:Array Bool} (hs:QU md ops k m=true) (hm:m < ops.size) (inv:HeadInv md ops (m+1) listed) :
  ∀ (d i:Nat),m - i=d->k<=i->i<=m->listed.getD i true=false->listed.getD m true=false:=by
 intro d
 induction d using Nat.strongRecOn with
 | _ d ih =>
  intro i hd hk hi hun
  by_cases him:i=m
  ·subst him; exact hun
  ·have h1:=List.all_eq_true.1 hs i (List.mem_range.2 (by omega))
   simp only [Bool.or_eq_true,decide_eq_true_eq] at h1
   rcases h1 with h1 | h1
   ·omega
   obtain ⟨j,hj,hj2⟩:=List.any_eq_true.1 h1
   simp only [Bool.and_eq_true,decide_eq_true_eq] at hj2
   obtain ⟨oj,hoj,e,he,hb,hon⟩:=Region.waitsFor_spec hj2.2
   have hjle:j<=m:=by have:=List.mem_range.1 hj; omega
   cases hl:listed.getD j false with
   | true =>
    have h2:=inv.closed j oj hoj hl e he hb
    rw [hon,getD_both hun] at h2
    cases h2
   | false =>
    have hjs:j < listed.size:=by rw [inv.size]; omega
    exact ih (m - j) (by omega) j rfl (by omega) hjle (getD_in hjs hl)
theorem AJ {k m:Nat} {listed:Array Bool} (hs:QU md ops k m=true) (hc:XF md ops m=true) (hm:m < ops.size) (inv:HeadInv md ops (m+1) listed) (i:Nat) (hk:k<=i) (hi:i < m+1) (hun:listed.getD i true=false) :
  ∀ t,m+1<=t->t ∉ Region.ready md ops listed:=by
 have hmu:=aAp hs hm inv _ i rfl hk (by omega) hun
 intro t ht hr
 obtain ⟨_,ot,hot,hall⟩:=mem_ready.1 hr
 have htlt:t < ops.size:=(Array.getElem?_eq_some_iff.1 hot).1
 have h1:=List.all_eq_true.1 hc t (List.mem_range.2 htlt)
 simp only [Bool.or_eq_true,decide_eq_true_eq] at h1
 rcases h1 with h1 | h1
 ·omega
 obtain ⟨j,hj,hj2⟩:=List.any_eq_true.1 h1
 simp only [Bool.and_eq_true,decide_eq_true_eq] at hj2
 obtain ⟨o',ho',e,he,hb,hon⟩:=Region.waitsFor_spec hj2.2
 have:o'=ot:=Option.some.inj (ho'.symm.trans hot)
 subst this
 have h2:=hall e he hb
 rw [hon] at h2
 have hjlt:=List.mem_range.1 hj
 by_cases hjm:j=m
 ·subst hjm
  rw [getD_both hmu] at h2; cases h2
 ·rw [getD_both (inv.tail j (by omega) (by omega))] at h2; cases h2
section
variable {C : World → Prop}
theorem OV {k m i:Nat} {oi:Oper} {v:Value} {L:Array Bool->Act->Prop} (hi:ops[i]? = some oi) (hsel:∀ (j:Nat) (o:Oper) cs b,ops[j]? = some o->o.op ≠ .select cs b)
  (hs:QU md ops k m=true) (hc:XF md ops m=true) (hm:m < ops.size) (hki:k<=i) (hin:i < m+1)
  (hdone:∀ listed a,L listed a->∀ j ∈ Region.ready md ops listed,m+1<=j) (f:Nat) :
  ∀ (listed:Array Bool) (a:Act),HeadInv md ops (m+1) listed ->
   (∀ j oj,ops[j]? = some oj->j ≠ i->listed.getD j true=false->(∀ e ∈ oj.after,Region.binds md e=true->e.on ≠ i)->oi.apart ops oj=true) ->
   i ∈ Region.ready md ops listed->YieldsIn P ops C oi v a ->
   g9 P md ops C (m+1) L f (listed.setIfInBounds i true) (a.put oi.dst v)->g9 P md ops C (m+1) L (f+1) listed a:=by
 induction f with
 | zero =>
  intro listed a inv _ hr hy H
  refine ⟨fun h=>(by rw [h] at hr; cases hr),fun j hj=>?_⟩
  have hjn:j < m+1:=by
   rcases Nat.lt_or_ge j (m+1) with h | h
   ·exact h
   ·exact absurd hj (AJ hs hc hm inv i hki hin (mem_ready.1 hr).1 j h)
  refine ⟨hjn,?_⟩
  by_cases hji:j=i
  ·subst hji; exact hy.qOp hi H
  ·have:=hdone _ _ H j (ready_mono hj hji)
   omega
 | succ f ih =>
  intro listed a inv hfree hr hy H
  refine ⟨fun h=>(by rw [h] at hr; cases hr),fun j hj=>?_⟩
  have hun:=(mem_ready.1 hr).1
  have hjn:j < m+1:=by
   rcases Nat.lt_or_ge j (m+1) with h | h
   ·exact h
   ·exact absurd hj (AJ hs hc hm inv i hki hin hun j h)
  refine ⟨hjn,?_⟩
  by_cases hji:j=i
  ·subst hji; exact hy.qOp hi H
  ·obtain ⟨hjun,oj,hoj,hall⟩:=mem_ready.1 hj
   have hnot:∀ e ∈ oj.after,Region.binds md e=true->e.on ≠ i:=fun e he hb heq=>by
    have h1:=hall e he hb
    rw [heq,getD_both hun] at h1
    cases h1
   have h2:=qOp_put hoj (hfree j oj hoj hji hjun hnot) (fun cs b=>hsel i oi cs b hi) (fun cs b=>hsel j oj cs b hoj) hy (H.2 j (ready_mono hj hji)).2
   have hfree':∀ k ok,ops[k]? = some ok->k ≠ i->(listed.setIfInBounds j true).getD k true=false ->
     (∀ e ∈ ok.after,Region.binds md e=true->e.on ≠ i)->oi.apart ops ok=true:=fun k ok hk hki hk2 hno=>by
    refine hfree k ok hk hki ?_ hno
    by_cases hjk:j=k
    ·subst hjk; exact hjun
    ·rw [getD_set_ne true hjk] at hk2; exact hk2
   refine qOp_mono (fun a' h3=>ih (listed.setIfInBounds j true) a' (inv.set hj hjn) hfree' (ready_mono hr (Ne.symm hji)) h3.1 ?_) h2
   rw [Array.setIfInBounds_comm _ _ hji]
   exact h3.2
def GT (md:Region.Mode) (ops:Array Oper) (B:Array Bool->Bool):Nat->Nat->Array Bool->Bool
 | 0,_,listed=>B listed
 | f+1,j,listed=>(Region.ready md ops listed).contains j && Region.free md ops listed j && GT md ops B f (j+1) (listed.setIfInBounds j true)
theorem I8 {k m:Nat} {B:Array Bool->Bool} {Lq:Act->Prop} (hsel:Region.noSelect ops=true) (hs:QU md ops k m=true) (hc:XF md ops m=true) (hm:m < ops.size)
  (hdone:∀ listed,B listed=true->∀ j ∈ Region.ready md ops listed,m+1<=j) :
  ∀ (l:List Oper) (j0:Nat) (listed:Array Bool) (a:Act),(∀ j,j < l.length->l[j]? = ops[j0+j]?)->k<=j0->j0+l.length=m+1->HeadInv md ops (m+1) listed ->
  GT md ops B l.length j0 listed=true->wpQuiet P ops C Lq l a ->
  g9 P md ops C (m+1) (fun listed' a'=>B listed'=true/\Lq a') l.length listed a
 | [],_,listed,a,_,_,_,_,hB,h=>⟨by simpa [GT] using hB,h⟩
 | o :: l,j0,listed,a,hl,hkj,hk,inv,hB,h=>by
  have h0:ops[j0]? = some o:=by simpa using (hl 0 (by simp)).symm
  simp only [List.length_cons,GT,Bool.and_eq_true] at hB
  have hkn:j0 < m+1:=by simp only [List.length_cons] at hk; omega
  have hr':j0 ∈ Region.ready md ops listed:=by simpa using hB.1.1
  have hst:qOp P ops C j0 (wpQuiet P ops C Lq l) a:=by unfold qOp; simp only [h0]; exact h
  obtain ⟨v,hy,hK⟩:=yieldsIn_of_qOp h0 hst
  exact OV h0 (Region.noSelect_spec hsel) hs hc hm hkj hkn (fun listed' a' hL=>hdone _ hL.1) l.length listed a inv (Region.free_spec h0 hB.1.2) hr' hy
   (I8 hsel hs hc hm hdone l (j0+1) _ _ (fun j hj=>by have:=hl (j+1) (by simp; omega); simpa [Nat.add_assoc,Nat.add_comm 1 j] using this) (by omega) (by simp only [List.length_cons] at hk; omega) (inv.set hr' hkn) hB.2 hK)
end
def aAl (md:Region.Mode) (ops:Array Oper):List Nat->Array Bool->Bool
 | [],listed=>(Region.ready md ops listed).isEmpty
 | i :: r,listed=>decide (Region.ready md ops listed=[i]) && aAl md ops r (listed.setIfInBounds i true)
def uZ (ops:Array Oper) (is:List Nat):List Oper:=is.filterMap fun i=>ops[i]?
theorem oJ {Q':Exit->Act->World->Prop}:∀ (is:List Nat) (listed:Array Bool) (a:Act) (w:World),(∀ i ∈ is,i < ops.size) ->
  aAl md ops is listed=true->wpList P ops Q' (uZ ops is) a w->wpAny P md ops Q' is.length listed a w
 | [],_,_,_,_,hB,h=>⟨by simpa [aAl] using hB,h⟩
 | i :: r,listed,a,w,hl,hB,h=>by
  have hi:i < ops.size:=hl i (by simp)
  have h0:ops[i]? = some ops[i]:=Array.getElem?_eq_getElem hi
  simp only [aAl,Bool.and_eq_true,decide_eq_true_eq] at hB
  refine ⟨fun h1=>(by rw [hB.1] at h1; cases h1),fun j hj=>?_⟩
  rw [hB.1] at hj
  have hij:j=i:=by simpa using hj
  subst hij
  have e:uZ ops (j :: r)=ops[j] :: uZ ops r:=by unfold uZ; rw [List.filterMap_cons,h0]
  rw [e] at h
  have hw:wpOp P ops Q' j (wpList P ops Q' (uZ ops r)) a w:=by unfold wpOp; simp only [h0]; exact h
  exact wpOp_mono (fun a' w' h'=>oJ r _ a' w' (fun x hx=>hl x (by simp [hx])) hB.2 h') hw
def aCD (md:Region.Mode) (ops:Array Oper) (listed:Array Bool):Bool :=
 (Region.ready md ops listed).all (fun j=>decide (11<=j)) && (Region.ready md ops listed).contains 12 && Region.free md ops listed 12 && aAl md ops [11,13,14,15,16] (listed.setIfInBounds 12 true)
def VI (md:Region.Mode) (ops:Array Oper):Bool :=
 Region.noSelect ops && decide (ops.size=17) && QU md ops 2 10 && XF md ops 10 &&
 ((Region.ready md ops (Array.replicate 17 false)).contains 0 && Region.free md ops (Array.replicate 17 false) 0) &&
 ((Region.ready md ops ((Array.replicate 17 false).setIfInBounds 0 true)).contains 1 && Region.free md ops ((Array.replicate 17 false).setIfInBounds 0 true) 1) &&
 GT md ops (aCD md ops) 9 2 (((Array.replicate 17 false).setIfInBounds 0 true).setIfInBounds 1 true)
theorem YG {Q':Exit->Act->World->Prop} {a:Act} {w:World} {ol:List Oper} {o0 o1 o12:Oper} (h0:ol[0]? = some o0) (h1:ol[1]? = some o1) (h12:ol[12]? = some o12) (hB:VI .any ol.toArray=true)
  (hQ:∀ c a' w' d v,Q' (.panic c) (a'.put d v) w'->Q' (.panic c) a' w') {v0 v1:Value} (hy0:Yields P ol.toArray o0 v0 a) (hy1:Yields P ol.toArray o1 v1 (a.put o0.dst v0))
  (h:wpQuiet P ol.toArray (fun w'=>∃ x:GW w,w'=x.1) (fun a'=>∃ v,Yields P ol.toArray o12 v a'/\∀ w',(∃ x:GW w,w'=x.1)->wpList P ol.toArray Q' (uZ ol.toArray [11,13,14,15,16]) (a'.put o12.dst v) w') ((ol.drop 2).take 9) ((a.put o0.dst v0).put o1.dst v1)) :
  wpAny P .any ol.toArray Q' ol.toArray.size (Array.replicate ol.toArray.size false) a { w with drawn:=w.drawn+1 }:=by
 simp only [VI,Bool.and_eq_true,decide_eq_true_eq] at hB
 obtain ⟨⟨⟨⟨⟨⟨hsel,hsz⟩,hs⟩,hc⟩,hr0,hf0⟩,hr1,hf1⟩,hlex⟩:=hB
 rw [hsz]
 refine wpAny_take (i:=0) (by simpa using h0) hsel hf0 hr0 (fun c a' w'=>hQ c a' w' _ _) hy0 ?_
 refine wpAny_take (i:=1) (by simpa using h1) hsel hf1 hr1 (fun c a' w'=>hQ c a' w' _ _) hy1 ?_
 have hol:ol.length=17:=by simpa using hsz
 have inv0:HeadInv .any ol.toArray 11 (Array.replicate ol.toArray.size false) :=
  ⟨by simp,fun j oj _ hl=>(by rw [getD_replicate_false] at hl; cases hl),fun t _ ht=>getD_in (by simpa using ht) (getD_replicate_false _ _)⟩
 rw [hsz] at inv0
 have inv1:=inv0.set (i:=0) (by simpa using hr0) (by decide)
 have inv2:=inv1.set (i:=1) (by simpa using hr1) (by decide)
 have hll:((ol.drop 2).take 9).length=9:=by simp [hol]
 have H:=I8 (md:=.any) (k:=2) (m:=10) (B:=aCD .any ol.toArray) hsel hs hc (by omega) (fun listed hb j hj=>by
   simp only [aCD,Bool.and_eq_true] at hb
   exact of_decide_eq_true (List.all_eq_true.1 hb.1.1.1 j hj)) ((ol.drop 2).take 9) 2 _ _ (fun j hj=>by
    rw [hll] at hj
    rw [List.getElem?_take,if_pos hj,List.getElem?_drop]
    simp) (by omega) (by rw [hll]) inv2 (by rw [hll]; exact hlex) h
 rw [hll] at H
 exact j1 (Q':=Q') (g:=6) (n:=11) (fun listed a' w' hw' hL=>by
  obtain ⟨hb,v,hy,hT⟩:=hL
  simp only [aCD,Bool.and_eq_true] at hb
  refine wpAny_take (i:=12) (by simpa using h12) hsel hb.1.2 hb.1.1.2 (fun c a' w'=>hQ c a' w' _ _) hy ?_
  exact oJ [11,13,14,15,16] _ _ _ (by simp [hol]) hb.2 (hT w' hw')) 9 _ _ { w with drawn:=w.drawn+1 } ⟨⟨_,(Below.refl w.heap.size w).drew⟩,rfl⟩ H
theorem oG {id:Nat} {a:Act} {w:World} {ol:List Oper} {o0 o1 o11 o12 o13 o14 o15 o16:Oper} (h0:ol[0]? = some o0) (h1:ol[1]? = some o1) (h11:ol[11]? = some o11) (h12:ol[12]? = some o12) (h13:ol[13]? = some o13) (h14:ol[14]? = some o14) (h15:ol[15]? = some o15) (h16:ol[16]? = some o16)
  (hB:VI .any ol.toArray=true) (hn:BH ol.toArray=true) (hm:P.follows .mixedOrders=true)
  (hL:¬ LetsOut Q) (hQ:∀ c a' w' d v,Q (.panic c) (a'.put d v) w'->Q (.panic c) a' w') {v0 v1:Value} (hy0:Yields P ol.toArray o0 v0 a) (hy1:Yields P ol.toArray o1 v1 (a.put o0.dst v0))
  (h:wpQuiet P ol.toArray (fun w'=>∃ x:GW w,w'=x.1) (fun a'=>∃ v,Yields P ol.toArray o12 v a'/\∀ w',(∃ x:GW w,w'=x.1)->wpList P ol.toArray Q [o11,o13,o14,o15,o16] (a'.put o12.dst v) w') ((ol.drop 2).take 9) ((a.put o0.dst v0).put o1.dst v1)) :
  (Code.region id ol.toArray true).wpIn (Fence.wide.inRound l) n P Q a w:=by
 have e:uZ ol.toArray [11,13,14,15,16]=[o11,o13,o14,o15,o16]:=by
  simp [uZ,h11,h13,h14,h15,h16]
 refine wpIn_region_any hm (pP hL hn _ _ _ _ (YG h0 h1 h12 hB hQ hy0 hy1 ?_))
 rw [e]
 exact h
end
theorem dR {W W':World} {row:Option Nat} (h:Below W.heap.size W W'):W.grownBy W' row:=by
 obtain ⟨a,b,c,d,e⟩:=h
 exact ⟨a,b,c,d,fun k hk _=>e k hk⟩
theorem sS {W:World} {g o:Nat} (v:Value):W.grownBy (W.setCell ⟨g,o,none⟩ v) (some g):=⟨rfl,rfl,rfl,by simp,fun k _ hk=>Below.heap_setCell _ _ _ _ (fun e=>hk (by rw [e]))⟩
end
section
open Go.Lib (hid)
open Go.RowKit Go.Shelf
attribute [local go_sem] Oper.semAt_some
theorem QB (i r:Nat) (w:World) (hi:i < 16) (hr:r < 4):Calls Tryz.prog 213 #[.int .i64 i,.int .i64 r] w fun e w'=>e=.returned (.int .i64 ((3*i+5*r) % 8:Nat))/\w=w':=by
 have h1:(i:Int) < 16:=by omega
 have h2:(r:Int) < 4:=by omega
 have H:=hid (show (3*(i:Int)+5*(r:Int)) % 8=(((3*i+5*r) % 8:Nat):Int) by omega)
 clear hi hr
 go_enter Tryz.func213,Tryz.ntmps213
 go_wp2
 go_ret
 exact ⟨cE H.out,rfl⟩
abbrev PI (r:Nat):={ i:Nat // i < 16/\i / 2 ^ r % 2=0 }
def aBi (r:Nat) (x:PI r):Array Value:=#[.int .i64 (x.1:Int),.agg #[.int .i64 (aQ x.1 r).p,.int .i64 (aQ x.1 r).u]]
def kK (r:Nat):Nat->List (PI r)
 | 0=>[]
 | k+1=>if h:k < 16/\k / 2 ^ r % 2=0 then kK r k ++ [⟨k,h⟩] else kK r k
theorem yC {r k:Nat} (h:k < 16/\k / 2 ^ r % 2=0):kK r (k+1)=kK r k ++ [⟨k,h⟩]:=by rw [kK,dif_pos h]
theorem EF {r k:Nat} (h:¬ (k < 16/\k / 2 ^ r % 2=0)):kK r (k+1)=kK r k:=by rw [kK,dif_neg h]
theorem LI:∀ (r:Fin 4) (k:Fin 16),k.1 / 2 ^ r.1 % 2=0->(kK r.1 k.1).length < 8:=by decide +kernel
theorem PQ {r k:Nat} (hr:r < 4) (hk:k < 16) (h:k / 2 ^ r % 2=0):(kK r k).length < 8:=LI ⟨r,hr⟩ ⟨k,hk⟩ h
theorem YE:∀ (r:Fin 4) (k:Fin 16),bits .and .i64 ((k.1:Nat):Int) ((2 ^ r.1:Nat):Int)=if k.1 / 2 ^ r.1 % 2=0 then 0 else ((2 ^ r.1:Nat):Int):=by decide +kernel
theorem aB3 {r:Nat} (hr:r < 4):wrap64 (2 ^ r)=((2 ^ r:Nat):Int):=by
 have hr4:r=0\/r=1\/r=2\/r=3:=by omega
 rcases hr4 with rfl | rfl | rfl | rfl <;> decide +kernel
theorem aA3 {r k:Nat} (hr:r < 4) (hk:k < 16):bits .and .i64 (k:Int) (wrap64 (2 ^ r))=if k / 2 ^ r % 2=0 then 0 else ((2 ^ r:Nat):Int):=by rw [aB3 hr]; exact YE ⟨r,hr⟩ ⟨k,hk⟩
theorem iK:∀ (r:Fin 4) (k:Fin 16),k.1 / 2 ^ r.1 % 2=0->bits .or .i64 ((k.1:Nat):Int) ((2 ^ r.1:Nat):Int)=((k.1+2 ^ r.1:Nat):Int)/\k.1+2 ^ r.1 < 16:=by decide +kernel
def CI (tv:Array Value):Prop:=∀ q,q < 8->tv[q*2]? = some (.int .i64 (bE q).p)/\tv[q*2+1]? = some (.int .i64 (bE q).u)
def Kp2 (a b:Nat) (W W':World):Prop:=W'.heap[a]? = W.heap[a]?/\W'.heap[b]? = W.heap[b]?
theorem wJ {a b:Nat} {A B C:World} (h:Kp2 a b A B) (k:Kp2 a b B C):Kp2 a b A C:=⟨k.1.trans h.1,k.2.trans h.2⟩
theorem zV {a b:Nat} {w:World} (ha:a < w.heap.size) (hb:b < w.heap.size) (W:World) (l:Nat) (o o':Obj) (hl:w.heap.size<=l) (_:W.heap[l]? = some o) (_:o.isCells=false) (_:o.isWalk=false):Kp2 a b W (W.putObj l o') :=
 ⟨World.putObj_heap_other (by omega),World.putObj_heap_other (by omega)⟩
theorem JG {a b n:Nat} {A B:World} (ha:a < n) (hb:b < n) (h:Below n A B):Kp2 a b A B:=⟨h.block a ha,h.block b hb⟩
set_option maxRecDepth 100000 in
set_option maxHeartbeats 4000000 in
theorem aAc (l r Br Bn:Nat) (tv:Array Value) (hr:r < 4) (ht:CI tv) (J Jx:List (PI r)->World->Prop)
  (hY:∀ pre x W,J pre W->pre.length < 8->YieldAt Fence.wide 2 Tryz.prog l (aBi r x) W fun e W' =>
   (e=.returned (.bool true)/\J (pre ++ [x]) W'/\Kp2 Br Bn W W')\/(e=.returned (.bool false)/\Jx (pre ++ [x]) W'))
  (W:World) (hBr:W.heap[Br]? = some (.cells #[.int .i64 r] 3 (0,0))) (hBn:W.heap[Bn]? = some (.cells tv 102 (0,0))) (h0:J [] W) :
  CallsIn Fence.wide 3 Tryz.prog 212 #[.func (.yield l) #[] #[],.pointer (some ⟨Br,0,none⟩),.pointer (some ⟨Bn,0,none⟩)] W fun e W'=>(∃ v,e=.returned v) /\
   ((∃ ys,ys=kK r 16/\J ys W')\/(∃ pre,True/\Jx pre W')):=by
 have Hr:=hid hBr
 have Hn:=hid hBn
 have Ht:=hid ht
 have HY:=hid hY
 have H0:=hid h0
 have HT:=hid (fun i W (hi:i < 16)=>QB i r W hi hr)
 have HA:=hid (fun k (hk:k < 16)=>aA3 hr hk)
 have hp:0 < 2 ^ r/\2 ^ r<=8:=by
  have hr4:r=0\/r=1\/r=2\/r=3:=by omega
  rcases hr4 with rfl | rfl | rfl | rfl <;> decide +kernel
 have Hs:=hid (fun k (hk:k < 16) (h:k / 2 ^ r % 2=0)=>PQ hr hk h)
 have hr0:(0:Int)<=(r:Int):=by omega
 have hr4:(r:Int) < 4:=by omega
 clear hBr hBn ht hY h0
 refine callsIn_of_wp Tryz.func212 rfl trivial ?_ rfl
 simp only [Tryz.ntmps212,List.size_toArray,List.length_cons,List.length_nil,Nat.reduceAdd,Nat.reduceSub,Array.replicate_succ,Array.replicate_zero,List.push_toArray,List.append_toArray,List.nil_append,List.cons_append]
 gi_wp2
 gi_loopw [5] (fun i wr=>∃ k:Nat,k<=16/\i=.int .i64 k/\J (kK r k) wr/\Kp2 Br Bn W wr) (fun i _=>16 - (intOf i).toNat)
 case atStart=>exact ⟨0,Nat.zero_le _,rfl,H0.out,rfl,rfl⟩
 case round =>
  obtain ⟨k,hk,rfl,hJs,hnx⟩:=hrel
  have HJ:=hid hJs
  have Hkp:=hid hnx
  clear hJs hnx H0
  by_cases hlt:k < 16
  ·have t1:(k:Int) < 16:=by omega
   have hb1:=Hkp.out.1.trans Hr.out
   have c1:wr.cell? ⟨Br,0,none⟩=some (.int .i64 r):=cell_of_row wr Br 0 _ _ _ hb1
   by_cases hl:k / 2 ^ r % 2=0
   ·have hand:=HA.out k hlt
    rw [if_pos hl] at hand
    obtain ⟨fn,tmps,assign,body,hy,hR⟩:=HY.out _ ⟨k,hlt,hl⟩ wr HJ.out (Hs.out k hlt hl)
    unfold aBi at hy
    simp only [aQ] at hy
    have HS:=hid (yC ⟨hlt,hl⟩)
    have HT1:=hid (fun W=>HT.out k W hlt)
    obtain ⟨q,hq⟩:∃ q,(3*k+5*r) % 8=q:=⟨_,rfl⟩
    have hq8:q < 8:=by omega
    rw [hq] at hy HT1
    have hb2:=Hkp.out.2.trans Hn.out
    have hp1:=(cell_of_row wr Bn (q*2) _ _ _ hb2).trans (Ht.out q hq8).1
    have hu1:=(cell_of_row wr Bn (q*2+1) _ _ _ hb2).trans (Ht.out q hq8).2
    generalize bE q=tk at *
    obtain ⟨pp,uu⟩:=tk
    simp only at hy hp1 hu1
    have hq0:(0:Int)<=(q:Int):=by omega
    have hq9:(q:Int) < 8:=by omega
    clear hq hb1 hb2
    gi_wp2_with (refine ⟨trivial,?_⟩; gi_at_call 213; refine (callsIn_wide.2 (HT1.out _)).mono ?_; rintro e w' ⟨rfl,rfl⟩)
    refine hR.mono ?_
    rintro e W3 (⟨rfl,hJ3,hk3⟩ | ⟨rfl,hJx3⟩)
    ·gi_wp2
     go_roundw
     case rel=>exact ⟨k+1,by omega,by simp,by rw [HS.out]; exact hJ3,wJ Hkp.out hk3⟩
     case measure=>simp [intOf]; omega
    ·gi_wp2
     refine bodyPost_ret (results_none rfl _ _ _) rfl ?_
     exact ⟨⟨_,rfl⟩,.inr ⟨_,trivial,hJx3⟩⟩
   ·have hand:=HA.out k hlt
    rw [if_neg hl] at hand
    have HS:=hid (show kK r (k+1)=kK r k from EF fun h=>hl h.2)
    generalize 2 ^ r=P at *
    have hP:((P:Int) == 0)=false:=by simp; omega
    have hP2:¬ (P:Int)=0:=by omega
    clear hl
    gi_wp2
    refine ⟨trivial,?_⟩
    gi_wp2
    refine ⟨fun _ h=>(by cases h),?_⟩
    gi_wp2
    go_roundw
    case rel=>exact ⟨k+1,by omega,by simp,by rw [HS.out]; exact HJ.out,Hkp.out⟩
    case measure=>simp [intOf]; omega
  ·have hk16:k=16:=by omega
   subst hk16
   have t1:¬ (((16:Nat):Int) < 16):=by omega
   gi_wp2
   go_end0
   exact ⟨⟨_,rfl⟩,.inl HJ.out⟩
end
section
open Go.RowKit
section
variable {P : Program} {ops : Array Oper} {md : Region.Mode} {C : World → Prop} {n f : Nat}
theorem aAj {o:Oper} {a:Act} {v:Value} {w:World} {D:World->Prop} (hp:∀ g args w',(execOp a.eval o).run P w ≠ .ok (.enter g args) w') (h:o.quietAt P a C w v):o.quietAt P a D w v:=by
 unfold Oper.quietAt Oper.quietUpon at *
 cases hr:(execOp a.eval o).run P w with
 | ok x w' =>
  rw [hr] at h
  cases x with
  | value u=>exact h
  | skip=>exact h
  | enter g args=>exact absurd hr (hp g args w')
  | _=>exact h
 | halt x w'=>rw [hr] at h; exact h
def KG (P:Program) (ops:Array Oper) (n:Nat):Prop:=∀ j oj,j < n->ops[j]? = some oj->∀ (a:Act) (w:World) g args w',(execOp a.eval oj).run P w ≠ .ok (.enter g args) w'
def tJ (P:Program) (md:Region.Mode) (ops:Array Oper) (C:World->Prop) (n f:Nat) (L:Array Bool->Act->Prop):Nat->Array Bool->Act->Prop
 | 0,listed,a=>L listed a
 | d+1,listed,a=>(∃ i ∈ Region.ready md ops listed,i < n)/\∀ i ∈ Region.ready md ops listed,i=f\/(i < n/\qOp P ops C i (tJ P md ops C n f L d (listed.setIfInBounds i true)) a)
structure InvF (md:Region.Mode) (ops:Array Oper) (n f:Nat) (listed:Array Bool):Prop where
 size:listed.size=ops.size
 closed:∀ j oj,ops[j]? = some oj->listed.getD j false=true->∀ e ∈ oj.after,Region.binds md e=true->listed.getD e.on false=true
 tail:∀ t,n<=t->t < ops.size->listed.getD t true=false
theorem InvF.set {i:Nat} {listed:Array Bool} (inv:InvF md ops n f listed) (hi:i ∈ Region.ready md ops listed) (hin:i < n):InvF md ops n f (listed.setIfInBounds i true):=by
 obtain ⟨_,oi,hoi,hall⟩:=mem_ready.1 hi
 refine ⟨by simp [inv.size],fun j oj hj hl e he hb=>?_,fun t ht ht'=>by rw [getD_set_ne true (by omega)]; exact inv.tail t ht ht'⟩
 by_cases hij:i=j
 ·subst hij
  have:oj=oi:=Option.some.inj (hj.symm.trans hoi)
  subst this
  exact getD_set_true (hall e he hb)
 ·rw [getD_set_ne false hij] at hl
  exact getD_set_true (inv.closed j oj hj hl e he hb)
def uM (md:Region.Mode) (ops:Array Oper) (n f:Nat):Bool:=(List.range ops.size).all fun t=>decide (t<=n) || decide (t=f) || (List.range t).any fun j=>decide (n<=j) && decide (j ≠ f) && Region.waitsFor md ops t j
theorem sC {listed:Array Bool} (hfn:n < f) (hs:Region.sinkB md ops n=true) (hc:uM md ops n f=true) (inv:InvF md ops n f listed) (hn:n < ops.size) (i:Nat) (hi:i < n) (hun:listed.getD i true=false) :
  ∀ L:Array Bool,(∀ j,j ≠ f->L.getD j false=listed.getD j false)->∀ t,n<=t->t ≠ f->t ∉ Region.ready md ops L:=by
 have key:∀ (d i:Nat),n - i=d->i < n->listed.getD i true=false->∃ j,j < n/\listed.getD j true=false/\Region.waitsFor md ops n j=true:=by
  intro d
  induction d using Nat.strongRecOn with
  | _ d ih =>
   intro i hd hi hun
   have h1:=List.all_eq_true.1 hs i (List.mem_range.2 hi)
   obtain ⟨j,hj,hj2⟩:=List.any_eq_true.1 h1
   simp only [Bool.and_eq_true,decide_eq_true_eq] at hj2
   obtain ⟨oj,hoj,e,he,hb,hon⟩:=Region.waitsFor_spec hj2.2
   have hjle:j<=n:=by have:=List.mem_range.1 hj; omega
   by_cases hjn:j=n
   ·subst hjn; exact ⟨i,hi,hun,hj2.2⟩
   ·cases hl:listed.getD j false with
    | true =>
     have h2:=inv.closed j oj hoj hl e he hb
     rw [hon,getD_both hun] at h2
     cases h2
    | false =>
     have hjs:j < listed.size:=by rw [inv.size]; omega
     exact ih (n - j) (by omega) j rfl (by omega) (getD_in hjs hl)
 obtain ⟨j0,hj0,hun0,hw0⟩:=key _ i rfl hi hun
 intro L hL t ht htf hr
 obtain ⟨_,ot,hot,hall⟩:=mem_ready.1 hr
 have htlt:t < ops.size:=(Array.getElem?_eq_some_iff.1 hot).1
 by_cases htn:t=n
 ·subst htn
  obtain ⟨oj,hoj,e,he,hb,hon⟩:=Region.waitsFor_spec hw0
  have:oj=ot:=Option.some.inj (hoj.symm.trans hot)
  subst this
  have h2:=hall e he hb
  rw [hon,hL _ (by omega),getD_both hun0] at h2
  cases h2
 ·have h1:=List.all_eq_true.1 hc t (List.mem_range.2 htlt)
  simp only [Bool.or_eq_true,decide_eq_true_eq] at h1
  rcases h1 with (h1 | h1) | h1
  ·omega
  ·exact htf h1
  ·obtain ⟨j,hj,hj2⟩:=List.any_eq_true.1 h1
   simp only [Bool.and_eq_true,decide_eq_true_eq] at hj2
   obtain ⟨o',ho',e,he,hb,hon⟩:=Region.waitsFor_spec hj2.2
   have:o'=ot:=Option.some.inj (ho'.symm.trans hot)
   subst this
   have h2:=hall e he hb
   have hjt:=List.mem_range.1 hj
   rw [hon,hL _ hj2.1.2,getD_both (inv.tail j hj2.1.1 (by omega))] at h2
   cases h2
theorem OU {i:Nat} {oi:Oper} {v:Value} {L:Array Bool->Act->Prop} (hi:ops[i]? = some oi) (hsel:∀ (j:Nat) (o:Oper) cs b,ops[j]? = some o->o.op ≠ .select cs b)
  (hfn:n < f) (hs:Region.sinkB md ops n=true) (hc:uM md ops n f=true) (hn:n < ops.size) (hin:i < n)
  (hdone:∀ listed a,L listed a->∀ j ∈ Region.ready md ops listed,n<=j) (d:Nat) :
  ∀ (listed:Array Bool) (a:Act),InvF md ops n f listed ->
   (∀ j oj,ops[j]? = some oj->j ≠ i->listed.getD j true=false->(∀ e ∈ oj.after,Region.binds md e=true->e.on ≠ i)->oi.apart ops oj=true) ->
   i ∈ Region.ready md ops listed->YieldsIn P ops C oi v a ->
   tJ P md ops C n f L d (listed.setIfInBounds i true) (a.put oi.dst v)->tJ P md ops C n f L (d+1) listed a:=by
 induction d with
 | zero =>
  intro listed a inv _ hr hy H
  refine ⟨⟨i,hr,hin⟩,fun j hj=>?_⟩
  by_cases hjf:j=f
  ·exact .inl hjf
  have hjn:j < n:=by
   rcases Nat.lt_or_ge j n with h | h
   ·exact h
   ·exact absurd hj (sC hfn hs hc inv hn i hin (mem_ready.1 hr).1 listed (fun _ _=>rfl) j h hjf)
  refine .inr ⟨hjn,?_⟩
  by_cases hji:j=i
  ·subst hji; exact hy.qOp hi H
  ·have:=hdone _ _ H j (ready_mono hj hji)
   omega
 | succ d ih =>
  intro listed a inv hfree hr hy H
  refine ⟨⟨i,hr,hin⟩,fun j hj=>?_⟩
  have hun:=(mem_ready.1 hr).1
  by_cases hjf:j=f
  ·exact .inl hjf
  have hjn:j < n:=by
   rcases Nat.lt_or_ge j n with h | h
   ·exact h
   ·exact absurd hj (sC hfn hs hc inv hn i hin hun listed (fun _ _=>rfl) j h hjf)
  refine .inr ⟨hjn,?_⟩
  by_cases hji:j=i
  ·subst hji; exact hy.qOp hi H
  ·obtain ⟨hjun,oj,hoj,hall⟩:=mem_ready.1 hj
   have hnot:∀ e ∈ oj.after,Region.binds md e=true->e.on ≠ i:=fun e he hb heq=>by
    have h1:=hall e he hb
    rw [heq,getD_both hun] at h1
    cases h1
   have hq:qOp P ops C j (tJ P md ops C n f L d ((listed.setIfInBounds i true).setIfInBounds j true)) (a.put oi.dst v):=by
    rcases H.2 j (ready_mono hj hji) with h | h
    ·exact absurd h hjf
    ·exact h.2
   have h2:=qOp_put hoj (hfree j oj hoj hji hjun hnot) (fun cs b=>hsel i oi cs b hi) (fun cs b=>hsel j oj cs b hoj) hy hq
   have hfree':∀ k ok,ops[k]? = some ok->k ≠ i->(listed.setIfInBounds j true).getD k true=false ->
     (∀ e ∈ ok.after,Region.binds md e=true->e.on ≠ i)->oi.apart ops ok=true:=fun k ok hk hki hk2 hno=>by
    refine hfree k ok hk hki ?_ hno
    by_cases hjk:j=k
    ·subst hjk; exact hjun
    ·rw [getD_set_ne true hjk] at hk2; exact hk2
   refine qOp_mono (fun a' h3=>ih (listed.setIfInBounds j true) a' (inv.set hj hjn) hfree' (ready_mono hr (Ne.symm hji)) h3.1 ?_) h2
   rw [Array.setIfInBounds_comm _ _ hji]
   exact h3.2
theorem xZ {B:Array Bool->Bool} {Lq:Act->Prop} (hsel:Region.noSelect ops=true) (hfn:n < f) (hs:Region.sinkB md ops n=true) (hc:uM md ops n f=true) (hn:n < ops.size)
  (hdone:∀ listed,B listed=true->∀ j ∈ Region.ready md ops listed,n<=j) :
  ∀ (l:List Oper) (j0:Nat) (listed:Array Bool) (a:Act),(∀ j,j < l.length->l[j]? = ops[j0+j]?)->j0+l.length=n->InvF md ops n f listed ->
  GT md ops B l.length j0 listed=true->wpQuiet P ops C Lq l a ->
  tJ P md ops C n f (fun listed' a'=>(B listed'=true/\InvF md ops n f listed')/\Lq a') l.length listed a
 | [],j0,listed,a,_,_,inv,hB,h=>⟨⟨by simpa [GT] using hB,inv⟩,h⟩
 | o :: l,j0,listed,a,hl,hk,inv,hB,h=>by
  have h0:ops[j0]? = some o:=by simpa using (hl 0 (by simp)).symm
  simp only [List.length_cons,GT,Bool.and_eq_true] at hB
  have hkn:j0 < n:=by simp only [List.length_cons] at hk; omega
  have hr':j0 ∈ Region.ready md ops listed:=by simpa using hB.1.1
  have hst:qOp P ops C j0 (wpQuiet P ops C Lq l) a:=by unfold qOp; simp only [h0]; exact h
  obtain ⟨v,hy,hK⟩:=yieldsIn_of_qOp h0 hst
  exact OU h0 (Region.noSelect_spec hsel) hfn hs hc hn hkn (fun listed' a' hL=>hdone _ hL.1.1) l.length listed a inv (Region.free_spec h0 hB.1.2) hr' hy
   (xZ hsel hfn hs hc hn hdone l (j0+1) _ _ (fun j hj=>by have:=hl (j+1) (by simp; omega); simpa [Nat.add_assoc,Nat.add_comm 1 j] using this) (by simp only [List.length_cons] at hk; omega) (inv.set hr' hkn) hB.2 hK)
def SV (md:Region.Mode) (ops:Array Oper) (n f:Nat):Bool:=(List.range ops.size).all fun t=>!Region.waitsFor md ops t f || (decide (n<=t) && (List.range ops.size).any fun j=>decide (n<=j) && decide (j ≠ f) && Region.waitsFor md ops t j)
theorem wE {of_:Oper} {L:Array Bool->Act->Prop} {p:Value} {w2:World} (hf:ops[f]? = some of_) (hfn:n < f) (hsel:∀ (j:Nat) (o:Oper) cs b,ops[j]? = some o->o.op ≠ .select cs b)
  (hs:Region.sinkB md ops n=true) (hc:uM md ops n f=true) (ha:SV md ops n f=true) (hn:n < ops.size)
  (hap:∀ j oj,j < n->ops[j]? = some oj->of_.apart ops oj=true) (hne:KG P ops n) (hw2:C w2) :
  ∀ (d:Nat) (listed:Array Bool) (a:Act),InvF md ops n f listed->tJ P md ops C n f L d listed a ->
   g9 P md ops (fun w=>w=w2) n (fun l' a'=>∃ l a,L l a/\l'=l.setIfInBounds f true/\a'=a.put of_.dst p) d (listed.setIfInBounds f true) (a.put of_.dst p)
 | 0,listed,a,_,h=>⟨listed,a,h,rfl,rfl⟩
 | d+1,listed,a,inv,h=>by
  obtain ⟨i0,hi0,hi0n⟩:=h.1
  have hun0:=(mem_ready.1 hi0).1
  refine ⟨fun h0=>(by have:=ready_mono (i:=f) hi0 (by omega); rw [h0] at this; cases this),fun j hj=>?_⟩
  have hjf:j ≠ f:=by
   rintro rfl
   have h1:=(mem_ready.1 hj).1
   obtain ⟨_,oj,hoj,_⟩:=mem_ready.1 hj
   have hlt:j < listed.size:=by rw [inv.size]; exact (Array.getElem?_eq_some_iff.1 hoj).1
   simp [hlt] at h1
  have hjn:j < n:=by
   rcases Nat.lt_or_ge j n with h | h
   ·exact h
   ·exact absurd hj (sC hfn hs hc inv hn i0 hi0n hun0 _ (fun k hk=>getD_set_ne false (Ne.symm hk)) j h hjf)
  have hj1:j ∈ Region.ready md ops listed:=by
   obtain ⟨h1,oj,hoj,hall⟩:=mem_ready.1 hj
   refine mem_ready.2 ⟨by rw [getD_set_ne true (Ne.symm hjf)] at h1; exact h1,oj,hoj,fun e he hb=>?_⟩
   have h2:=hall e he hb
   by_cases hef:e.on=f
   ·have hw:Region.waitsFor md ops j f=true:=by
     unfold Region.waitsFor
     simp only [hoj]
     exact Array.any_eq_true'.2 ⟨e,he,by simp [hb,hef]⟩
    have h3:=List.all_eq_true.1 ha j (List.mem_range.2 (Array.getElem?_eq_some_iff.1 hoj).1)
    rw [hw] at h3
    simp only [Bool.not_true,Bool.false_or,Bool.and_eq_true,decide_eq_true_eq] at h3
    omega
   ·rwa [getD_set_ne false (Ne.symm hef)] at h2
  refine ⟨hjn,?_⟩
  have hq:qOp P ops C j (tJ P md ops C n f L d (listed.setIfInBounds j true)) a:=by
   rcases h.2 j hj1 with h | h
   ·exact absurd h hjf
   ·exact h.2
  obtain ⟨_,oj,hoj,_⟩:=mem_ready.1 hj1
  obtain ⟨h1,h2,h3⟩:=Oper.apart_spec (hap j oj hjn hoj)
  have hstep:∀ u,tJ P md ops C n f L d (listed.setIfInBounds j true) (a.put oj.dst u)->g9 P md ops (fun w=>w=w2) n (fun l' a'=>∃ l a,L l a/\l'=l.setIfInBounds f true/\a'=a.put of_.dst p) d ((listed.setIfInBounds f true).setIfInBounds j true) ((a.put of_.dst p).put oj.dst u):=fun u hu=>by
   have:=wE (p:=p) hf hfn hsel hs hc ha hn hap hne hw2 d _ _ (inv.set hj1 hjn) hu
   rw [Array.setIfInBounds_comm _ _ (Ne.symm hjf),<-Act.put_comm a u p (fun k hk he=>h2 k he hk)]
   exact this
  unfold qOp at hq ⊢
  simp only [hoj] at hq ⊢
  rw [wanted_put oj a of_.dst p h1]
  split
  ·rename_i hw
   simp only [hw,if_true] at hq
   obtain ⟨u,hu,hk⟩:=hq
   refine ⟨u,fun w hw'=>?_,hstep u hk⟩
   subst hw'
   have:=aAj (D:=fun w'=>w'=w) (fun g args w'=>hne j oj hjn hoj a w g args w') (hu w hw2)
   unfold Oper.quietAt at *
   rwa [execOp_put oj (fun cs b=>hsel j oj cs b hoj) a of_.dst p h1]
  ·rename_i hw
   simp only [hw] at hq
   exact hstep undef hq
theorem vP {g:Nat} {of_:Oper} {o:Obj} {L:Array Bool->Act->Prop} {Q':Exit->Act->World->Prop} (hf:ops[f]? = some of_) (hgd:of_.guard=none) (hz:∀ (a:Act) (W:World),(execOp a.eval of_).run P W=.ok (.value (.pointer (some ⟨W.heap.size,0,none⟩))) (W.alloc o))
  (hfn:n < f) (hsel:∀ (j:Nat) (o:Oper) cs b,ops[j]? = some o->o.op ≠ .select cs b)
  (hs:Region.sinkB md ops n=true) (hc:uM md ops n f=true) (ha:SV md ops n f=true) (hn:n < ops.size)
  (hap:∀ j oj,j < n->ops[j]? = some oj->of_.apart ops oj=true) (hne:KG P ops n) (hC:∀ w,C w->C (w.alloc o))
  (hL:∀ listed a w,C w->L listed a->wpAny P md ops Q' (g+1) listed a w)
  (hL2:∀ listed a w,C w->L listed a->wpAny P md ops Q' g (listed.setIfInBounds f true) (a.put of_.dst (.pointer (some ⟨w.heap.size,0,none⟩))) (w.alloc o)) :
  ∀ (d:Nat) (listed:Array Bool) (a:Act) (w:World),C w->InvF md ops n f listed->tJ P md ops C n f L d listed a->wpAny P md ops Q' (d+(g+1)) listed a w
 | 0,listed,a,w,hw,_,h=>by rw [Nat.zero_add]; exact hL _ _ _ hw h
 | d+1,listed,a,w,hw,inv,h=>by
  rw [show d+1+(g+1)=(d+(g+1))+1 by omega]
  obtain ⟨i0,hi0,_⟩:=h.1
  refine ⟨fun h0=>(by rw [h0] at hi0; cases hi0),fun i hi=>?_⟩
  rcases h.2 i hi with rfl | ⟨hin,hq⟩
  ·unfold wpOp
   simp only [hf]
   have hwt:Region.wanted of_ (yielded ops a.tmps)=true:=by simp [Region.wanted,hgd]
   rw [if_pos hwt]
   refine .inl ?_
   unfold Oper.wp
   rw [hz a w,Oper.upon_value]
   have H:=wE (p:=.pointer (some ⟨w.heap.size,0,none⟩)) (w2:=w.alloc o) hf hfn hsel hs hc ha hn hap hne (hC w hw) (d+1) listed a inv h
   have:=j1 (C:=fun W=>W=w.alloc o) (n:=n) (L:=fun l' a'=>∃ l a,L l a/\l'=l.setIfInBounds i true/\a'=a.put of_.dst (.pointer (some ⟨w.heap.size,0,none⟩))) (Q':=Q') (g:=g) (fun l' a' w' hw' hL'=>by
    obtain ⟨l,a0,hl,rfl,rfl⟩:=hL'
    subst hw'
    exact hL2 l a0 w hw hl) (d+1) _ _ (w.alloc o) rfl H
   rwa [show d+1+g=d+(g+1) by omega] at this
  ·exact wpOp_of_qOp hw (fun a' w' hw' h'=>vP hf hgd hz hfn hsel hs hc ha hn hap hne hC hL hL2 d _ a' w' hw' (inv.set hi hin) h') hq
def jG (o:Oper):Bool:=o.guard.isNone && match o.op with
 | .move _=>true
 | .extract _ _=>true
 | _=>false
theorem aB6 {o:Oper} {a:Act} (hp:jG o=true):(∃ v,execOp a.eval o=Sem.pure (.value v))\/∃ s,execOp a.eval o=Sem.halt (.stuck s):=by
 unfold jG at hp
 simp only [Bool.and_eq_true] at hp
 have hop:=hp.2
 cases ho:o.op with
 | move x=>exact .inl ⟨a.eval x,by unfold execOp; simp only [ho]; rfl⟩
 | extract x k =>
  have e:execOp a.eval o=(do pure (Next.value (<-Instr.extract (a.eval x) k)):Sem Next):=by unfold execOp; simp only [ho]
  rw [e]
  cases a.eval x with
  | tuple vs =>
   cases hv:vs[k]? with
   | some v=>exact .inl ⟨v,by unfold Instr.extract; simp only [hv]; rfl⟩
   | none=>exact .inr ⟨_,by unfold Instr.extract; simp only [hv]; rfl⟩
  | _=>exact .inr ⟨_,rfl⟩
 | _=>rw [ho] at hop; cases hop
theorem r9 {o:Oper} {a:Act} {w:World} {rest:List Oper} {Q':Exit->Act->World->Prop} (hp:jG o=true) (h:wpList P ops Q' (o :: rest) a w):∃ v,Yields P ops o v a/\wpList P ops Q' rest (a.put o.dst v) w:=by
 have hw:Region.wanted o (yielded ops a.tmps)=true:=by
  unfold jG at hp
  simp only [Bool.and_eq_true,Option.isNone_iff_eq_none] at hp
  simp [Region.wanted,hp.1]
 unfold wpList at h
 rw [if_pos hw] at h
 rcases aB6 (a:=a) hp with ⟨v,e⟩ | ⟨s,e⟩
 ·refine ⟨v,.inl ⟨hw,fun w=>by rw [e]; rfl⟩,?_⟩
  rcases h with h | ⟨h,_⟩
  ·unfold Oper.wp at h
   rw [e] at h
   exact h
  ·exfalso
   have:=h.1
   rw [e] at this
   simp [Sem.runT] at this
 ·exfalso
  rcases h with h | ⟨h,_⟩
  ·unfold Oper.wp at h
   rw [e] at h
   exact h
  ·have:=h.1
   rw [e] at this
   simp [Sem.runT] at this
def RD (md:Region.Mode) (ops:Array Oper) (n:Nat) (is:List Nat) (L:Array Bool):Bool :=
 ((Region.ready md ops L).contains (n+1) && Region.free md ops L (n+1)) &&
 ((Region.ready md ops (L.setIfInBounds (n+1) true)).contains (n+2) && Region.free md ops (L.setIfInBounds (n+1) true) (n+2)) &&
 ((Region.ready md ops ((L.setIfInBounds (n+1) true).setIfInBounds (n+2) true)).contains (n+3) && Region.free md ops ((L.setIfInBounds (n+1) true).setIfInBounds (n+2) true) (n+3)) &&
 aAl md ops is (((L.setIfInBounds (n+1) true).setIfInBounds (n+2) true).setIfInBounds (n+3) true)
theorem CQ {Q':Exit->Act->World->Prop} {is:List Nat} {L:Array Bool} {a:Act} {w:World} {o1 o2 o3:Oper} (hsel:Region.noSelect ops=true) (h1:ops[n+1]? = some o1) (h2:ops[n+2]? = some o2) (h3:ops[n+3]? = some o3)
  (p1:jG o1=true) (p2:jG o2=true) (p3:jG o3=true) (hQ:∀ c a' w' d v,Q' (.panic c) (a'.put d v) w'->Q' (.panic c) a' w') (hB:RD md ops n is L=true) (his:∀ i ∈ is,i < ops.size)
  (h:wpList P ops Q' (o1 :: o2 :: o3 :: uZ ops is) a w):wpAny P md ops Q' (is.length+3) L a w:=by
 simp only [RD,Bool.and_eq_true] at hB
 obtain ⟨⟨⟨b1,b2⟩,b3⟩,b4⟩:=hB
 obtain ⟨v1,y1,h⟩:=r9 p1 h
 refine wpAny_take (fuel:=is.length+2) h1 hsel b1.2 b1.1 (fun c a' w'=>hQ c a' w' _ _) y1 ?_
 obtain ⟨v2,y2,h⟩:=r9 p2 h
 refine wpAny_take (fuel:=is.length+1) h2 hsel b2.2 b2.1 (fun c a' w'=>hQ c a' w' _ _) y2 ?_
 obtain ⟨v3,y3,h⟩:=r9 p3 h
 refine wpAny_take (fuel:=is.length) h3 hsel b3.2 b3.1 (fun c a' w'=>hQ c a' w' _ _) y3 ?_
 exact oJ is _ _ _ his b4 h
theorem qW {Q':Exit->Act->World->Prop} {i:Nat} {o:Oper} {rest:List Oper} {a:Act} {w:World} (hi:ops[i]? = some o) (h:wpList P ops Q' (o :: rest) a w):wpOp P ops Q' i (wpList P ops Q' rest) a w:=by
 unfold wpOp
 simp only [hi]
 exact h
def UE (md:Region.Mode) (ops:Array Oper) (n:Nat) (listed:Array Bool):Bool :=
 (Region.ready md ops listed).all (fun j=>decide (j=n) || decide (j=n+4)) && !(Region.ready md ops listed).isEmpty &&
 decide (Region.ready md ops (listed.setIfInBounds (n+4) true)=[n]) &&
 RD md ops n [n+5,n+6] ((listed.setIfInBounds (n+4) true).setIfInBounds n true) &&
 RD md ops n [n+4,n+5,n+6] (listed.setIfInBounds n true)
def K4 (o:Oper):Bool:=match o.op with
 | .move _=>true
 | .load _ _=>true
 | .indexAddr _ _ _=>true
 | .fieldAddr _ _ _=>true
 | .nilCheck _=>true
 | .binOp _ _ _ _ _=>true
 | _=>false
def UL (md:Region.Mode) (ops:Array Oper) (n:Nat):Bool :=
 Region.noSelect ops && decide (ops.size=n+7) && Region.sinkB md ops n && uM md ops n (n+4) && SV md ops n (n+4) &&
 (List.range n).all (fun j=>match ops[n+4]?,ops[j]? with
  | some x,some y=>x.apart ops y && K4 y
  | _,_=>false) &&
 GT md ops (UE md ops n) n 0 (Array.replicate (n+7) false)
theorem kO {s:Sem Value} {w w':World} {g:FuncId} {args:Array Value}:(do pure (Next.value (<-s)):Sem Next).run P w ≠ .ok (.enter g args) w':=by
 intro h
 rw [Sem.run_bind] at h
 cases hs:s.run P w with
 | ok v w2=>rw [hs] at h; simp at h
 | halt x w2=>rw [hs] at h; cases h
theorem rN {α:Type} {s:Sem α} {k:α->Sem Next} {w w':World} {g:FuncId} {args:Array Value} (hk:∀ b w2,(k b).run P w2 ≠ .ok (.enter g args) w'):(s >>= k).run P w ≠ .ok (.enter g args) w':=by
 intro h
 rw [Sem.run_bind] at h
 cases hs:s.run P w with
 | ok v w2=>rw [hs] at h; exact hk _ _ h
 | halt x w2=>rw [hs] at h; cases h
theorem TZ {o:Oper} (h:K4 o=true) (a:Act) (w:World) (g:FuncId) (args:Array Value) (w':World):(execOp a.eval o).run P w ≠ .ok (.enter g args) w':=by
 unfold K4 at h
 cases ho:o.op with
 | move x=>unfold execOp; simp only [ho]; intro h; cases h
 | load t x=>unfold execOp; simp only [ho]; exact kO
 | indexAddr t x y=>unfold execOp; simp only [ho]; exact kO
 | fieldAddr t x y=>unfold execOp; simp only [ho]; exact kO
 | binOp op t x y r=>unfold execOp; simp only [ho]; exact kO
 | nilCheck x =>
  unfold execOp; simp only [ho]
  intro h
  split at h
  ·cases h
  ·cases h
  ·cases h
  ·split at h
   ·cases h
   ·exact rN (fun p w2=>rN (fun b w3=>by
     intro h
     split at h <;> cases h)) h
   ·cases h
  ·cases h
 | _=>rw [ho] at h; cases h
end
theorem GW.alloc_in {w W:World} (h:∃ x:GW w,W=x.1) (o:Obj):∃ x:GW w,W.alloc o=x.1:=by
 obtain ⟨x,rfl⟩:=h
 exact ⟨⟨x.1.alloc o,aC x.2 (aL x.1 o)⟩,rfl⟩
section
variable {P : Program}
theorem YF {Q':Exit->Act->World->Prop} {a:Act} {w:World} {ol:List Oper} (n:Nat) {t0 t1 t2 t3 of_ t5 t6:Oper} {o:Obj} (hd:ol.drop n=[t0,t1,t2,t3,of_,t5,t6]) (hB:UL .any ol.toArray n=true)
  (p1:jG t1=true) (p2:jG t2=true) (p3:jG t3=true) (hgd:of_.guard=none) (hz:∀ (a:Act) (W:World),(execOp a.eval of_).run P W=.ok (.value (.pointer (some ⟨W.heap.size,0,none⟩))) (W.alloc o))
  (hQ:∀ c a' w' d v,Q' (.panic c) (a'.put d v) w'->Q' (.panic c) a' w')
  (h:wpQuiet P ol.toArray (fun w'=>∃ x:GW w,w'=x.1) (fun a'=>∀ w',(∃ x:GW w,w'=x.1) ->
   wpList P ol.toArray Q' [t0,t1,t2,t3,t5,t6] (a'.put of_.dst (.pointer (some ⟨w'.heap.size,0,none⟩))) (w'.alloc o)/\wpList P ol.toArray Q' [t0,t1,t2,t3,of_,t5,t6] a' w') (ol.take n) a) :
  wpAny P .any ol.toArray Q' ol.toArray.size (Array.replicate ol.toArray.size false) a { w with drawn:=w.drawn+1 }:=by
 simp only [UL,Bool.and_eq_true,decide_eq_true_eq] at hB
 obtain ⟨⟨⟨⟨⟨⟨hsel,hsz⟩,hs⟩,hc⟩,ha⟩,hap⟩,hlex⟩:=hB
 have hol:ol.length=n+7:=by simpa using hsz
 have hidx:∀ i o',([t0,t1,t2,t3,of_,t5,t6]:List Oper)[i]? = some o'->ol.toArray[n+i]? = some o':=fun i o' hi=>by
  rw [<-hd,List.getElem?_drop] at hi
  simpa using hi
 have i0:=hidx 0 t0 rfl
 have i1:=hidx 1 t1 rfl
 have i2:=hidx 2 t2 rfl
 have i3:=hidx 3 t3 rfl
 have i4:=hidx 4 of_ rfl
 have i5:=hidx 5 t5 rfl
 have i6:=hidx 6 t6 rfl
 have hapart:∀ j oj,j < n->ol.toArray[j]? = some oj->of_.apart ol.toArray oj=true/\K4 oj=true:=fun j oj hj hoj=>by
  have:=List.all_eq_true.1 hap j (List.mem_range.2 hj)
  simp only [i4,hoj,Bool.and_eq_true] at this
  exact this
 have hne:KG P ol.toArray n:=fun j oj hj hoj a w g args w'=>TZ (hapart j oj hj hoj).2 a w g args w'
 have htl:(ol.take n).length=n:=by rw [List.length_take]; omega
 have inv0:InvF .any ol.toArray n (n+4) (Array.replicate (n+7) false) :=
  ⟨by simp [hol],fun j oj _ hl=>(by rw [getD_replicate_false] at hl; cases hl),fun t _ ht=>getD_in (by simpa [hol] using ht) (getD_replicate_false _ _)⟩
 have H:=xZ (C:=fun w'=>∃ x:GW w,w'=x.1) (B:=UE .any ol.toArray n) hsel (by omega:n < n+4) hs hc (by rw [hsz]; omega) (fun listed hb j hj=>by
  simp only [UE,Bool.and_eq_true] at hb
  have:=List.all_eq_true.1 hb.1.1.1.1 j hj
  simp only [Bool.or_eq_true,decide_eq_true_eq] at this
  omega) (ol.take n) 0 (Array.replicate (n+7) false) a (fun j hj=>by
   rw [htl] at hj
   simp [hj]) (by omega) inv0 (by rw [htl]; exact hlex) h
 rw [htl] at H
 have oB:uZ ol.toArray [n+4,n+5,n+6]=[of_,t5,t6]:=by simp only [uZ,List.filterMap_cons,i4,i5,i6,List.filterMap_nil]
 have oA:uZ ol.toArray [n+5,n+6]=[t5,t6]:=by simp only [uZ,List.filterMap_cons,i5,i6,List.filterMap_nil]
 have stepA:∀ (listed:Array Bool) (a:Act) (w':World),UE .any ol.toArray n listed=true->wpList P ol.toArray Q' [t0,t1,t2,t3,t5,t6] (a.put of_.dst (.pointer (some ⟨w'.heap.size,0,none⟩))) (w'.alloc o) ->
   wpAny P .any ol.toArray Q' 6 (listed.setIfInBounds (n+4) true) (a.put of_.dst (.pointer (some ⟨w'.heap.size,0,none⟩))) (w'.alloc o):=by
  intro listed a w' hb hl
  simp only [UE,Bool.and_eq_true,decide_eq_true_eq] at hb
  refine ⟨fun h0=>(by rw [hb.1.1.2] at h0; cases h0),fun i hi=>?_⟩
  rw [hb.1.1.2] at hi
  obtain rfl:i=n:=by simpa using hi
  exact wpOp_mono (fun a' w'' h'=>CQ (is:=[i+5,i+6]) hsel i1 i2 i3 p1 p2 p3 hQ hb.1.2 (by simp [hol]) (by rw [oA]; exact h')) (qW i0 hl)
 have:=vP (C:=fun w'=>∃ x:GW w,w'=x.1) (L:=fun listed' a'=>(UE .any ol.toArray n listed'=true/\InvF .any ol.toArray n (n+4) listed')/\∀ w',(∃ x:GW w,w'=x.1) ->
   wpList P ol.toArray Q' [t0,t1,t2,t3,t5,t6] (a'.put of_.dst (.pointer (some ⟨w'.heap.size,0,none⟩))) (w'.alloc o)/\wpList P ol.toArray Q' [t0,t1,t2,t3,of_,t5,t6] a' w') (g:=6) (o:=o) (Q':=Q') i4 hgd hz (by omega:n < n+4) (Region.noSelect_spec hsel) hs hc ha (by rw [hsz]; omega) (fun j oj hj hoj=>(hapart j oj hj hoj).1) hne (fun w' hw'=>GW.alloc_in hw' o)
  (fun listed a' w' hw' hL=>by
   obtain ⟨⟨hb,_⟩,hq⟩:=hL
   have hb2:=hb
   simp only [UE,Bool.and_eq_true,decide_eq_true_eq] at hb
   refine ⟨fun h0=>(by
    have:=hb.1.1.1.2
    rw [h0] at this
    cases this),fun i hi=>?_⟩
   have hi2:=List.all_eq_true.1 hb.1.1.1.1 i hi
   simp only [Bool.or_eq_true,decide_eq_true_eq] at hi2
   rcases hi2 with rfl | rfl
   ·exact wpOp_mono (fun a'' w'' h'=>CQ (is:=[i+4,i+5,i+6]) hsel i1 i2 i3 p1 p2 p3 hQ hb.2 (by simp [hol]) (by rw [oB]; exact h')) (qW i0 (hq w' hw').2)
   ·unfold wpOp
    simp only [i4]
    rw [if_pos (by simp [Region.wanted,hgd])]
    refine .inl ?_
    unfold Oper.wp
    rw [hz a' w',Oper.upon_value]
    exact stepA listed a' w' hb2 (hq w' hw').1)
  (fun listed a' w' hw' hL=>stepA listed a' w' hL.1.1 (hL.2 w' hw').1) n (Array.replicate (n+7) false) a { w with drawn:=w.drawn+1 } ⟨⟨_,(Below.refl w.heap.size w).drew⟩,rfl⟩ inv0 H
 rw [hsz]
 exact this
theorem rG {id:Nat} {Q:Exit->Act->World->Prop} {a:Act} {w:World} {ol:List Oper} (n:Nat) {t0 t1 t2 t3 of_ t5 t6:Oper} {o:Obj} (hm:P.follows .mixedOrders=true) (hd:ol.drop n=[t0,t1,t2,t3,of_,t5,t6]) (hB:UL .any ol.toArray n=true)
  (p1:jG t1=true) (p2:jG t2=true) (p3:jG t3=true) (hgd:of_.guard=none) (hz:∀ (a:Act) (W:World),(execOp a.eval of_).run P W=.ok (.value (.pointer (some ⟨W.heap.size,0,none⟩))) (W.alloc o))
  (hQ:∀ c a' w' d v,Q (.panic c) (a'.put d v) w'->Q (.panic c) a' w')
  (h:wpQuiet P ol.toArray (fun w'=>∃ x:GW w,w'=x.1) (fun a'=>∀ w',(∃ x:GW w,w'=x.1) ->
   wpList P ol.toArray Q [t0,t1,t2,t3,t5,t6] (a'.put of_.dst (.pointer (some ⟨w'.heap.size,0,none⟩))) (w'.alloc o)/\wpList P ol.toArray Q [t0,t1,t2,t3,of_,t5,t6] a' w') (ol.take n) a):(Code.region id ol.toArray true).wp P Q a w :=
 wp_region_any hm (YF n hd hB p1 p2 p3 hgd hz hQ h)
end
end
section
open Go.RowKit
section
variable {P : Program} {ops : Array Oper} {md : Region.Mode} {C : World → Prop} {k n f : Nat}
end
end
section
open Go.RowKit
section
variable {P : Program} {ops : Array Oper} {md : Region.Mode} {C : World → Prop}
end
end
section
open Go.RowKit
section
variable {P : Program} {ops : Array Oper} {md : Region.Mode} {C : World → Prop}
theorem wD {n f:Nat} {L:Array Bool->Act->Prop} (hf:ops.size<=f):∀ (d:Nat) (listed:Array Bool) (a:Act),tJ P md ops C n f L d listed a->g9 P md ops C n L d listed a
 | 0,_,_,h=>h
 | d+1,listed,a,h=>by
  obtain ⟨i0,hi0,_⟩:=h.1
  refine ⟨fun h0=>(by rw [h0] at hi0; cases hi0),fun i hi=>?_⟩
  rcases h.2 i hi with rfl | ⟨h1,h2⟩
  ·obtain ⟨_,oi,hoi,_⟩:=mem_ready.1 hi
   have:=(Array.getElem?_eq_some_iff.1 hoi).1
   omega
  ·exact ⟨h1,qOp_mono (fun a' h3=>wD hf d _ a' h3) h2⟩
def aCP (md:Region.Mode) (ops:Array Oper) (n:Nat) (listed:Array Bool):Bool :=
 decide (Region.ready md ops listed=[n]) && RD md ops n [n+4,n+5] (listed.setIfInBounds n true)
def aDr (md:Region.Mode) (ops:Array Oper) (n:Nat):Bool :=
 Region.noSelect ops && decide (ops.size=n+6) && Region.sinkB md ops n && uM md ops n (n+6) && GT md ops (aCP md ops n) n 0 (Array.replicate (n+6) false)
end
section
variable {P : Program}
theorem FV {id:Nat} {Q':Exit->Act->World->Prop} {a:Act} {w:World} {ol:List Oper} (n:Nat) {t0 t1 t2 t3 t5 t6:Oper} (hm:P.follows .mixedOrders=true) (hd:ol.drop n=[t0,t1,t2,t3,t5,t6]) (hB:aDr .any ol.toArray n=true)
  (p1:jG t1=true) (p2:jG t2=true) (p3:jG t3=true)
  (hQ:∀ c a' w' d v,Q' (.panic c) (a'.put d v) w'->Q' (.panic c) a' w')
  (h:wpQuiet P ol.toArray (fun w'=>∃ x:GW w,w'=x.1) (fun a'=>∀ w',(∃ x:GW w,w'=x.1)->wpList P ol.toArray Q' [t0,t1,t2,t3,t5,t6] a' w') (ol.take n) a) :
  (Code.region id ol.toArray true).wp P Q' a w:=by
 refine wp_region_any hm ?_
 simp only [aDr,Bool.and_eq_true,decide_eq_true_eq] at hB
 obtain ⟨⟨⟨⟨hsel,hsz⟩,hs⟩,hc⟩,hlex⟩:=hB
 have hol:ol.length=n+6:=by simpa using hsz
 have hidx:∀ i o',([t0,t1,t2,t3,t5,t6]:List Oper)[i]? = some o'->ol.toArray[n+i]? = some o':=fun i o' hi=>by
  rw [<-hd,List.getElem?_drop] at hi
  simpa using hi
 have i0:=hidx 0 t0 rfl
 have i1:=hidx 1 t1 rfl
 have i2:=hidx 2 t2 rfl
 have i3:=hidx 3 t3 rfl
 have i4:=hidx 4 t5 rfl
 have i5:=hidx 5 t6 rfl
 have htl:(ol.take n).length=n:=by rw [List.length_take]; omega
 have inv0:InvF .any ol.toArray n (n+6) (Array.replicate (n+6) false) :=
  ⟨by simp [hol],fun j oj _ hl=>(by rw [getD_replicate_false] at hl; cases hl),fun t _ ht=>getD_in (by simpa [hol] using ht) (getD_replicate_false _ _)⟩
 have H:=xZ (C:=fun w'=>∃ x:GW w,w'=x.1) (B:=aCP .any ol.toArray n) hsel (by omega:n < n+6) hs hc (by rw [hsz]; omega) (fun listed hb j hj=>by
  simp only [aCP,Bool.and_eq_true,decide_eq_true_eq] at hb
  rw [hb.1] at hj
  have:j=n:=by simpa using hj
  omega) (ol.take n) 0 (Array.replicate (n+6) false) a (fun j hj=>by
   rw [htl] at hj
   simp [hj]) (by omega) inv0 (by rw [htl]; exact hlex) h
 rw [htl] at H
 have H2:=wD (by rw [hsz]; exact Nat.le_refl _) n _ _ H
 have oA:uZ ol.toArray [n+4,n+5]=[t5,t6]:=by simp only [uZ,List.filterMap_cons,i4,i5,List.filterMap_nil]
 have:=j1 (Q':=Q') (g:=6) (fun listed a' w' hw' hL=>by
  obtain ⟨⟨hb,_⟩,hq⟩:=hL
  simp only [aCP,Bool.and_eq_true,decide_eq_true_eq] at hb
  refine ⟨fun h0=>(by rw [hb.1] at h0; cases h0),fun i hi=>?_⟩
  rw [hb.1] at hi
  obtain rfl:i=n:=by simpa using hi
  exact wpOp_mono (fun a'' w'' h'=>CQ (is:=[i+4,i+5]) hsel i1 i2 i3 p1 p2 p3 hQ hb.2 (by simp [hol]) (by rw [oA]; exact h')) (qW i0 (hq w' hw'))) n _ a { w with drawn:=w.drawn+1 } ⟨⟨_,(Below.refl w.heap.size w).drew⟩,rfl⟩ H2
 rw [hsz]
 exact this
end
end
end Go.Proofs.YtnbbfblaipjcmaaGreatDoor
