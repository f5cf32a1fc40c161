/- NetC, NetD, NetE. Conditions: as each theorem states. -/
import Derived.Test.YtnbbfblaipjcmaaGreatDoorPu24
import Derived.Test.YtnbbfblaipjcmaaGreatDoorPu15
namespace Go.Proofs.YtnbbfblaipjcmaaGreatDoor
section
open Go.RowKit Go.Shelf
attribute [local go_sem] Oper.semAt_some
theorem pairs_any (tv:Array Value) (r:Nat) (w:World):Calls Tryz.prog 188 #[.agg tv,.int .i64 r] w fun e w' =>
  ∃ Br Bn,e=.returned (.func (.func 212) #[] #[.pointer (some ⟨Br,0,none⟩),.pointer (some ⟨Bn,0,none⟩)])/\w.heap.size<=Br/\w.heap.size<=Bn /\
   w'.heap[Br]? = some (.cells #[.int .i64 r] 3 (0,0))/\w'.heap[Bn]? = some (.cells tv 102 (0,0))/\Below w.heap.size w w':=by
 have H:=Lib.hid (heap2 w (.cells tv 102) (.cells #[.int .i64 r] 3))
 go_enter Tryz.func188,Tryz.ntmps188
 go_wp2
 go_ret
 exact ⟨w.heap.size+1,w.heap.size,rfl,by omega,Nat.le_refl _,H.out.2.1,H.out.1,H.out.2.2.2⟩
theorem pairs_stops (r Br Bn:Nat) (tv:Array Value) (w0:World) (hr:r < 4) (ht:TurnsV tv) (hBr:w0.heap[Br]? = some (.cells #[.int .i64 r] 3 (0,0))) (hBn:w0.heap[Bn]? = some (.cells tv 102 (0,0))) :
  SeqStopsK Fence.wide 3 Tryz.prog 212 #[.pointer (some ⟨Br,0,none⟩),.pointer (some ⟨Bn,0,none⟩)] (encP r) (Kp2 Br Bn) (fun xs=>xs=leadL r 16) (fun _=>True) 8 w0:=fun l J Jx W hW _ _ hY h0 =>
 pairs1_in l r Br Bn tv hr ht J Jx hY W (hkeep hBr hW) (hkeep hBn hW) h0
def stepN (r:Nat) (b:List Int) (x:PI r):List Int:=(b.set x.1 (turnA (bgt b x.1) (bgt b (x.1+2 ^ r)) (turnOf x.1 r))).set (x.1+2 ^ r) (turnB (bgt b x.1) (bgt b (x.1+2 ^ r)) (turnOf x.1 r))
def stN (r:Nat) (b:List Int):List Int:=(leadL r 16).foldl (stepN r) b
theorem stepN_len (r:Nat) (b:List Int) (x:PI r):(stepN r b x).length=b.length:=by simp [stepN]
theorem foldN_len (r:Nat):∀ (l:List (PI r)) (b:List Int),(l.foldl (stepN r) b).length=b.length
 | [],_=>rfl
 | x :: l,b=>by rw [List.foldl_cons,foldN_len r l,stepN_len]
theorem lead_mate {r:Nat} (hr:r < 4) (x:PI r):x.1+2 ^ r < 16:=(or_pairF ⟨r,hr⟩ ⟨x.1,x.2.1⟩ x.2.2).2
theorem stepN_lim {M:Int} {r:Nat} {b:List Int} (hr:r < 4) (hb:b.length=16) (h:Within M b) (x:PI r):Within (2*M+4) (stepN r b x):=by
 have h1:=h x.1 x.2.1
 have hm:=lead_mate hr x
 have h2:=h (x.1+2 ^ r) hm
 have hT:=turn_bd ((3*x.1+5*r) % 8) (Nat.mod_lt _ (by decide)) _ _ M h1.1 h1.2 h2.1 h2.2
 intro k hk
 have hk0:=h k hk
 unfold stepN turnOf
 rw [bgt_set _ _ _ _ (by rw [List.length_set,hb]; exact hm),bgt_set _ _ _ _ (by rw [hb]; exact x.2.1)]
 split
 ·omega
 ·split <;> omega
def limN (M:Int):Nat->Int
 | 0=>M
 | n+1=>2*limN M n+4
theorem limN_succ (M:Int):∀ n,limN (2*M+4) n=limN M (n+1)
 | 0=>rfl
 | n+1=>by rw [limN,limN_succ M n]; rfl
theorem foldN_lim {r:Nat} (hr:r < 4):∀ (l:List (PI r)) (b:List Int) (M:Int),b.length=16->Within M b->Within (limN M l.length) (l.foldl (stepN r) b)
 | [],_,_,_,h=>h
 | x :: l,b,M,hb,h=>by
  rw [List.foldl_cons,List.length_cons,<-limN_succ]
  exact foldN_lim hr l _ _ (by rw [stepN_len,hb]) (stepN_lim hr hb h x)
theorem limN_le {M:Int} (hM:0<=M/\M<=8000000000) {n:Nat} (hn:n < 8):limN M n<=1099511627776:=by
 have hn8:n=0\/n=1\/n=2\/n=3\/n=4\/n=5\/n=6\/n=7:=by omega
 rcases hn8 with rfl | rfl | rfl | rfl | rfl | rfl | rfl | rfl <;> simp only [limN] <;> omega
theorem Within.turnable {M:Int} {b:List Int} (h:Within M b) (hM:M<=1099511627776) {k:Nat} (hk:k < 16):Turnable (bgt b k):=by
 have:=h k hk
 unfold Turnable
 omega
theorem ownFrom_only {β:Type} {W2:World} {g:Nat} {t:TypeId} (f:β->List Value) (hg:g < W2.heap.size):OwnFrom W2.heap.size (fun s W=>W2.grownBy W (some g)/\Blk W g t (f s)):=by
 intro s X Y row ⟨h1,h2⟩ hgr hr
 have hne:∀ k,k < W2.heap.size->some k ≠ row:=fun k hk e=>by
  have:=(hr k e.symm).1
  omega
 refine ⟨⟨hgr.os.trans h1.os,hgr.tape.trans h1.tape,hgr.output.trans h1.output,Nat.le_trans h1.size hgr.size,fun k hk hkg=>?_⟩,?_⟩
 ·exact (hgr.block k (Nat.lt_of_lt_of_le hk h1.size) (hne k hk)).trans (h1.block k hk hkg)
 ·exact h2.grown hgr (hne g hg)
theorem ownFrom_box {β:Type} {B N:Nat} {t:TypeId} {cs:Array Value} (A:Nat->Prop):OwnFrom B (fun (_:β) X=>∃ Bx,N<=Bx/\X.heap[Bx]? = some (.cells cs t (0,0))/\A Bx):=by
 intro s X Y row ⟨Bx,h1,h2,h3⟩ hg hr
 refine ⟨Bx,h1,(hg.block Bx (hlt h2) (fun e=>?_)).trans h2,h3⟩
 obtain ⟨_,o,ho,hc⟩:=hr Bx e.symm
 rw [h2] at ho
 injection ho with ho
 subst ho
 cases hc
theorem set_step {r:Nat} {b:List Int} (x:PI r) {y z:Int} {t:TurnV} {g:Nat} {ty:TypeId} {W:World} (hy:bgt b x.1=y) (hz:bgt b (x.1+2 ^ r)=z) (ht:turnOf x.1 r=t) (h:Blk W g ty (b.map (.int .i64))) :
  Blk ((W.setCell ⟨g,x.1,none⟩ (.int .i64 (turnA y z t))).setCell ⟨g,x.1+2 ^ r,none⟩ (.int .i64 (turnB y z t))) g ty ((stepN r b x).map (.int .i64)):=by
 subst hy hz ht
 unfold stepN
 rw [List.map_set,List.map_set]
 exact (h.set_ _ _).set_ _ _
theorem mate_ne (r:Nat) (x:PI r):x.1 ≠ x.1+2 ^ r:=by have:=Nat.two_pow_pos r; omega
theorem stepN_bgt {r:Nat} {b:List Int} (hr:r < 4) (hb:b.length=16) (x:PI r) (j:Nat):bgt (stepN r b x) j =
  if x.1+2 ^ r=j then turnB (bgt b x.1) (bgt b (x.1+2 ^ r)) (turnOf x.1 r) else if x.1=j then turnA (bgt b x.1) (bgt b (x.1+2 ^ r)) (turnOf x.1 r) else bgt b j:=by
 have hm:=lead_mate hr x
 unfold stepN
 rw [bgt_set _ _ _ _ (by rw [List.length_set,hb]; exact hm),bgt_set _ _ _ _ (by rw [hb]; exact x.2.1)]
theorem netTo_none {b:List Int} (r:Nat) (hb:b.length=16):netTo b r 0=b :=
 bgt_ext (netTo_len _ _ _) hb fun j hj=>by rw [netTo_bgt _ _ _ hj,if_neg (by omega)]
theorem leadF:∀ (r:Fin 4) (j:Fin 16),lead r.1 j.1 / 2 ^ r.1 % 2=0/\(j.1 / 2 ^ r.1 % 2=0->lead r.1 j.1=j.1)/\(¬ j.1 / 2 ^ r.1 % 2=0->lead r.1 j.1+2 ^ r.1=j.1/\j.1 - 2 ^ r.1=lead r.1 j.1):=by decide +kernel
theorem fold_net {r:Nat} {b:List Int} (hr:r < 4) (hb:b.length=16):∀ k,k<=16->(leadL r k).foldl (stepN r) b=netTo b r k
 | 0,_=>(netTo_none r hb).symm
 | k+1,hk=>by
  have ih:=fold_net hr hb k (by omega)
  by_cases h:k < 16/\k / 2 ^ r % 2=0
  ·rw [leadL_yes h,List.foldl_append,ih]
   refine bgt_ext (n:=16) (by rw [List.foldl_cons,List.foldl_nil,stepN_len,netTo_len]) (netTo_len _ _ _) fun j hj=>?_
   have hm:=lead_mate hr ⟨k,h⟩
   obtain ⟨e1,e2,e3⟩:=leadF ⟨r,hr⟩ ⟨j,hj⟩
   obtain ⟨f1,f2,f3⟩:=leadF ⟨r,hr⟩ ⟨k,h.1⟩
   have hp:=Nat.two_pow_pos r
   simp only at e1 e2 e3 f2 hm
   have fk:=f2 h.2
   have hmk:=or_pairF ⟨r,hr⟩ ⟨k,h.1⟩ h.2
   rw [List.foldl_cons,List.foldl_nil,stepN_bgt hr (netTo_len _ _ _)]
   show (if k+2 ^ r=j then _ else if k=j then _ else _)=_
   have b1:bgt (netTo b r k) k=bgt b k:=by rw [netTo_bgt _ _ _ h.1,if_neg (by omega)]
   have b2:bgt (netTo b r k) (k+2 ^ r)=bgt b (k+2 ^ r):=by
    rw [netTo_bgt _ _ _ hm,if_neg]
    have:=(mate r hr k h.1).2.1 h.2
    omega
   show (if k+2 ^ r=j then turnB (bgt (netTo b r k) k) (bgt (netTo b r k) (k+2 ^ r)) (turnOf k r) else if k=j then turnA (bgt (netTo b r k) k) (bgt (netTo b r k) (k+2 ^ r)) (turnOf k r) else bgt (netTo b r k) j)=_
   rw [b1,b2]
   by_cases h1:k+2 ^ r=j
   ·subst h1
    have hmt:=(mate r hr k h.1).2.1 h.2
    rw [if_pos rfl,netTo_bgt _ _ _ hj,if_pos (by omega),if_neg (by omega),hmt.2.2.2.2]
   ·rw [if_neg h1]
    by_cases h2:k=j
    ·subst h2
     rw [if_pos rfl,netTo_bgt _ _ _ hj,if_pos (by omega),if_pos h.2]
    ·rw [if_neg h2,netTo_bgt _ _ _ hj,netTo_bgt _ _ _ hj]
     by_cases hl:lead r j < k
     ·rw [if_pos hl,if_pos (show lead r j < k+1 by omega)]
     ·have:lead r j ≠ k:=by
       intro e
       by_cases hj0:j / 2 ^ r % 2=0
       ·have:=e2 hj0; omega
       ·have:=e3 hj0; omega
      rw [if_neg hl,if_neg (show ¬ lead r j < k+1 by omega)]
  ·rw [leadL_no h,ih]
   refine bgt_ext (n:=16) (netTo_len _ _ _) (netTo_len _ _ _) fun j hj=>?_
   obtain ⟨e1,_⟩:=leadF ⟨r,hr⟩ ⟨j,hj⟩
   simp only at e1
   have:lead r j ≠ k:=by
    intro e
    rw [e] at e1
    exact h ⟨by omega,e1⟩
   rw [netTo_bgt _ _ _ hj,netTo_bgt _ _ _ hj]
   by_cases hl:lead r j < k
   ·rw [if_pos hl,if_pos (show lead r j < k+1 by omega)]
   ·rw [if_neg hl,if_neg (show ¬ lead r j < k+1 by omega)]
theorem stN_eq {r:Nat} {b:List Int} (hr:r < 4) (hb:b.length=16):stN r b=netR b r:=fold_net hr hb 16 (by decide)
theorem stN_len {r:Nat} {b:List Int} (hr:r < 4) (hb:b.length=16):(stN r b).length=16:=by rw [stN_eq hr hb,netR_len]
theorem stN_half {M N:Int} {b:List Int} (hb:b.length=16) (h:Within M b) (hN:3*M+8<=2*N) {r:Nat} (hr:r < 4):Within N (stN r b):=by rw [stN_eq hr hb]; exact netR_half h hN hr
theorem st_fwd {b:List Int} (hb:b.length=16):stN 3 (stN 2 (stN 1 (stN 0 b)))=fwdZ b:=by
 rw [stN_eq (r:=0) (by decide) hb,stN_eq (r:=1) (by decide) (netR_len _ _),stN_eq (r:=2) (by decide) (netR_len _ _),stN_eq (r:=3) (by decide) (netR_len _ _)]
 rfl
theorem put_below {B:Nat} {w0 W:World} (h:Below B w0 W) {D:Nat} (hD:B<=D) (o:Obj):Below B w0 (W.putObj D o) :=
 h.trans ⟨rfl,rfl,rfl,by simp,fun k hk=>World.putObj_heap_other (by omega)⟩
theorem leaves_four {F:Fence} {n:Nat} {P:Program} {fn:Func} {tmps:Array Value} {R:Ending->World->Prop} {U:World} {D3 D2 D1 D0:Nat} (h3:U.heap[D3]? = some (.deferred (some []))) (h2:U.heap[D2]? = some (.deferred (some []))) (h1:U.heap[D1]? = some (.deferred (some []))) (h0:U.heap[D0]? = some (.deferred (some [])))
  (l1:D0 < D1) (l2:D1 < D2) (l3:D2 < D3)
  (h:LeavesIn F n P fn tmps R [] .returning ((((U.putObj D3 (.deferred none)).putObj D2 (.deferred none)).putObj D1 (.deferred none)).putObj D0 (.deferred none))) :
  LeavesInM F n P fn tmps R [{ target:=.collected D3,args:=#[] },{ target:=.collected D2,args:=#[] },{ target:=.collected D1,args:=#[] },{ target:=.collected D0,args:=#[] }] .returning U:=by
 refine ⟨by simp,.inl ⟨_,_,rfl,run_takeDeferred h3,?_⟩⟩
 refine ⟨by simp,.inl ⟨_,_,rfl,run_takeDeferred ((World.putObj_heap_other (by omega)).trans h2),?_⟩⟩
 refine ⟨by simp,.inl ⟨_,_,rfl,run_takeDeferred ((World.putObj_heap_other (by omega)).trans ((World.putObj_heap_other (by omega)).trans h1)),?_⟩⟩
 refine ⟨by simp,.inl ⟨_,_,rfl,run_takeDeferred ((World.putObj_heap_other (by omega)).trans ((World.putObj_heap_other (by omega)).trans ((World.putObj_heap_other (by omega)).trans h0))),?_⟩⟩
 exact h
/-! The way back. -/
end
section
open Go.Lib (hid)
open Go.RowKit Go.Shelf
attribute [local go_sem] Oper.semAt_some
set_option maxRecDepth 100000 in
set_option maxHeartbeats 16000000 in
theorem Forward_any (tv:Array Value) (b:List Int) (M:Int) (w:World) (hts:tv.size=16) (ht:TurnsV tv) (hb:b.length=16) (hM:0<=M/\M<=2147483648) (hl:Within M b) :
  Calls Tryz.prog 236 #[.agg tv,blockV b] w fun e w'=>e=.returned (blockV (stN 3 (stN 2 (stN 1 (stN 0 b)))))/\Below w.heap.size w w':=by
 have Ht:=hid ht
 have HFt:=hid (show (Tryz.prog.info? 102).map (·.size)=some tv.size by rw [hts]; kernel_rfl)
 have H3:=hid (heap3 w (.cells tv 102) (.cells (b.map (Value.int .i64)).toArray 48) (.cells #[Value.int IntKind.i64 0,Value.int IntKind.i64 0,Value.int IntKind.i64 0,Value.int IntKind.i64 0,Value.int IntKind.i64 0,Value.int IntKind.i64 0,Value.int IntKind.i64 0,Value.int IntKind.i64 0,Value.int IntKind.i64 0,Value.int IntKind.i64 0,Value.int IntKind.i64 0,Value.int IntKind.i64 0,Value.int IntKind.i64 0,Value.int IntKind.i64 0,Value.int IntKind.i64 0,Value.int IntKind.i64 0] 48))
 have Hb0:=hid hb
 have Hl0:=hid (show Within M b from hl)
 have HM0:=hid hM
 clear ht hts hb hl hM
 unfold blockV
 obtain ⟨bv,hbv⟩:∃ bv,(b.map (Value.int .i64)).toArray=bv:=⟨_,rfl⟩
 rw [hbv] at H3 ⊢
 have Hbv:=hid hbv
 clear hbv
 refine (callsIn_wide (n:=4)).1 ?_
 refine callsIn_of_wp_marks Tryz.func236 rfl trivial ?_ rfl
 refine wpIn_wide.2 ?_
 simp only [Tryz.ntmps236,List.size_toArray,List.length_cons,List.length_nil,Nat.reduceAdd,Nat.reduceSub,Array.replicate_succ,Array.replicate_zero,List.push_toArray,List.append_toArray,List.nil_append,List.cons_append]
 go_wp2_with fail
 obtain ⟨V0,hV0⟩:∃ V,((w.alloc (.cells tv 102)).alloc (.cells bv 48)).alloc (.cells #[Value.int IntKind.i64 0,Value.int IntKind.i64 0,Value.int IntKind.i64 0,Value.int IntKind.i64 0,Value.int IntKind.i64 0,Value.int IntKind.i64 0,Value.int IntKind.i64 0,Value.int IntKind.i64 0,Value.int IntKind.i64 0,Value.int IntKind.i64 0,Value.int IntKind.i64 0,Value.int IntKind.i64 0,Value.int IntKind.i64 0,Value.int IntKind.i64 0,Value.int IntKind.i64 0,Value.int IntKind.i64 0] 48)=V:=⟨_,rfl⟩
 rw [hV0] at H3 ⊢
 clear hV0
 have N0:=hid H3.out.1
 have B0:=hid (show Blk V0 (w.heap.size+1) 48 (b.map (.int .i64)) by unfold Blk; rw [Hbv.out]; exact H3.out.2.1)
 have Z0:=hid H3.out.2.2.1
 have z0:w.heap.size+3<=V0.heap.size:=Nat.le_of_eq H3.out.2.2.2.1.symm
 have L0:=hid H3.out.2.2.2.2
 clear H3 Hbv
 refine wp_loop_rounds 5 ?_
 have HP:=hid (fun W=>pairs_any tv 0 W)
 rw [rounds_succ]
 go_wp2_with (first | (go_at_call 188; fail) | (refine wpList_load_row_w rfl 102 (.tmp 2) rfl w.heap.size rfl _ tv _ _ (hkeep N0.out (bnew _ _)) Tryz.underlying102 rfl HFt.out ?_))
 refine (HP.out _).mono ?_
 clear HP
 rintro e W0 ⟨Br,Bn,rfl,hz1,hz2,hBr,hBn,hb1⟩
 have L:=hid (bnext (bnew V0 (.cells #[.int .i64 0] 3)) hb1)
 have hXr:=hkeep (heap_alloc_new V0 (.cells #[.int .i64 0] 3)) hb1
 have Xr:=hid hXr
 have XB:=hid (B0.out.below L.out B0.out.lt)
 have gBr:=hlt hBr
 have gBn:=hlt hBn
 have nBr:Br ≠ w.heap.size+1:=by simp at hz1; omega
 have nBn:Bn ≠ w.heap.size+1:=by simp at hz2; omega
 have zB:w.heap.size+1 < W0.heap.size:=by have:=L.out.size; omega
 have nR:V0.heap.size ≠ w.heap.size+1:=by omega
 have KBr:=hid hBr
 have KBn:=hid hBn
 clear hb1 hz1 hz2 hXr hBr hBn
 go_wp2_with fail
 refine (wpIn_wide (n:=4)).1 ?_
 refine wpIn_rangeFunc_ownH (n:=4) rfl (by decide) (gf:=212) (lb:=#[.pointer (some ⟨Br,0,none⟩),.pointer (some ⟨Bn,0,none⟩)]) rfl trivial (enters_of Tryz.func212 (by kernel_rfl) rfl) (pairs_stops 0 Br Bn tv W0 (by decide) Ht.out KBr.out KBn.out) kp2_t (kp2_b gBr gBn) (Below.refl _ _) (fun _=>rfl)
  (fun (pre:List (PI 0)) X=>W0.grownBy X (some (w.heap.size+1))/\Blk X (w.heap.size+1) 48 ((pre.foldl (stepN 0) (b)).map (.int .i64))) (fun _ _ _=>False)
  (ownFrom_only (fun (pre:List (PI 0))=>(pre.foldl (stepN 0) (b)).map (.int .i64)) zB) (fun _ _ _ _ _ h _ _=>h) ⟨below_grown (Below.refl _ _),XB.out⟩
  (fun (x:PI 0) a' X=>∃ Bx,W0.heap.size<=Bx/\X.heap[Bx]? = some (.cells #[.int .i64 (turnOf x.1 0).p,.int .i64 (turnOf x.1 0).u] 97 (0,0)) /\
   a'={ tmps:=#[.agg tv,.agg bv,.pointer (some ⟨w.heap.size,0,none⟩),.pointer (some ⟨w.heap.size+1,0,none⟩),.pointer (some ⟨w.heap.size+1+1,0,none⟩),.pointer (some ⟨V0.heap.size,0,none⟩),.int .i64 (x.1:Int),.pointer (some ⟨Bx,0,none⟩),undef,.int .i64 0,.bool true,.int .i64 0,.agg tv,.int .i64 0,.func (.func 212) #[] #[.pointer (some ⟨Br,0,none⟩),.pointer (some ⟨Bn,0,none⟩)],.int .i64 (x.1:Int),.agg #[.int .i64 (turnOf x.1 0).p,.int .i64 (turnOf x.1 0).u],undef,undef,undef,undef,undef,undef,undef,undef,undef,undef,undef,undef,undef,undef,undef,undef,undef,undef,undef,undef,undef],defers:=[] })
  (fun x a'=>ownFrom_box _) ?_ ?_ ?_ ?_
 rotate_left 1
 rintro l pre x a' X hl ⟨rr,hrr⟩ ⟨hG,hBk⟩ ⟨Bx,hx1,hx2,rfl⟩ hlen
 have HLm:=hid (foldN_lim (r:=0) (by decide) pre (b) _ Hb0.out Hl0.out)
 have hlen16:(pre.foldl (stepN 0) (b)).length=16:=by rw [foldN_len]; exact Hb0.out
 have HSt:=hid (show pre.foldl (stepN 0) (b)=pre.foldl (stepN 0) (b) from rfl)
 have HSn:=hid (show (pre ++ [x]).foldl (stepN 0) (b)=stepN 0 (pre.foldl (stepN 0) (b)) x by rw [List.foldl_append]; rfl)
 obtain ⟨sb,hsb⟩:∃ sb,pre.foldl (stepN 0) (b)=sb:=⟨_,rfl⟩
 rw [hsb] at hBk HLm hlen16 HSn
 clear HSt hsb
 have hi16:=x.2.1
 have hm:=lead_mate (r:=0) (by decide) x
 have hor:bits .or .i64 (x.1:Int) 1=((x.1+2 ^ 0:Nat):Int):=(or_pairF ⟨0,by decide⟩ ⟨x.1,hi16⟩ x.2.2).1
 have hne:=mate_ne 0 x
 obtain ⟨y,hy⟩:=list_get hlen16 hi16
 obtain ⟨z,hz⟩:=list_get hlen16 hm
 have HLc:=limN_le (M:=M) (by have:=HM0.out; omega) hlen
 have ty:Turnable y:=by have:=HLm.out.turnable HLc hi16; rwa [bgt_get hy] at this
 have tz:Turnable z:=by have:=HLm.out.turnable HLc hm; rwa [bgt_get hz] at this
 have HT:=hid (fun W=>liftTurn_any y z (turnOf x.1 0) W (turnK_ok (Nat.mod_lt _ (by decide))) ty tz)
 have HSet:=hid (fun (W:World) (h:Blk W (w.heap.size+1) 48 (sb.map (.int .i64)))=>set_step x (bgt_get hy) (bgt_get hz) rfl h)
 have hcy:(sb.map (Value.int .i64))[x.1]? = some (.int .i64 y):=by rw [List.getElem?_map,hy]; rfl
 have hcz:(sb.map (Value.int .i64))[x.1+2 ^ 0]? = some (.int .i64 z):=by rw [List.getElem?_map,hz]; rfl
 have hn16:sb.length=16:=hlen16
 have Hlen:=hid hlen16
 generalize turnA y z (turnOf x.1 0)=Y at *
 generalize turnB y z (turnOf x.1 0)=Zz at *
 generalize turnOf x.1 0=tk at *
 obtain ⟨p,u⟩:=tk
 simp only at HT hx2
 obtain ⟨i,hi⟩:∃ i:Nat,x.1=i:=⟨_,rfl⟩
 obtain ⟨j,hj⟩:∃ j:Nat,x.1+2 ^ 0=j:=⟨_,rfl⟩
 rw [hj] at hm hor hne hcz HSet
 rw [hi] at hi16 hor hne hcy HSet ⊢
 have cr:X.cell? ⟨V0.heap.size,0,none⟩=some (.int .i64 0):=cell_of_row X _ 0 _ _ _ ((hG.block _ (hlt Xr.out) (by simpa using nR)).trans Xr.out)
 rotate_left 1
 case refine_4=>exact fun D c pre X _ _ h=>h.elim
 focus
  rintro D0 ys V1 hD0 rfl ⟨hG,hBk⟩ hK
  have d0:w.heap.size+3<=D0:=by have:=L.out.size; omega
  have v0:D0 < V1.heap.size:=hlt hK
  have M0:=hid hK
  have N1:=hid ((hG.block _ (hlt (hkeep N0.out L.out)) (by simp)).trans (hkeep N0.out L.out))
  have B1:=hid (show Blk V1 (w.heap.size+1) 48 ((stN 0 (b)).map (.int .i64)) from hBk)
  have Z1:=hid ((hG.block _ (hlt (hkeep Z0.out L.out)) (by simp)).trans (hkeep Z0.out L.out))
  have z1:w.heap.size+3<=V1.heap.size:=by have:=L.out.size; have:=hG.size; omega
  have L1:=hid ((bnext L0.out L.out).grown hG (by have:=L.out.size; omega) (fun k e=>by cases e; omega))
  have Hb1:=hid (stN_len (r:=0) (by decide) Hb0.out)
  have Hl1:=hid (stN_half (r:=0) (M:=M) (N:=(3*M+9) / 2) Hb0.out Hl0.out (by have:=HM0.out; omega) (by decide))
  obtain ⟨S1,hSq⟩:∃ S,stN 0 (b)=S:=⟨_,rfl⟩
  rw [hSq] at B1 Hb1 Hl1
  have E1:=hid hSq
  clear hSq
  clear hG hBk hK hD0 L Xr XB gBr gBn nBr nBn zB nR KBr KBn z0 N0 B0 Z0 L0 Hb0 Hl0
  go_wp2_with fail
  have HP:=hid (fun W=>pairs_any tv 1 W)
  rw [rounds_succ]
  go_wp2_with (first | (go_at_call 188; fail) | (refine wpList_load_row_w rfl 102 (.tmp 2) rfl w.heap.size rfl _ tv _ _ (hkeep N1.out (bnew _ _)) Tryz.underlying102 rfl HFt.out ?_))
  refine (HP.out _).mono ?_
  clear HP
  rintro e W1 ⟨Br,Bn,rfl,hz1,hz2,hBr,hBn,hb1⟩
  have L:=hid (bnext (bnew V1 (.cells #[.int .i64 1] 3)) hb1)
  have hXr:=hkeep (heap_alloc_new V1 (.cells #[.int .i64 1] 3)) hb1
  have Xr:=hid hXr
  have XB:=hid (B1.out.below L.out B1.out.lt)
  have gBr:=hlt hBr
  have gBn:=hlt hBn
  have nBr:Br ≠ w.heap.size+1:=by simp at hz1; omega
  have nBn:Bn ≠ w.heap.size+1:=by simp at hz2; omega
  have zB:w.heap.size+1 < W1.heap.size:=by have:=L.out.size; omega
  have nR:V1.heap.size ≠ w.heap.size+1:=by omega
  have KBr:=hid hBr
  have KBn:=hid hBn
  clear hb1 hz1 hz2 hXr hBr hBn
  go_wp2_with fail
  refine (wpIn_wide (n:=4)).1 ?_
  refine wpIn_rangeFunc_ownH (n:=4) rfl (by decide) (gf:=212) (lb:=#[.pointer (some ⟨Br,0,none⟩),.pointer (some ⟨Bn,0,none⟩)]) rfl trivial (enters_of Tryz.func212 (by kernel_rfl) rfl) (pairs_stops 1 Br Bn tv W1 (by decide) Ht.out KBr.out KBn.out) kp2_t (kp2_b gBr gBn) (Below.refl _ _) (fun _=>rfl)
   (fun (pre:List (PI 1)) X=>W1.grownBy X (some (w.heap.size+1))/\Blk X (w.heap.size+1) 48 ((pre.foldl (stepN 1) (S1)).map (.int .i64))) (fun _ _ _=>False)
   (ownFrom_only (fun (pre:List (PI 1))=>(pre.foldl (stepN 1) (S1)).map (.int .i64)) zB) (fun _ _ _ _ _ h _ _=>h) ⟨below_grown (Below.refl _ _),XB.out⟩
   (fun (x:PI 1) a' X=>∃ Bx,W1.heap.size<=Bx/\X.heap[Bx]? = some (.cells #[.int .i64 (turnOf x.1 1).p,.int .i64 (turnOf x.1 1).u] 97 (0,0)) /\
    a'={ tmps:=#[.agg tv,.agg bv,.pointer (some ⟨w.heap.size,0,none⟩),.pointer (some ⟨w.heap.size+1,0,none⟩),.pointer (some ⟨w.heap.size+1+1,0,none⟩),.pointer (some ⟨V1.heap.size,0,none⟩),.int .i64 (x.1:Int),.pointer (some ⟨Bx,0,none⟩),undef,.int .i64 1,.bool true,.int .i64 1,.agg tv,.int .i64 1,.func (.func 212) #[] #[.pointer (some ⟨Br,0,none⟩),.pointer (some ⟨Bn,0,none⟩)],.int .i64 (x.1:Int),.agg #[.int .i64 (turnOf x.1 1).p,.int .i64 (turnOf x.1 1).u],undef,undef,undef,undef,undef,undef,undef,undef,undef,undef,undef,undef,undef,undef,undef,undef,undef,undef,undef,.int .i64 1,undef],defers:=[] })
   (fun x a'=>ownFrom_box _) ?_ ?_ ?_ ?_
  rotate_left 1
  rintro l pre x a' X hl ⟨rr,hrr⟩ ⟨hG,hBk⟩ ⟨Bx,hx1,hx2,rfl⟩ hlen
  have HLm:=hid (foldN_lim (r:=1) (by decide) pre (S1) _ Hb1.out Hl1.out)
  have hlen16:(pre.foldl (stepN 1) (S1)).length=16:=by rw [foldN_len]; exact Hb1.out
  have HSt:=hid (show pre.foldl (stepN 1) (S1)=pre.foldl (stepN 1) (S1) from rfl)
  have HSn:=hid (show (pre ++ [x]).foldl (stepN 1) (S1)=stepN 1 (pre.foldl (stepN 1) (S1)) x by rw [List.foldl_append]; rfl)
  obtain ⟨sb,hsb⟩:∃ sb,pre.foldl (stepN 1) (S1)=sb:=⟨_,rfl⟩
  rw [hsb] at hBk HLm hlen16 HSn
  clear HSt hsb
  have hi16:=x.2.1
  have hm:=lead_mate (r:=1) (by decide) x
  have hor:bits .or .i64 (x.1:Int) 2=((x.1+2 ^ 1:Nat):Int):=(or_pairF ⟨1,by decide⟩ ⟨x.1,hi16⟩ x.2.2).1
  have hne:=mate_ne 1 x
  obtain ⟨y,hy⟩:=list_get hlen16 hi16
  obtain ⟨z,hz⟩:=list_get hlen16 hm
  have HLc:=limN_le (M:=(3*M+9) / 2) (by have:=HM0.out; omega) hlen
  have ty:Turnable y:=by have:=HLm.out.turnable HLc hi16; rwa [bgt_get hy] at this
  have tz:Turnable z:=by have:=HLm.out.turnable HLc hm; rwa [bgt_get hz] at this
  have HT:=hid (fun W=>liftTurn_any y z (turnOf x.1 1) W (turnK_ok (Nat.mod_lt _ (by decide))) ty tz)
  have HSet:=hid (fun (W:World) (h:Blk W (w.heap.size+1) 48 (sb.map (.int .i64)))=>set_step x (bgt_get hy) (bgt_get hz) rfl h)
  have hcy:(sb.map (Value.int .i64))[x.1]? = some (.int .i64 y):=by rw [List.getElem?_map,hy]; rfl
  have hcz:(sb.map (Value.int .i64))[x.1+2 ^ 1]? = some (.int .i64 z):=by rw [List.getElem?_map,hz]; rfl
  have hn16:sb.length=16:=hlen16
  have Hlen:=hid hlen16
  generalize turnA y z (turnOf x.1 1)=Y at *
  generalize turnB y z (turnOf x.1 1)=Zz at *
  generalize turnOf x.1 1=tk at *
  obtain ⟨p,u⟩:=tk
  simp only at HT hx2
  obtain ⟨i,hi⟩:∃ i:Nat,x.1=i:=⟨_,rfl⟩
  obtain ⟨j,hj⟩:∃ j:Nat,x.1+2 ^ 1=j:=⟨_,rfl⟩
  rw [hj] at hm hor hne hcz HSet
  rw [hi] at hi16 hor hne hcy HSet ⊢
  have cr:X.cell? ⟨V1.heap.size,0,none⟩=some (.int .i64 1):=cell_of_row X _ 0 _ _ _ ((hG.block _ (hlt Xr.out) (by simpa using nR)).trans Xr.out)
  rotate_left 1
  case refine_4=>exact fun D c pre X _ _ h=>h.elim
  focus
   rintro D1 ys V2 hD1 rfl ⟨hG,hBk⟩ hK
   have d1:w.heap.size+3<=D1:=by have:=L.out.size; omega
   have y1:D0 < D1:=by have:=L.out.size; omega
   have v1:D1 < V2.heap.size:=hlt hK
   have M1:=hid hK
   have M0:=hid ((hG.block _ (hlt (hkeep M0.out L.out)) (by simp; omega)).trans (hkeep M0.out L.out))
   have v0:D0 < V2.heap.size:=hlt M0.out
   have N2:=hid ((hG.block _ (hlt (hkeep N1.out L.out)) (by simp)).trans (hkeep N1.out L.out))
   have B2:=hid (show Blk V2 (w.heap.size+1) 48 ((stN 1 (S1)).map (.int .i64)) from hBk)
   have Z2:=hid ((hG.block _ (hlt (hkeep Z1.out L.out)) (by simp)).trans (hkeep Z1.out L.out))
   have z2:w.heap.size+3<=V2.heap.size:=by have:=L.out.size; have:=hG.size; omega
   have L2:=hid ((bnext L1.out L.out).grown hG (by have:=L.out.size; omega) (fun k e=>by cases e; omega))
   have Hb2:=hid (stN_len (r:=1) (by decide) Hb1.out)
   have Hl2:=hid (stN_half (r:=1) (M:=(3*M+9) / 2) (N:=(9*M+56) / 4) Hb1.out Hl1.out (by have:=HM0.out; omega) (by decide))
   obtain ⟨S2,hSq⟩:∃ S,stN 1 (S1)=S:=⟨_,rfl⟩
   rw [hSq] at B2 Hb2 Hl2
   have E2:=hid hSq
   clear hSq
   clear hG hBk hK hD1 L Xr XB gBr gBn nBr nBn zB nR KBr KBn z1 N1 B1 Z1 L1 Hb1 Hl1
   go_wp2_with fail
   have HP:=hid (fun W=>pairs_any tv 2 W)
   rw [rounds_succ]
   go_wp2_with (first | (go_at_call 188; fail) | (refine wpList_load_row_w rfl 102 (.tmp 2) rfl w.heap.size rfl _ tv _ _ (hkeep N2.out (bnew _ _)) Tryz.underlying102 rfl HFt.out ?_))
   refine (HP.out _).mono ?_
   clear HP
   rintro e W2 ⟨Br,Bn,rfl,hz1,hz2,hBr,hBn,hb1⟩
   have L:=hid (bnext (bnew V2 (.cells #[.int .i64 2] 3)) hb1)
   have hXr:=hkeep (heap_alloc_new V2 (.cells #[.int .i64 2] 3)) hb1
   have Xr:=hid hXr
   have XB:=hid (B2.out.below L.out B2.out.lt)
   have gBr:=hlt hBr
   have gBn:=hlt hBn
   have nBr:Br ≠ w.heap.size+1:=by simp at hz1; omega
   have nBn:Bn ≠ w.heap.size+1:=by simp at hz2; omega
   have zB:w.heap.size+1 < W2.heap.size:=by have:=L.out.size; omega
   have nR:V2.heap.size ≠ w.heap.size+1:=by omega
   have KBr:=hid hBr
   have KBn:=hid hBn
   clear hb1 hz1 hz2 hXr hBr hBn
   go_wp2_with fail
   refine (wpIn_wide (n:=4)).1 ?_
   refine wpIn_rangeFunc_ownH (n:=4) rfl (by decide) (gf:=212) (lb:=#[.pointer (some ⟨Br,0,none⟩),.pointer (some ⟨Bn,0,none⟩)]) rfl trivial (enters_of Tryz.func212 (by kernel_rfl) rfl) (pairs_stops 2 Br Bn tv W2 (by decide) Ht.out KBr.out KBn.out) kp2_t (kp2_b gBr gBn) (Below.refl _ _) (fun _=>rfl)
    (fun (pre:List (PI 2)) X=>W2.grownBy X (some (w.heap.size+1))/\Blk X (w.heap.size+1) 48 ((pre.foldl (stepN 2) (S2)).map (.int .i64))) (fun _ _ _=>False)
    (ownFrom_only (fun (pre:List (PI 2))=>(pre.foldl (stepN 2) (S2)).map (.int .i64)) zB) (fun _ _ _ _ _ h _ _=>h) ⟨below_grown (Below.refl _ _),XB.out⟩
    (fun (x:PI 2) a' X=>∃ Bx,W2.heap.size<=Bx/\X.heap[Bx]? = some (.cells #[.int .i64 (turnOf x.1 2).p,.int .i64 (turnOf x.1 2).u] 97 (0,0)) /\
     a'={ tmps:=#[.agg tv,.agg bv,.pointer (some ⟨w.heap.size,0,none⟩),.pointer (some ⟨w.heap.size+1,0,none⟩),.pointer (some ⟨w.heap.size+1+1,0,none⟩),.pointer (some ⟨V2.heap.size,0,none⟩),.int .i64 (x.1:Int),.pointer (some ⟨Bx,0,none⟩),undef,.int .i64 2,.bool true,.int .i64 2,.agg tv,.int .i64 2,.func (.func 212) #[] #[.pointer (some ⟨Br,0,none⟩),.pointer (some ⟨Bn,0,none⟩)],.int .i64 (x.1:Int),.agg #[.int .i64 (turnOf x.1 2).p,.int .i64 (turnOf x.1 2).u],undef,undef,undef,undef,undef,undef,undef,undef,undef,undef,undef,undef,undef,undef,undef,undef,undef,undef,undef,.int .i64 2,undef],defers:=[] })
    (fun x a'=>ownFrom_box _) ?_ ?_ ?_ ?_
   rotate_left 1
   rintro l pre x a' X hl ⟨rr,hrr⟩ ⟨hG,hBk⟩ ⟨Bx,hx1,hx2,rfl⟩ hlen
   have HLm:=hid (foldN_lim (r:=2) (by decide) pre (S2) _ Hb2.out Hl2.out)
   have hlen16:(pre.foldl (stepN 2) (S2)).length=16:=by rw [foldN_len]; exact Hb2.out
   have HSt:=hid (show pre.foldl (stepN 2) (S2)=pre.foldl (stepN 2) (S2) from rfl)
   have HSn:=hid (show (pre ++ [x]).foldl (stepN 2) (S2)=stepN 2 (pre.foldl (stepN 2) (S2)) x by rw [List.foldl_append]; rfl)
   obtain ⟨sb,hsb⟩:∃ sb,pre.foldl (stepN 2) (S2)=sb:=⟨_,rfl⟩
   rw [hsb] at hBk HLm hlen16 HSn
   clear HSt hsb
   have hi16:=x.2.1
   have hm:=lead_mate (r:=2) (by decide) x
   have hor:bits .or .i64 (x.1:Int) 4=((x.1+2 ^ 2:Nat):Int):=(or_pairF ⟨2,by decide⟩ ⟨x.1,hi16⟩ x.2.2).1
   have hne:=mate_ne 2 x
   obtain ⟨y,hy⟩:=list_get hlen16 hi16
   obtain ⟨z,hz⟩:=list_get hlen16 hm
   have HLc:=limN_le (M:=(9*M+56) / 4) (by have:=HM0.out; omega) hlen
   have ty:Turnable y:=by have:=HLm.out.turnable HLc hi16; rwa [bgt_get hy] at this
   have tz:Turnable z:=by have:=HLm.out.turnable HLc hm; rwa [bgt_get hz] at this
   have HT:=hid (fun W=>liftTurn_any y z (turnOf x.1 2) W (turnK_ok (Nat.mod_lt _ (by decide))) ty tz)
   have HSet:=hid (fun (W:World) (h:Blk W (w.heap.size+1) 48 (sb.map (.int .i64)))=>set_step x (bgt_get hy) (bgt_get hz) rfl h)
   have hcy:(sb.map (Value.int .i64))[x.1]? = some (.int .i64 y):=by rw [List.getElem?_map,hy]; rfl
   have hcz:(sb.map (Value.int .i64))[x.1+2 ^ 2]? = some (.int .i64 z):=by rw [List.getElem?_map,hz]; rfl
   have hn16:sb.length=16:=hlen16
   have Hlen:=hid hlen16
   generalize turnA y z (turnOf x.1 2)=Y at *
   generalize turnB y z (turnOf x.1 2)=Zz at *
   generalize turnOf x.1 2=tk at *
   obtain ⟨p,u⟩:=tk
   simp only at HT hx2
   obtain ⟨i,hi⟩:∃ i:Nat,x.1=i:=⟨_,rfl⟩
   obtain ⟨j,hj⟩:∃ j:Nat,x.1+2 ^ 2=j:=⟨_,rfl⟩
   rw [hj] at hm hor hne hcz HSet
   rw [hi] at hi16 hor hne hcy HSet ⊢
   have cr:X.cell? ⟨V2.heap.size,0,none⟩=some (.int .i64 2):=cell_of_row X _ 0 _ _ _ ((hG.block _ (hlt Xr.out) (by simpa using nR)).trans Xr.out)
   rotate_left 1
   case refine_4=>exact fun D c pre X _ _ h=>h.elim
   focus
    rintro D2 ys V3 hD2 rfl ⟨hG,hBk⟩ hK
    have d2:w.heap.size+3<=D2:=by have:=L.out.size; omega
    have y2:D1 < D2:=by have:=L.out.size; omega
    have v2:D2 < V3.heap.size:=hlt hK
    have M2:=hid hK
    have M0:=hid ((hG.block _ (hlt (hkeep M0.out L.out)) (by simp; omega)).trans (hkeep M0.out L.out))
    have v0:D0 < V3.heap.size:=hlt M0.out
    have M1:=hid ((hG.block _ (hlt (hkeep M1.out L.out)) (by simp; omega)).trans (hkeep M1.out L.out))
    have v1:D1 < V3.heap.size:=hlt M1.out
    have N3:=hid ((hG.block _ (hlt (hkeep N2.out L.out)) (by simp)).trans (hkeep N2.out L.out))
    have B3:=hid (show Blk V3 (w.heap.size+1) 48 ((stN 2 (S2)).map (.int .i64)) from hBk)
    have Z3:=hid ((hG.block _ (hlt (hkeep Z2.out L.out)) (by simp)).trans (hkeep Z2.out L.out))
    have z3:w.heap.size+3<=V3.heap.size:=by have:=L.out.size; have:=hG.size; omega
    have L3:=hid ((bnext L2.out L.out).grown hG (by have:=L.out.size; omega) (fun k e=>by cases e; omega))
    have Hb3:=hid (stN_len (r:=2) (by decide) Hb2.out)
    have Hl3:=hid (stN_half (r:=2) (M:=(9*M+56) / 4) (N:=(27*M+238) / 8) Hb2.out Hl2.out (by have:=HM0.out; omega) (by decide))
    obtain ⟨S3,hSq⟩:∃ S,stN 2 (S2)=S:=⟨_,rfl⟩
    rw [hSq] at B3 Hb3 Hl3
    have E3:=hid hSq
    clear hSq
    clear hG hBk hK hD2 L Xr XB gBr gBn nBr nBn zB nR KBr KBn z2 N2 B2 Z2 L2 Hb2 Hl2
    go_wp2_with fail
    have HP:=hid (fun W=>pairs_any tv 3 W)
    rw [rounds_succ]
    go_wp2_with (first | (go_at_call 188; fail) | (refine wpList_load_row_w rfl 102 (.tmp 2) rfl w.heap.size rfl _ tv _ _ (hkeep N3.out (bnew _ _)) Tryz.underlying102 rfl HFt.out ?_))
    refine (HP.out _).mono ?_
    clear HP
    rintro e W3 ⟨Br,Bn,rfl,hz1,hz2,hBr,hBn,hb1⟩
    have L:=hid (bnext (bnew V3 (.cells #[.int .i64 3] 3)) hb1)
    have hXr:=hkeep (heap_alloc_new V3 (.cells #[.int .i64 3] 3)) hb1
    have Xr:=hid hXr
    have XB:=hid (B3.out.below L.out B3.out.lt)
    have gBr:=hlt hBr
    have gBn:=hlt hBn
    have nBr:Br ≠ w.heap.size+1:=by simp at hz1; omega
    have nBn:Bn ≠ w.heap.size+1:=by simp at hz2; omega
    have zB:w.heap.size+1 < W3.heap.size:=by have:=L.out.size; omega
    have nR:V3.heap.size ≠ w.heap.size+1:=by omega
    have KBr:=hid hBr
    have KBn:=hid hBn
    clear hb1 hz1 hz2 hXr hBr hBn
    go_wp2_with fail
    refine (wpIn_wide (n:=4)).1 ?_
    refine wpIn_rangeFunc_ownH (n:=4) rfl (by decide) (gf:=212) (lb:=#[.pointer (some ⟨Br,0,none⟩),.pointer (some ⟨Bn,0,none⟩)]) rfl trivial (enters_of Tryz.func212 (by kernel_rfl) rfl) (pairs_stops 3 Br Bn tv W3 (by decide) Ht.out KBr.out KBn.out) kp2_t (kp2_b gBr gBn) (Below.refl _ _) (fun _=>rfl)
     (fun (pre:List (PI 3)) X=>W3.grownBy X (some (w.heap.size+1))/\Blk X (w.heap.size+1) 48 ((pre.foldl (stepN 3) (S3)).map (.int .i64))) (fun _ _ _=>False)
     (ownFrom_only (fun (pre:List (PI 3))=>(pre.foldl (stepN 3) (S3)).map (.int .i64)) zB) (fun _ _ _ _ _ h _ _=>h) ⟨below_grown (Below.refl _ _),XB.out⟩
     (fun (x:PI 3) a' X=>∃ Bx,W3.heap.size<=Bx/\X.heap[Bx]? = some (.cells #[.int .i64 (turnOf x.1 3).p,.int .i64 (turnOf x.1 3).u] 97 (0,0)) /\
      a'={ tmps:=#[.agg tv,.agg bv,.pointer (some ⟨w.heap.size,0,none⟩),.pointer (some ⟨w.heap.size+1,0,none⟩),.pointer (some ⟨w.heap.size+1+1,0,none⟩),.pointer (some ⟨V3.heap.size,0,none⟩),.int .i64 (x.1:Int),.pointer (some ⟨Bx,0,none⟩),undef,.int .i64 3,.bool true,.int .i64 3,.agg tv,.int .i64 3,.func (.func 212) #[] #[.pointer (some ⟨Br,0,none⟩),.pointer (some ⟨Bn,0,none⟩)],.int .i64 (x.1:Int),.agg #[.int .i64 (turnOf x.1 3).p,.int .i64 (turnOf x.1 3).u],undef,undef,undef,undef,undef,undef,undef,undef,undef,undef,undef,undef,undef,undef,undef,undef,undef,undef,undef,.int .i64 3,undef],defers:=[] })
     (fun x a'=>ownFrom_box _) ?_ ?_ ?_ ?_
    rotate_left 1
    rintro l pre x a' X hl ⟨rr,hrr⟩ ⟨hG,hBk⟩ ⟨Bx,hx1,hx2,rfl⟩ hlen
    have HLm:=hid (foldN_lim (r:=3) (by decide) pre (S3) _ Hb3.out Hl3.out)
    have hlen16:(pre.foldl (stepN 3) (S3)).length=16:=by rw [foldN_len]; exact Hb3.out
    have HSt:=hid (show pre.foldl (stepN 3) (S3)=pre.foldl (stepN 3) (S3) from rfl)
    have HSn:=hid (show (pre ++ [x]).foldl (stepN 3) (S3)=stepN 3 (pre.foldl (stepN 3) (S3)) x by rw [List.foldl_append]; rfl)
    obtain ⟨sb,hsb⟩:∃ sb,pre.foldl (stepN 3) (S3)=sb:=⟨_,rfl⟩
    rw [hsb] at hBk HLm hlen16 HSn
    clear HSt hsb
    have hi16:=x.2.1
    have hm:=lead_mate (r:=3) (by decide) x
    have hor:bits .or .i64 (x.1:Int) 8=((x.1+2 ^ 3:Nat):Int):=(or_pairF ⟨3,by decide⟩ ⟨x.1,hi16⟩ x.2.2).1
    have hne:=mate_ne 3 x
    obtain ⟨y,hy⟩:=list_get hlen16 hi16
    obtain ⟨z,hz⟩:=list_get hlen16 hm
    have HLc:=limN_le (M:=(27*M+238) / 8) (by have:=HM0.out; omega) hlen
    have ty:Turnable y:=by have:=HLm.out.turnable HLc hi16; rwa [bgt_get hy] at this
    have tz:Turnable z:=by have:=HLm.out.turnable HLc hm; rwa [bgt_get hz] at this
    have HT:=hid (fun W=>liftTurn_any y z (turnOf x.1 3) W (turnK_ok (Nat.mod_lt _ (by decide))) ty tz)
    have HSet:=hid (fun (W:World) (h:Blk W (w.heap.size+1) 48 (sb.map (.int .i64)))=>set_step x (bgt_get hy) (bgt_get hz) rfl h)
    have hcy:(sb.map (Value.int .i64))[x.1]? = some (.int .i64 y):=by rw [List.getElem?_map,hy]; rfl
    have hcz:(sb.map (Value.int .i64))[x.1+2 ^ 3]? = some (.int .i64 z):=by rw [List.getElem?_map,hz]; rfl
    have hn16:sb.length=16:=hlen16
    have Hlen:=hid hlen16
    generalize turnA y z (turnOf x.1 3)=Y at *
    generalize turnB y z (turnOf x.1 3)=Zz at *
    generalize turnOf x.1 3=tk at *
    obtain ⟨p,u⟩:=tk
    simp only at HT hx2
    obtain ⟨i,hi⟩:∃ i:Nat,x.1=i:=⟨_,rfl⟩
    obtain ⟨j,hj⟩:∃ j:Nat,x.1+2 ^ 3=j:=⟨_,rfl⟩
    rw [hj] at hm hor hne hcz HSet
    rw [hi] at hi16 hor hne hcy HSet ⊢
    have cr:X.cell? ⟨V3.heap.size,0,none⟩=some (.int .i64 3):=cell_of_row X _ 0 _ _ _ ((hG.block _ (hlt Xr.out) (by simpa using nR)).trans Xr.out)
    rotate_left 1
    case refine_4=>exact fun D c pre X _ _ h=>h.elim
    focus
     rintro D3 ys V4 hD3 rfl ⟨hG,hBk⟩ hK
     have d3:w.heap.size+3<=D3:=by have:=L.out.size; omega
     have y3:D2 < D3:=by have:=L.out.size; omega
     have v3:D3 < V4.heap.size:=hlt hK
     have M3:=hid hK
     have M0:=hid ((hG.block _ (hlt (hkeep M0.out L.out)) (by simp; omega)).trans (hkeep M0.out L.out))
     have v0:D0 < V4.heap.size:=hlt M0.out
     have M1:=hid ((hG.block _ (hlt (hkeep M1.out L.out)) (by simp; omega)).trans (hkeep M1.out L.out))
     have v1:D1 < V4.heap.size:=hlt M1.out
     have M2:=hid ((hG.block _ (hlt (hkeep M2.out L.out)) (by simp; omega)).trans (hkeep M2.out L.out))
     have v2:D2 < V4.heap.size:=hlt M2.out
     have N4:=hid ((hG.block _ (hlt (hkeep N3.out L.out)) (by simp)).trans (hkeep N3.out L.out))
     have B4:=hid (show Blk V4 (w.heap.size+1) 48 ((stN 3 (S3)).map (.int .i64)) from hBk)
     have Z4:=hid ((hG.block _ (hlt (hkeep Z3.out L.out)) (by simp)).trans (hkeep Z3.out L.out))
     have z4:w.heap.size+3<=V4.heap.size:=by have:=L.out.size; have:=hG.size; omega
     have L4:=hid ((bnext L3.out L.out).grown hG (by have:=L.out.size; omega) (fun k e=>by cases e; omega))
     have Hb4:=hid (stN_len (r:=3) (by decide) Hb3.out)
     have Hl4:=hid (stN_half (r:=3) (M:=(27*M+238) / 8) (N:=6*M+60) Hb3.out Hl3.out (by have:=HM0.out; omega) (by decide))
     obtain ⟨S4,hSq⟩:∃ S,stN 3 (S3)=S:=⟨_,rfl⟩
     rw [hSq] at B4 Hb4 Hl4
     have E4:=hid hSq
     clear hSq
     clear hG hBk hK hD3 L Xr XB gBr gBn nBr nBn zB nR KBr KBn z3 N3 B3 Z3 L3 Hb3 Hl3
     go_wp2_with fail
     rw [rounds_succ]
     have hfs:=Hb4.out
     have HE:=hid (show stN 3 (stN 2 (stN 1 (stN 0 b)))=S4 by rw [E1.out,E2.out,E3.out,E4.out])
     have hsz:(S4.map (Value.int .i64)).toArray.size=16:=by simp [hfs]
     have H1:=hid (ints_one S4)
     have HB4:=hid (show V4.heap[w.heap.size+1]? = some (.cells (S4.map (Value.int .i64)).toArray 48 (0,0)) from B4.out)
     obtain ⟨xs,hxs⟩:∃ xs,(S4.map (Value.int .i64)).toArray=xs:=⟨_,rfl⟩
     rw [hxs] at hsz H1 HB4
     have HF:=hid (show (Tryz.prog.info? 48).map (·.size)=some xs.size by rw [hsz]; exact inf_block)
     have HEx:=hid hxs
     have Hsz:=hid (show (16:Nat)=xs.size from hsz.symm)
     clear hsz hxs hfs
     go_wp2_with (first | (refine wpList_load_row_w rfl 48 (.tmp 3) rfl (w.heap.size+1) rfl _ xs _ _ HB4.out Tryz.underlying48 rfl HF.out ?_) | (refine wpList_store_row_w rfl 48 (.tmp 4) (.tmp 37) rfl (w.heap.size+1+1) rfl _ _ xs rfl Z4.out HF.out (by exact Hsz.out) H1.out ?_))
     have o3:=fun k (hk:k ≠ w.heap.size+1+1)=>setRow_other V4 (w.heap.size+1+1) k xs hk
     refine leaves_four ((o3 D3 (by omega)).trans M3.out) ((o3 D2 (by omega)).trans M2.out) ((o3 D1 (by omega)).trans M1.out) ((o3 D0 (by omega)).trans M0.out) (by omega) (by omega) (by omega) ?_
     refine ⟨.agg xs,results_cell_row Tryz.results236 _ _ (w.heap.size+1+1) 48 xs (0,0) _ rfl ((World.putObj_heap_other (by omega)).trans ((World.putObj_heap_other (by omega)).trans ((World.putObj_heap_other (by omega)).trans ((World.putObj_heap_other (by omega)).trans (setRow_at V4 _ _ _ xs Z4.out))))) Tryz.underlying48 rfl HF.out,?_⟩
     exact ⟨by rw [HE.out,HEx.out],put_below (put_below (put_below (put_below (setRow_below L4.out _ (by omega) _) (by omega) _) (by omega) _) (by omega) _) (by omega) _⟩
 iterate 4
  next =>
   intro l pre x X K hI hK
   dsimp only [encP]
   gi_wp2
   exact hK _ _ ((KeepsOthers.alloc _ _).from _) (kp2_below (Nat.lt_of_lt_of_le gBr hI.1.size) (Nat.lt_of_lt_of_le gBn hI.1.size) (bnew _ _)) ⟨hI.1.trans (below_grown (bnew _ _)),hI.2.alloc _⟩ ⟨X.heap.size,hI.1.size,heap_alloc_new _ _,rfl⟩
  next =>
   have q1:(0:Int)<=(i:Int):=by omega
   have q2:(i:Int) < 16:=by omega
   have q3:(0:Int)<=(j:Int):=by omega
   have q4:(j:Int) < 16:=by omega
   have x5:=fun (v:GW X)=>(gw_blk hBk v i).trans hcy
   have z5:=fun (v:GW X)=>(gw_blk hBk v j).trans hcz
   have p5:=fun (v:GW X)=>gw_cells hx2 v 0
   have u5:=fun (v:GW X)=>gw_cells hx2 v 1
   have HG:=hid hG
   have HBk:=hid hBk
   have Hy:=hid hcy
   have Hz:=hid hcz
   clear hG hBk hi hj hy hz ty tz hcy hcz hlen16 hn16 hx2 hrr
   gi_wp2
   refine wpIn_region_pairs (v0:=.int .i64 (i:Int)) (v1:=.int .i64 (j:Int)) rfl rfl rfl rfl rfl rfl rfl rfl (by kernel_rfl) (by kernel_rfl) (by kernel_rfl) ?_ ?_ (.inl ⟨by rfl,fun W=>by go_simp⟩) (.inl ⟨by rfl,fun W=>by go_simp⟩) ?_
   ·rintro ⟨a,w,h⟩
    exact h
   ·intro c a' w' d v h
    exact h
   simp only [List.take_succ_cons,List.take_zero,List.drop_succ_cons,List.drop_zero]
   go_simp
   repeat (first | go_big_quiet_step ((go_at_call 259; exact calm_call (HT.out _))))
   refine wpQuiet_nil ?_
   refine ⟨.int .i64 Zz,.inl ⟨by rfl,fun W=>by go_simp⟩,?_⟩
   rintro ⟨X5,hb5⟩
   dsimp only
   have hB5:=HBk.out.below hb5 HBk.out.lt
   have HB5:=hid hB5
   have HG5:=hid (below_grown (row:=some (w.heap.size+1)) hb5)
   have ce:X5.cell? ⟨w.heap.size+1,i,none⟩=some (.int .i64 y):=(hB5.cell i).trans Hy.out
   have fz:=hB5.frozen i
   have S1:=hid (hB5.set_ i (.int .i64 Y))
   have ce2:(X5.setCell ⟨w.heap.size+1,i,none⟩ (.int .i64 Y)).cell? ⟨w.heap.size+1,j,none⟩=some (.int .i64 z):=by rw [S1.out.cell,List.getElem?_set,if_neg hne]; exact Hz.out
   have fz2:=S1.out.frozen j
   clear hb5 hB5 x5 z5 p5 u5
   go_wp2
   have G:X.grownBy ((X5.setCell ⟨w.heap.size+1,i,none⟩ (.int .i64 Y)).setCell ⟨w.heap.size+1,j,none⟩ (.int .i64 Zz)) (some (w.heap.size+1)):=(HG5.out.trans (grown_set _)).trans (grown_set _)
   exact ⟨KeepsFrom.of_grownBy G (fun j e=>by cases e; exact zB),⟨G.block Br (Nat.lt_of_lt_of_le gBr HG.out.size) (by simpa using nBr),G.block Bn (Nat.lt_of_lt_of_le gBn HG.out.size) (by simpa using nBn)⟩,HG.out.trans G,by rw [HSn.out]; exact HSet.out X5 HB5.out⟩
end
section
open Go.RowKit Go.Shelf
attribute [local go_sem] Oper.semAt_some
end
end Go.Proofs.YtnbbfblaipjcmaaGreatDoor
