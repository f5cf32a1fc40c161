/- NetC, NetD, NetE. Conditions: as each theorem states. -/
import Derived.Test.YtnbbfblaipjcmaaGreatDoorPv24
import Derived.Test.YtnbbfblaipjcmaaGreatDoorPv13
set_option maxRecDepth 100000
set_option maxHeartbeats 16000000
namespace Go.Proofs.YtnbbfblaipjcmaaGreatDoor
section
open Go.RowKit Go.Shelf
attribute [local go_sem] Oper.semAt_some
theorem j4 (tv:Array Value) (r:Nat) (w:World):Calls Tryz.prog 188 #[.agg tv,.int .i64 r] w fun e w' =>
  ∃ Br Bn,e=.returned (.func (.func 212) #[] #[.pointer (some ⟨Br,0,none⟩),.pointer (some ⟨Bn,0,none⟩)])/\w.heap.size<=Br/\w.heap.size<=Bn /\
   w'.heap[Br]? = some (.cells #[.int .i64 r] 3 (0,0))/\w'.heap[Bn]? = some (.cells tv 102 (0,0))/\Below w.heap.size w w':=by
 have H:=Lib.hid (wF w (.cells tv 102) (.cells #[.int .i64 r] 3))
 go_enter Tryz.func188,Tryz.ntmps188
 go_wp2
 go_ret
 exact ⟨w.heap.size+1,w.heap.size,rfl,by omega,Nat.le_refl _,H.out.2.1,H.out.1,H.out.2.2.2⟩
theorem gC (r Br Bn:Nat) (tv:Array Value) (w0:World) (hr:r < 4) (ht:CI tv) (hBr:w0.heap[Br]? = some (.cells #[.int .i64 r] 3 (0,0))) (hBn:w0.heap[Bn]? = some (.cells tv 102 (0,0))) :
  SeqStopsK Fence.wide 3 Tryz.prog 212 #[.pointer (some ⟨Br,0,none⟩),.pointer (some ⟨Bn,0,none⟩)] (aBi r) (Kp2 Br Bn) (fun xs=>xs=kK r 16) (fun _=>True) 8 w0:=fun l J Jx W hW _ _ hY h0 =>
 aAc l r Br Bn tv hr ht J Jx hY W (aF hBr hW) (aF hBn hW) h0
def cU (r:Nat) (b:List Int) (x:PI r):List Int:=(b.set x.1 (dG (bgt b x.1) (bgt b (x.1+2 ^ r)) (aQ x.1 r))).set (x.1+2 ^ r) (dU (bgt b x.1) (bgt b (x.1+2 ^ r)) (aQ x.1 r))
def stN (r:Nat) (b:List Int):List Int:=(kK r 16).foldl (cU r) b
theorem yO (r:Nat) (b:List Int) (x:PI r):(cU r b x).length=b.length:=by simp [cU]
theorem oU (r:Nat):∀ (l:List (PI r)) (b:List Int),(l.foldl (cU r) b).length=b.length
 | [],_=>rfl
 | x :: l,b=>by rw [List.foldl_cons,oU r l,yO]
theorem eF {r:Nat} (hr:r < 4) (x:PI r):x.1+2 ^ r < 16:=(iK ⟨r,hr⟩ ⟨x.1,x.2.1⟩ x.2.2).2
theorem aAy {M:Int} {r:Nat} {b:List Int} (hr:r < 4) (hb:b.length=16) (h:Within M b) (x:PI r):Within (2*M+4) (cU r b x):=by
 have h1:=h x.1 x.2.1
 have hm:=eF hr x
 have h2:=h (x.1+2 ^ r) hm
 have hT:=BV ((3*x.1+5*r) % 8) (Nat.mod_lt _ (by decide)) _ _ M h1.1 h1.2 h2.1 h2.2
 intro k hk
 have hk0:=h k hk
 unfold cU aQ
 rw [iU _ _ _ _ (by rw [List.length_set,hb]; exact hm),iU _ _ _ _ (by rw [hb]; exact x.2.1)]
 split
 ·omega
 ·split <;> omega
def PU (M:Int):Nat->Int
 | 0=>M
 | n+1=>2*PU M n+4
theorem yD (M:Int):∀ n,PU (2*M+4) n=PU M (n+1)
 | 0=>rfl
 | n+1=>by rw [PU,yD M n]; rfl
theorem oV {r:Nat} (hr:r < 4):∀ (l:List (PI r)) (b:List Int) (M:Int),b.length=16->Within M b->Within (PU M l.length) (l.foldl (cU r) b)
 | [],_,_,_,h=>h
 | x :: l,b,M,hb,h=>by
  rw [List.foldl_cons,List.length_cons,<-yD]
  exact oV hr l _ _ (by rw [yO,hb]) (aAy hr hb h x)
theorem nX {M:Int} (hM:0<=M/\M<=8000000000) {n:Nat} (hn:n < 8):PU M n<=1099511627776:=by
 have hn8:n=0\/n=1\/n=2\/n=3\/n=4\/n=5\/n=6\/n=7:=by omega
 rcases hn8 with rfl | rfl | rfl | rfl | rfl | rfl | rfl | rfl <;> simp only [PU] <;> omega
theorem Within.turnable {M:Int} {b:List Int} (h:Within M b) (hM:M<=1099511627776) {k:Nat} (hk:k < 16):cJ (bgt b k):=by
 have:=h k hk
 unfold cJ
 omega
theorem fL {β:Type} {W2:World} {g:Nat} {t:TypeId} (f:β->List Value) (hg:g < W2.heap.size):OwnFrom W2.heap.size (fun s W=>W2.grownBy W (some g)/\Blk W g t (f s)):=by
 intro s X Y row ⟨h1,h2⟩ hgr hr
 have hne:∀ k,k < W2.heap.size->some k ≠ row:=fun k hk e=>by
  have:=(hr k e.symm).1
  omega
 refine ⟨⟨hgr.os.trans h1.os,hgr.tape.trans h1.tape,hgr.output.trans h1.output,Nat.le_trans h1.size hgr.size,fun k hk hkg=>?_⟩,?_⟩
 ·exact (hgr.block k (Nat.lt_of_lt_of_le hk h1.size) (hne k hk)).trans (h1.block k hk hkg)
 ·exact h2.grown hgr (hne g hg)
theorem f9 {β:Type} {B N:Nat} {t:TypeId} {cs:Array Value} (A:Nat->Prop):OwnFrom B (fun (_:β) X=>∃ Bx,N<=Bx/\X.heap[Bx]? = some (.cells cs t (0,0))/\A Bx):=by
 intro s X Y row ⟨Bx,h1,h2,h3⟩ hg hr
 refine ⟨Bx,h1,(hg.block Bx (hlt h2) (fun e=>?_)).trans h2,h3⟩
 obtain ⟨_,o,ho,hc⟩:=hr Bx e.symm
 rw [h2] at ho
 injection ho with ho
 subst ho
 cases hc
theorem wT {r:Nat} {b:List Int} (x:PI r) {y z:Int} {t:TurnV} {g:Nat} {ty:TypeId} {W:World} (hy:bgt b x.1=y) (hz:bgt b (x.1+2 ^ r)=z) (ht:aQ x.1 r=t) (h:Blk W g ty (b.map (.int .i64))) :
  Blk ((W.setCell ⟨g,x.1,none⟩ (.int .i64 (dG y z t))).setCell ⟨g,x.1+2 ^ r,none⟩ (.int .i64 (dU y z t))) g ty ((cU r b x).map (.int .i64)):=by
 subst hy hz ht
 unfold cU
 rw [List.map_set,List.map_set]
 exact (h.set_ _ _).set_ _ _
theorem nY (r:Nat) (x:PI r):x.1 ≠ x.1+2 ^ r:=by have:=Nat.two_pow_pos r; omega
theorem aAx {r:Nat} {b:List Int} (hr:r < 4) (hb:b.length=16) (x:PI r) (j:Nat):bgt (cU r b x) j =
  if x.1+2 ^ r=j then dU (bgt b x.1) (bgt b (x.1+2 ^ r)) (aQ x.1 r) else if x.1=j then dG (bgt b x.1) (bgt b (x.1+2 ^ r)) (aQ x.1 r) else bgt b j:=by
 have hm:=eF hr x
 unfold cU
 rw [iU _ _ _ _ (by rw [List.length_set,hb]; exact hm),iU _ _ _ _ (by rw [hb]; exact x.2.1)]
theorem U7 {b:List Int} (r:Nat) (hb:b.length=16):o8 b r 0=b :=
 gG (lK _ _ _) hb fun j hj=>by rw [eH _ _ _ hj,if_neg (by omega)]
theorem JI:∀ (r:Fin 4) (j:Fin 16),jI r.1 j.1 / 2 ^ r.1 % 2=0/\(j.1 / 2 ^ r.1 % 2=0->jI r.1 j.1=j.1)/\(¬ j.1 / 2 ^ r.1 % 2=0->jI r.1 j.1+2 ^ r.1=j.1/\j.1 - 2 ^ r.1=jI r.1 j.1):=by decide +kernel
theorem ON {r:Nat} {b:List Int} (hr:r < 4) (hb:b.length=16):∀ k,k<=16->(kK r k).foldl (cU r) b=o8 b r k
 | 0,_=>(U7 r hb).symm
 | k+1,hk=>by
  have ih:=ON hr hb k (by omega)
  by_cases h:k < 16/\k / 2 ^ r % 2=0
  ·rw [yC h,List.foldl_append,ih]
   refine gG (n:=16) (by rw [List.foldl_cons,List.foldl_nil,yO,lK]) (lK _ _ _) fun j hj=>?_
   have hm:=eF hr ⟨k,h⟩
   obtain ⟨e1,e2,e3⟩:=JI ⟨r,hr⟩ ⟨j,hj⟩
   obtain ⟨f1,f2,f3⟩:=JI ⟨r,hr⟩ ⟨k,h.1⟩
   have hp:=Nat.two_pow_pos r
   simp only at e1 e2 e3 f2 hm
   have fk:=f2 h.2
   have hmk:=iK ⟨r,hr⟩ ⟨k,h.1⟩ h.2
   rw [List.foldl_cons,List.foldl_nil,aAx hr (lK _ _ _)]
   show (if k+2 ^ r=j then _ else if k=j then _ else _)=_
   have b1:bgt (o8 b r k) k=bgt b k:=by rw [eH _ _ _ h.1,if_neg (by omega)]
   have b2:bgt (o8 b r k) (k+2 ^ r)=bgt b (k+2 ^ r):=by
    rw [eH _ _ _ hm,if_neg]
    have:=(U3 r hr k h.1).2.1 h.2
    omega
   show (if k+2 ^ r=j then dU (bgt (o8 b r k) k) (bgt (o8 b r k) (k+2 ^ r)) (aQ k r) else if k=j then dG (bgt (o8 b r k) k) (bgt (o8 b r k) (k+2 ^ r)) (aQ k r) else bgt (o8 b r k) j)=_
   rw [b1,b2]
   by_cases h1:k+2 ^ r=j
   ·subst h1
    have hmt:=(U3 r hr k h.1).2.1 h.2
    rw [if_pos rfl,eH _ _ _ hj,if_pos (by omega),if_neg (by omega),hmt.2.2.2.2]
   ·rw [if_neg h1]
    by_cases h2:k=j
    ·subst h2
     rw [if_pos rfl,eH _ _ _ hj,if_pos (by omega),if_pos h.2]
    ·rw [if_neg h2,eH _ _ _ hj,eH _ _ _ hj]
     by_cases hl:jI r j < k
     ·rw [if_pos hl,if_pos (show jI r j < k+1 by omega)]
     ·have:jI r j ≠ k:=by
       intro e
       by_cases hj0:j / 2 ^ r % 2=0
       ·have:=e2 hj0; omega
       ·have:=e3 hj0; omega
      rw [if_neg hl,if_neg (show ¬ jI r j < k+1 by omega)]
  ·rw [EF h,ih]
   refine gG (n:=16) (lK _ _ _) (lK _ _ _) fun j hj=>?_
   obtain ⟨e1,_⟩:=JI ⟨r,hr⟩ ⟨j,hj⟩
   simp only at e1
   have:jI r j ≠ k:=by
    intro e
    rw [e] at e1
    exact h ⟨by omega,e1⟩
   rw [eH _ _ _ hj,eH _ _ _ hj]
   by_cases hl:jI r j < k
   ·rw [if_pos hl,if_pos (show jI r j < k+1 by omega)]
   ·rw [if_neg hl,if_neg (show ¬ jI r j < k+1 by omega)]
theorem yM {r:Nat} {b:List Int} (hr:r < 4) (hb:b.length=16):stN r b=EK b r:=ON hr hb 16 (by decide)
theorem BL {r:Nat} {b:List Int} (hr:r < 4) (hb:b.length=16):(stN r b).length=16:=by rw [yM hr hb,l9]
theorem wZ {M N:Int} {b:List Int} (hb:b.length=16) (h:Within M b) (hN:3*M+8<=2*N) {r:Nat} (hr:r < 4):Within N (stN r b):=by rw [yM hr hb]; exact o7 h hN hr
theorem aDI {b:List Int} (hb:b.length=16):stN 3 (stN 2 (stN 1 (stN 0 b)))=nO b:=by
 rw [yM (r:=0) (by decide) hb,yM (r:=1) (by decide) (l9 _ _),yM (r:=2) (by decide) (l9 _ _),yM (r:=3) (by decide) (l9 _ _)]
 rfl
theorem j5 {B:Nat} {w0 W:World} (h:Below B w0 W) {D:Nat} (hD:B<=D) (o:Obj):Below B w0 (W.putObj D o) :=
 h.trans ⟨rfl,rfl,rfl,by simp,fun k hk=>World.putObj_heap_other (by omega)⟩
theorem zY {F:Fence} {n:Nat} {P:Program} {fn:Func} {tmps:Array Value} {R:Ending->World->Prop} {U:World} {D3 D2 D1 D0:Nat} (h3:U.heap[D3]? = some (.deferred (some []))) (h2:U.heap[D2]? = some (.deferred (some []))) (h1:U.heap[D1]? = some (.deferred (some []))) (h0:U.heap[D0]? = some (.deferred (some [])))
  (l1:D0 < D1) (l2:D1 < D2) (l3:D2 < D3)
  (h:LeavesIn F n P fn tmps R [] .returning ((((U.putObj D3 (.deferred none)).putObj D2 (.deferred none)).putObj D1 (.deferred none)).putObj D0 (.deferred none))) :
  LeavesInM F n P fn tmps R [{ target:=.collected D3,args:=#[] },{ target:=.collected D2,args:=#[] },{ target:=.collected D1,args:=#[] },{ target:=.collected D0,args:=#[] }] .returning U:=by
 refine ⟨by simp,.inl ⟨_,_,rfl,run_takeDeferred h3,?_⟩⟩
 refine ⟨by simp,.inl ⟨_,_,rfl,run_takeDeferred ((World.putObj_heap_other (by omega)).trans h2),?_⟩⟩
 refine ⟨by simp,.inl ⟨_,_,rfl,run_takeDeferred ((World.putObj_heap_other (by omega)).trans ((World.putObj_heap_other (by omega)).trans h1)),?_⟩⟩
 refine ⟨by simp,.inl ⟨_,_,rfl,run_takeDeferred ((World.putObj_heap_other (by omega)).trans ((World.putObj_heap_other (by omega)).trans ((World.putObj_heap_other (by omega)).trans h0))),?_⟩⟩
 exact h
/-! The way back. -/
def dP (r:Nat) (b:List Int) (x:PI r):List Int:=(b.set x.1 (unA (bgt b x.1) (bgt b (x.1+2 ^ r)) (aQ x.1 r))).set (x.1+2 ^ r) (unB (bgt b x.1) (bgt b (x.1+2 ^ r)) (aQ x.1 r))
def stU (r:Nat) (b:List Int):List Int:=(kK r 16).foldl (dP r) b
theorem yP (r:Nat) (b:List Int) (x:PI r):(dP r b x).length=b.length:=by simp [dP]
theorem oW (r:Nat):∀ (l:List (PI r)) (b:List Int),(l.foldl (dP r) b).length=b.length
 | [],_=>rfl
 | x :: l,b=>by rw [List.foldl_cons,oW r l,yP]
theorem J5 {r:Nat} {b:List Int} (hr:r < 4) (hb:b.length=16) (x:PI r) (j:Nat):bgt (dP r b x) j =
  if x.1+2 ^ r=j then unB (bgt b x.1) (bgt b (x.1+2 ^ r)) (aQ x.1 r) else if x.1=j then unA (bgt b x.1) (bgt b (x.1+2 ^ r)) (aQ x.1 r) else bgt b j:=by
 have hm:=eF hr x
 unfold dP
 rw [iU _ _ _ _ (by rw [List.length_set,hb]; exact hm),iU _ _ _ _ (by rw [hb]; exact x.2.1)]
theorem aAz {M:Int} {r:Nat} {b:List Int} (hr:r < 4) (hb:b.length=16) (h:Within M b) (x:PI r):Within (2*M+4) (dP r b x):=by
 have h1:=h x.1 x.2.1
 have hm:=eF hr x
 have h2:=h (x.1+2 ^ r) hm
 have hT:=vR ((3*x.1+5*r) % 8) (Nat.mod_lt _ (by decide)) _ _ M h1.1 h1.2 h2.1 h2.2
 intro k hk
 have hk0:=h k hk
 rw [J5 hr hb]
 unfold aQ
 split
 ·omega
 ·split <;> omega
theorem oX {r:Nat} (hr:r < 4):∀ (l:List (PI r)) (b:List Int) (M:Int),b.length=16->Within M b->Within (PU M l.length) (l.foldl (dP r) b)
 | [],_,_,_,h=>h
 | x :: l,b,M,hb,h=>by
  rw [List.foldl_cons,List.length_cons,<-yD]
  exact oX hr l _ _ (by rw [yP,hb]) (aAz hr hb h x)
theorem tB {r:Nat} {b:List Int} (x:PI r) {y z:Int} {t:TurnV} {g:Nat} {ty:TypeId} {W:World} (hy:bgt b x.1=y) (hz:bgt b (x.1+2 ^ r)=z) (ht:aQ x.1 r=t) (h:Blk W g ty (b.map (.int .i64))) :
  Blk ((W.setCell ⟨g,x.1,none⟩ (.int .i64 (unA y z t))).setCell ⟨g,x.1+2 ^ r,none⟩ (.int .i64 (unB y z t))) g ty ((dP r b x).map (.int .i64)):=by
 subst hy hz ht
 unfold dP
 rw [List.map_set,List.map_set]
 exact (h.set_ _ _).set_ _ _
theorem S0 {b:List Int} (r:Nat) (hb:b.length=16):mS b r 0=b :=
 gG (lA _ _ _) hb fun j hj=>by rw [gT _ _ _ hj,if_neg (by omega)]
theorem OM {r:Nat} {b:List Int} (hr:r < 4) (hb:b.length=16):∀ k,k<=16->(kK r k).foldl (dP r) b=mS b r k
 | 0,_=>(S0 r hb).symm
 | k+1,hk=>by
  have ih:=OM hr hb k (by omega)
  by_cases h:k < 16/\k / 2 ^ r % 2=0
  ·rw [yC h,List.foldl_append,ih]
   refine gG (n:=16) (by rw [List.foldl_cons,List.foldl_nil,yP,lA]) (lA _ _ _) fun j hj=>?_
   have hm:=eF hr ⟨k,h⟩
   obtain ⟨e1,e2,e3⟩:=JI ⟨r,hr⟩ ⟨j,hj⟩
   obtain ⟨f1,f2,f3⟩:=JI ⟨r,hr⟩ ⟨k,h.1⟩
   have hp:=Nat.two_pow_pos r
   simp only at e1 e2 e3 f2 hm
   have fk:=f2 h.2
   have hmk:=iK ⟨r,hr⟩ ⟨k,h.1⟩ h.2
   rw [List.foldl_cons,List.foldl_nil,J5 hr (lA _ _ _)]
   show (if k+2 ^ r=j then _ else if k=j then _ else _)=_
   have b1:bgt (mS b r k) k=bgt b k:=by rw [gT _ _ _ h.1,if_neg (by omega)]
   have b2:bgt (mS b r k) (k+2 ^ r)=bgt b (k+2 ^ r):=by
    rw [gT _ _ _ hm,if_neg]
    have:=(U3 r hr k h.1).2.1 h.2
    omega
   show (if k+2 ^ r=j then unB (bgt (mS b r k) k) (bgt (mS b r k) (k+2 ^ r)) (aQ k r) else if k=j then unA (bgt (mS b r k) k) (bgt (mS b r k) (k+2 ^ r)) (aQ k r) else bgt (mS b r k) j)=_
   rw [b1,b2]
   by_cases h1:k+2 ^ r=j
   ·subst h1
    have hmt:=(U3 r hr k h.1).2.1 h.2
    rw [if_pos rfl,gT _ _ _ hj,if_pos (by omega),if_neg (by omega),hmt.2.2.2.2]
   ·rw [if_neg h1]
    by_cases h2:k=j
    ·subst h2
     rw [if_pos rfl,gT _ _ _ hj,if_pos (by omega),if_pos h.2]
    ·rw [if_neg h2,gT _ _ _ hj,gT _ _ _ hj]
     by_cases hl:jI r j < k
     ·rw [if_pos hl,if_pos (show jI r j < k+1 by omega)]
     ·have:jI r j ≠ k:=by
       intro e
       by_cases hj0:j / 2 ^ r % 2=0
       ·have:=e2 hj0; omega
       ·have:=e3 hj0; omega
      rw [if_neg hl,if_neg (show ¬ jI r j < k+1 by omega)]
  ·rw [EF h,ih]
   refine gG (n:=16) (lA _ _ _) (lA _ _ _) fun j hj=>?_
   obtain ⟨e1,_⟩:=JI ⟨r,hr⟩ ⟨j,hj⟩
   simp only at e1
   have:jI r j ≠ k:=by
    intro e
    rw [e] at e1
    exact h ⟨by omega,e1⟩
   rw [gT _ _ _ hj,gT _ _ _ hj]
   by_cases hl:jI r j < k
   ·rw [if_pos hl,if_pos (show jI r j < k+1 by omega)]
   ·rw [if_neg hl,if_neg (show ¬ jI r j < k+1 by omega)]
theorem yN {r:Nat} {b:List Int} (hr:r < 4) (hb:b.length=16):stU r b=CT b r:=OM hr hb 16 (by decide)
theorem BM {r:Nat} {b:List Int} (hr:r < 4) (hb:b.length=16):(stU r b).length=16:=by rw [yN hr hb,rM]
theorem xA {M N:Int} {b:List Int} (hb:b.length=16) (h:Within M b) (hN:3*M+8<=2*N) {r:Nat} (hr:r < 4):Within N (stU r b):=by rw [yN hr hb]; exact oN h hN hr
theorem aDJ {b:List Int} (hb:b.length=16):stU 0 (stU 1 (stU 2 (stU 3 b)))=kJ b:=by
 rw [yN (r:=3) (by decide) hb,yN (r:=2) (by decide) (rM _ _),yN (r:=1) (by decide) (rM _ _),yN (r:=0) (by decide) (rM _ _)]
 rfl
end
section
open Go.Lib (hid)
open Go.RowKit Go.Shelf
attribute [local go_sem] Oper.semAt_some
theorem MU (tv:Array Value) (b:List Int) (M:Int) (w:World) (hts:tv.size=16) (ht:CI tv) (hb:b.length=16) (hM:0<=M/\M<=2147483648) (hl:Within M b) :
  Calls Tryz.prog 236 #[.agg tv,aT b] w fun e w'=>e=.returned (aT (stN 3 (stN 2 (stN 1 (stN 0 b)))))/\Below w.heap.size w w':=by
 have Ht:=hid ht
 have HFt:=hid (show (Tryz.prog.info? 102).map (·.size)=some tv.size by rw [hts]; kernel_rfl)
 have H3:=hid (zU w (.cells tv 102) (.cells (b.map (Value.int .i64)).toArray 48) (.cells #[Value.int IntKind.i64 0,Value.int IntKind.i64 0,Value.int IntKind.i64 0,Value.int IntKind.i64 0,Value.int IntKind.i64 0,Value.int IntKind.i64 0,Value.int IntKind.i64 0,Value.int IntKind.i64 0,Value.int IntKind.i64 0,Value.int IntKind.i64 0,Value.int IntKind.i64 0,Value.int IntKind.i64 0,Value.int IntKind.i64 0,Value.int IntKind.i64 0,Value.int IntKind.i64 0,Value.int IntKind.i64 0] 48))
 have Hb0:=hid hb
 have Hl0:=hid (show Within M b from hl)
 have HM0:=hid hM
 clear ht hts hb hl hM
 unfold aT
 obtain ⟨bv,hbv⟩:∃ bv,(b.map (Value.int .i64)).toArray=bv:=⟨_,rfl⟩
 rw [hbv] at H3 ⊢
 have Hbv:=hid hbv
 clear hbv
 refine (callsIn_wide (n:=4)).1 ?_
 refine callsIn_of_wp_marks Tryz.func236 rfl trivial ?_ rfl
 refine wpIn_wide.2 ?_
 simp only [Tryz.ntmps236,List.size_toArray,List.length_cons,List.length_nil,Nat.reduceAdd,Nat.reduceSub,Array.replicate_succ,Array.replicate_zero,List.push_toArray,List.append_toArray,List.nil_append,List.cons_append]
 go_wp2_with fail
 obtain ⟨V0,hV0⟩:∃ V,((w.alloc (.cells tv 102)).alloc (.cells bv 48)).alloc (.cells #[Value.int IntKind.i64 0,Value.int IntKind.i64 0,Value.int IntKind.i64 0,Value.int IntKind.i64 0,Value.int IntKind.i64 0,Value.int IntKind.i64 0,Value.int IntKind.i64 0,Value.int IntKind.i64 0,Value.int IntKind.i64 0,Value.int IntKind.i64 0,Value.int IntKind.i64 0,Value.int IntKind.i64 0,Value.int IntKind.i64 0,Value.int IntKind.i64 0,Value.int IntKind.i64 0,Value.int IntKind.i64 0] 48)=V:=⟨_,rfl⟩
 rw [hV0] at H3 ⊢
 clear hV0
 have N0:=hid H3.out.1
 have B0:=hid (show Blk V0 (w.heap.size+1) 48 (b.map (.int .i64)) by unfold Blk; rw [Hbv.out]; exact H3.out.2.1)
 have Z0:=hid H3.out.2.2.1
 have z0:w.heap.size+3<=V0.heap.size:=Nat.le_of_eq H3.out.2.2.2.1.symm
 have L0:=hid H3.out.2.2.2.2
 clear H3 Hbv
 refine wp_loop_rounds 5 ?_
 have HP:=hid (fun W=>j4 tv 0 W)
 rw [rounds_succ]
 go_wp2_with (first | (go_at_call 188; fail) | (refine aB rfl 102 (.tmp 2) rfl w.heap.size rfl _ tv _ _ (aF N0.out (aL _ _)) Tryz.underlying102 rfl HFt.out ?_))
 refine (HP.out _).mono ?_
 clear HP
 rintro e W0 ⟨Br,Bn,rfl,hz1,hz2,hBr,hBn,hb1⟩
 have L:=hid (aC (aL V0 (.cells #[.int .i64 0] 3)) hb1)
 have hXr:=aF (heap_alloc_new V0 (.cells #[.int .i64 0] 3)) hb1
 have Xr:=hid hXr
 have XB:=hid (B0.out.below L.out B0.out.lt)
 have gBr:=hlt hBr
 have gBn:=hlt hBn
 have nBr:Br ≠ w.heap.size+1:=by simp at hz1; omega
 have nBn:Bn ≠ w.heap.size+1:=by simp at hz2; omega
 have zB:w.heap.size+1 < W0.heap.size:=by have:=L.out.size; omega
 have nR:V0.heap.size ≠ w.heap.size+1:=by omega
 have KBr:=hid hBr
 have KBn:=hid hBn
 clear hb1 hz1 hz2 hXr hBr hBn
 go_wp2_with fail
 refine (wpIn_wide (n:=4)).1 ?_
 refine wpIn_rangeFunc_ownH (n:=4) rfl (by decide) (gf:=212) (lb:=#[.pointer (some ⟨Br,0,none⟩),.pointer (some ⟨Bn,0,none⟩)]) rfl trivial (enters_of Tryz.func212 (by kernel_rfl) rfl) (gC 0 Br Bn tv W0 (by decide) Ht.out KBr.out KBn.out) wJ (zV gBr gBn) (Below.refl _ _) (fun _=>rfl)
  (fun (pre:List (PI 0)) X=>W0.grownBy X (some (w.heap.size+1))/\Blk X (w.heap.size+1) 48 ((pre.foldl (cU 0) (b)).map (.int .i64))) (fun _ _ _=>False)
  (fL (fun (pre:List (PI 0))=>(pre.foldl (cU 0) (b)).map (.int .i64)) zB) (fun _ _ _ _ _ h _ _=>h) ⟨dR (Below.refl _ _),XB.out⟩
  (fun (x:PI 0) a' X=>∃ Bx,W0.heap.size<=Bx/\X.heap[Bx]? = some (.cells #[.int .i64 (aQ x.1 0).p,.int .i64 (aQ x.1 0).u] 97 (0,0)) /\
   a'={ tmps:=#[.agg tv,.agg bv,.pointer (some ⟨w.heap.size,0,none⟩),.pointer (some ⟨w.heap.size+1,0,none⟩),.pointer (some ⟨w.heap.size+1+1,0,none⟩),.pointer (some ⟨V0.heap.size,0,none⟩),.int .i64 (x.1:Int),.pointer (some ⟨Bx,0,none⟩),undef,.int .i64 0,.bool true,.int .i64 0,.agg tv,.int .i64 0,.func (.func 212) #[] #[.pointer (some ⟨Br,0,none⟩),.pointer (some ⟨Bn,0,none⟩)],.int .i64 (x.1:Int),.agg #[.int .i64 (aQ x.1 0).p,.int .i64 (aQ x.1 0).u],undef,undef,undef,undef,undef,undef,undef,undef,undef,undef,undef,undef,undef,undef,undef,undef,undef,undef,undef,undef,undef],defers:=[] })
  (fun x a'=>f9 _) ?_ ?_ ?_ ?_
 rotate_left 1
 rintro l pre x a' X hl ⟨rr,hrr⟩ ⟨hG,hBk⟩ ⟨Bx,hx1,hx2,rfl⟩ hlen
 have HLm:=hid (oV (r:=0) (by decide) pre (b) _ Hb0.out Hl0.out)
 have hlen16:(pre.foldl (cU 0) (b)).length=16:=by rw [oU]; exact Hb0.out
 have HSt:=hid (show pre.foldl (cU 0) (b)=pre.foldl (cU 0) (b) from rfl)
 have HSn:=hid (show (pre ++ [x]).foldl (cU 0) (b)=cU 0 (pre.foldl (cU 0) (b)) x by rw [List.foldl_append]; rfl)
 obtain ⟨sb,hsb⟩:∃ sb,pre.foldl (cU 0) (b)=sb:=⟨_,rfl⟩
 rw [hsb] at hBk HLm hlen16 HSn
 clear HSt hsb
 have hi16:=x.2.1
 have hm:=eF (r:=0) (by decide) x
 have hor:bits .or .i64 (x.1:Int) 1=((x.1+2 ^ 0:Nat):Int):=(iK ⟨0,by decide⟩ ⟨x.1,hi16⟩ x.2.2).1
 have hne:=nY 0 x
 obtain ⟨y,hy⟩:=aE hlen16 hi16
 obtain ⟨z,hz⟩:=aE hlen16 hm
 have HLc:=nX (M:=M) (by have:=HM0.out; omega) hlen
 have ty:cJ y:=by have:=HLm.out.turnable HLc hi16; rwa [aD hy] at this
 have tz:cJ z:=by have:=HLm.out.turnable HLc hm; rwa [aD hz] at this
 have HT:=hid (fun W=>kL y z (aQ x.1 0) W (iQ (Nat.mod_lt _ (by decide))) ty tz)
 have HSet:=hid (fun (W:World) (h:Blk W (w.heap.size+1) 48 (sb.map (.int .i64)))=>wT x (aD hy) (aD hz) rfl h)
 have hcy:(sb.map (Value.int .i64))[x.1]? = some (.int .i64 y):=by rw [List.getElem?_map,hy]; rfl
 have hcz:(sb.map (Value.int .i64))[x.1+2 ^ 0]? = some (.int .i64 z):=by rw [List.getElem?_map,hz]; rfl
 have hn16:sb.length=16:=hlen16
 have Hlen:=hid hlen16
 generalize dG y z (aQ x.1 0)=Y at *
 generalize dU y z (aQ x.1 0)=Zz at *
 generalize aQ x.1 0=tk at *
 obtain ⟨p,u⟩:=tk
 simp only at HT hx2
 obtain ⟨i,hi⟩:∃ i:Nat,x.1=i:=⟨_,rfl⟩
 obtain ⟨j,hj⟩:∃ j:Nat,x.1+2 ^ 0=j:=⟨_,rfl⟩
 rw [hj] at hm hor hne hcz HSet
 rw [hi] at hi16 hor hne hcy HSet ⊢
 have cr:X.cell? ⟨V0.heap.size,0,none⟩=some (.int .i64 0):=cell_of_row X _ 0 _ _ _ ((hG.block _ (hlt Xr.out) (by simpa using nR)).trans Xr.out)
 rotate_left 1
 case refine_4=>exact fun D c pre X _ _ h=>h.elim
 focus
  rintro D0 ys V1 hD0 rfl ⟨hG,hBk⟩ hK
  have d0:w.heap.size+3<=D0:=by have:=L.out.size; omega
  have v0:D0 < V1.heap.size:=hlt hK
  have M0:=hid hK
  have N1:=hid ((hG.block _ (hlt (aF N0.out L.out)) (by simp)).trans (aF N0.out L.out))
  have B1:=hid (show Blk V1 (w.heap.size+1) 48 ((stN 0 (b)).map (.int .i64)) from hBk)
  have Z1:=hid ((hG.block _ (hlt (aF Z0.out L.out)) (by simp)).trans (aF Z0.out L.out))
  have z1:w.heap.size+3<=V1.heap.size:=by have:=L.out.size; have:=hG.size; omega
  have L1:=hid ((aC L0.out L.out).grown hG (by have:=L.out.size; omega) (fun k e=>by cases e; omega))
  have Hb1:=hid (BL (r:=0) (by decide) Hb0.out)
  have Hl1:=hid (wZ (r:=0) (M:=M) (N:=(3*M+9) / 2) Hb0.out Hl0.out (by have:=HM0.out; omega) (by decide))
  obtain ⟨S1,hSq⟩:∃ S,stN 0 (b)=S:=⟨_,rfl⟩
  rw [hSq] at B1 Hb1 Hl1
  have E1:=hid hSq
  clear hSq
  clear hG hBk hK hD0 L Xr XB gBr gBn nBr nBn zB nR KBr KBn z0 N0 B0 Z0 L0 Hb0 Hl0
  go_wp2_with fail
  have HP:=hid (fun W=>j4 tv 1 W)
  rw [rounds_succ]
  go_wp2_with (first | (go_at_call 188; fail) | (refine aB rfl 102 (.tmp 2) rfl w.heap.size rfl _ tv _ _ (aF N1.out (aL _ _)) Tryz.underlying102 rfl HFt.out ?_))
  refine (HP.out _).mono ?_
  clear HP
  rintro e W1 ⟨Br,Bn,rfl,hz1,hz2,hBr,hBn,hb1⟩
  have L:=hid (aC (aL V1 (.cells #[.int .i64 1] 3)) hb1)
  have hXr:=aF (heap_alloc_new V1 (.cells #[.int .i64 1] 3)) hb1
  have Xr:=hid hXr
  have XB:=hid (B1.out.below L.out B1.out.lt)
  have gBr:=hlt hBr
  have gBn:=hlt hBn
  have nBr:Br ≠ w.heap.size+1:=by simp at hz1; omega
  have nBn:Bn ≠ w.heap.size+1:=by simp at hz2; omega
  have zB:w.heap.size+1 < W1.heap.size:=by have:=L.out.size; omega
  have nR:V1.heap.size ≠ w.heap.size+1:=by omega
  have KBr:=hid hBr
  have KBn:=hid hBn
  clear hb1 hz1 hz2 hXr hBr hBn
  go_wp2_with fail
  refine (wpIn_wide (n:=4)).1 ?_
  refine wpIn_rangeFunc_ownH (n:=4) rfl (by decide) (gf:=212) (lb:=#[.pointer (some ⟨Br,0,none⟩),.pointer (some ⟨Bn,0,none⟩)]) rfl trivial (enters_of Tryz.func212 (by kernel_rfl) rfl) (gC 1 Br Bn tv W1 (by decide) Ht.out KBr.out KBn.out) wJ (zV gBr gBn) (Below.refl _ _) (fun _=>rfl)
   (fun (pre:List (PI 1)) X=>W1.grownBy X (some (w.heap.size+1))/\Blk X (w.heap.size+1) 48 ((pre.foldl (cU 1) (S1)).map (.int .i64))) (fun _ _ _=>False)
   (fL (fun (pre:List (PI 1))=>(pre.foldl (cU 1) (S1)).map (.int .i64)) zB) (fun _ _ _ _ _ h _ _=>h) ⟨dR (Below.refl _ _),XB.out⟩
   (fun (x:PI 1) a' X=>∃ Bx,W1.heap.size<=Bx/\X.heap[Bx]? = some (.cells #[.int .i64 (aQ x.1 1).p,.int .i64 (aQ x.1 1).u] 97 (0,0)) /\
    a'={ tmps:=#[.agg tv,.agg bv,.pointer (some ⟨w.heap.size,0,none⟩),.pointer (some ⟨w.heap.size+1,0,none⟩),.pointer (some ⟨w.heap.size+1+1,0,none⟩),.pointer (some ⟨V1.heap.size,0,none⟩),.int .i64 (x.1:Int),.pointer (some ⟨Bx,0,none⟩),undef,.int .i64 1,.bool true,.int .i64 1,.agg tv,.int .i64 1,.func (.func 212) #[] #[.pointer (some ⟨Br,0,none⟩),.pointer (some ⟨Bn,0,none⟩)],.int .i64 (x.1:Int),.agg #[.int .i64 (aQ x.1 1).p,.int .i64 (aQ x.1 1).u],undef,undef,undef,undef,undef,undef,undef,undef,undef,undef,undef,undef,undef,undef,undef,undef,undef,undef,undef,.int .i64 1,undef],defers:=[] })
   (fun x a'=>f9 _) ?_ ?_ ?_ ?_
  rotate_left 1
  rintro l pre x a' X hl ⟨rr,hrr⟩ ⟨hG,hBk⟩ ⟨Bx,hx1,hx2,rfl⟩ hlen
  have HLm:=hid (oV (r:=1) (by decide) pre (S1) _ Hb1.out Hl1.out)
  have hlen16:(pre.foldl (cU 1) (S1)).length=16:=by rw [oU]; exact Hb1.out
  have HSt:=hid (show pre.foldl (cU 1) (S1)=pre.foldl (cU 1) (S1) from rfl)
  have HSn:=hid (show (pre ++ [x]).foldl (cU 1) (S1)=cU 1 (pre.foldl (cU 1) (S1)) x by rw [List.foldl_append]; rfl)
  obtain ⟨sb,hsb⟩:∃ sb,pre.foldl (cU 1) (S1)=sb:=⟨_,rfl⟩
  rw [hsb] at hBk HLm hlen16 HSn
  clear HSt hsb
  have hi16:=x.2.1
  have hm:=eF (r:=1) (by decide) x
  have hor:bits .or .i64 (x.1:Int) 2=((x.1+2 ^ 1:Nat):Int):=(iK ⟨1,by decide⟩ ⟨x.1,hi16⟩ x.2.2).1
  have hne:=nY 1 x
  obtain ⟨y,hy⟩:=aE hlen16 hi16
  obtain ⟨z,hz⟩:=aE hlen16 hm
  have HLc:=nX (M:=(3*M+9) / 2) (by have:=HM0.out; omega) hlen
  have ty:cJ y:=by have:=HLm.out.turnable HLc hi16; rwa [aD hy] at this
  have tz:cJ z:=by have:=HLm.out.turnable HLc hm; rwa [aD hz] at this
  have HT:=hid (fun W=>kL y z (aQ x.1 1) W (iQ (Nat.mod_lt _ (by decide))) ty tz)
  have HSet:=hid (fun (W:World) (h:Blk W (w.heap.size+1) 48 (sb.map (.int .i64)))=>wT x (aD hy) (aD hz) rfl h)
  have hcy:(sb.map (Value.int .i64))[x.1]? = some (.int .i64 y):=by rw [List.getElem?_map,hy]; rfl
  have hcz:(sb.map (Value.int .i64))[x.1+2 ^ 1]? = some (.int .i64 z):=by rw [List.getElem?_map,hz]; rfl
  have hn16:sb.length=16:=hlen16
  have Hlen:=hid hlen16
  generalize dG y z (aQ x.1 1)=Y at *
  generalize dU y z (aQ x.1 1)=Zz at *
  generalize aQ x.1 1=tk at *
  obtain ⟨p,u⟩:=tk
  simp only at HT hx2
  obtain ⟨i,hi⟩:∃ i:Nat,x.1=i:=⟨_,rfl⟩
  obtain ⟨j,hj⟩:∃ j:Nat,x.1+2 ^ 1=j:=⟨_,rfl⟩
  rw [hj] at hm hor hne hcz HSet
  rw [hi] at hi16 hor hne hcy HSet ⊢
  have cr:X.cell? ⟨V1.heap.size,0,none⟩=some (.int .i64 1):=cell_of_row X _ 0 _ _ _ ((hG.block _ (hlt Xr.out) (by simpa using nR)).trans Xr.out)
  rotate_left 1
  case refine_4=>exact fun D c pre X _ _ h=>h.elim
  focus
   rintro D1 ys V2 hD1 rfl ⟨hG,hBk⟩ hK
   have d1:w.heap.size+3<=D1:=by have:=L.out.size; omega
   have y1:D0 < D1:=by have:=L.out.size; omega
   have v1:D1 < V2.heap.size:=hlt hK
   have M1:=hid hK
   have M0:=hid ((hG.block _ (hlt (aF M0.out L.out)) (by simp; omega)).trans (aF M0.out L.out))
   have v0:D0 < V2.heap.size:=hlt M0.out
   have N2:=hid ((hG.block _ (hlt (aF N1.out L.out)) (by simp)).trans (aF N1.out L.out))
   have B2:=hid (show Blk V2 (w.heap.size+1) 48 ((stN 1 (S1)).map (.int .i64)) from hBk)
   have Z2:=hid ((hG.block _ (hlt (aF Z1.out L.out)) (by simp)).trans (aF Z1.out L.out))
   have z2:w.heap.size+3<=V2.heap.size:=by have:=L.out.size; have:=hG.size; omega
   have L2:=hid ((aC L1.out L.out).grown hG (by have:=L.out.size; omega) (fun k e=>by cases e; omega))
   have Hb2:=hid (BL (r:=1) (by decide) Hb1.out)
   have Hl2:=hid (wZ (r:=1) (M:=(3*M+9) / 2) (N:=(9*M+56) / 4) Hb1.out Hl1.out (by have:=HM0.out; omega) (by decide))
   obtain ⟨S2,hSq⟩:∃ S,stN 1 (S1)=S:=⟨_,rfl⟩
   rw [hSq] at B2 Hb2 Hl2
   have E2:=hid hSq
   clear hSq
   clear hG hBk hK hD1 L Xr XB gBr gBn nBr nBn zB nR KBr KBn z1 N1 B1 Z1 L1 Hb1 Hl1
   go_wp2_with fail
   have HP:=hid (fun W=>j4 tv 2 W)
   rw [rounds_succ]
   go_wp2_with (first | (go_at_call 188; fail) | (refine aB rfl 102 (.tmp 2) rfl w.heap.size rfl _ tv _ _ (aF N2.out (aL _ _)) Tryz.underlying102 rfl HFt.out ?_))
   refine (HP.out _).mono ?_
   clear HP
   rintro e W2 ⟨Br,Bn,rfl,hz1,hz2,hBr,hBn,hb1⟩
   have L:=hid (aC (aL V2 (.cells #[.int .i64 2] 3)) hb1)
   have hXr:=aF (heap_alloc_new V2 (.cells #[.int .i64 2] 3)) hb1
   have Xr:=hid hXr
   have XB:=hid (B2.out.below L.out B2.out.lt)
   have gBr:=hlt hBr
   have gBn:=hlt hBn
   have nBr:Br ≠ w.heap.size+1:=by simp at hz1; omega
   have nBn:Bn ≠ w.heap.size+1:=by simp at hz2; omega
   have zB:w.heap.size+1 < W2.heap.size:=by have:=L.out.size; omega
   have nR:V2.heap.size ≠ w.heap.size+1:=by omega
   have KBr:=hid hBr
   have KBn:=hid hBn
   clear hb1 hz1 hz2 hXr hBr hBn
   go_wp2_with fail
   refine (wpIn_wide (n:=4)).1 ?_
   refine wpIn_rangeFunc_ownH (n:=4) rfl (by decide) (gf:=212) (lb:=#[.pointer (some ⟨Br,0,none⟩),.pointer (some ⟨Bn,0,none⟩)]) rfl trivial (enters_of Tryz.func212 (by kernel_rfl) rfl) (gC 2 Br Bn tv W2 (by decide) Ht.out KBr.out KBn.out) wJ (zV gBr gBn) (Below.refl _ _) (fun _=>rfl)
    (fun (pre:List (PI 2)) X=>W2.grownBy X (some (w.heap.size+1))/\Blk X (w.heap.size+1) 48 ((pre.foldl (cU 2) (S2)).map (.int .i64))) (fun _ _ _=>False)
    (fL (fun (pre:List (PI 2))=>(pre.foldl (cU 2) (S2)).map (.int .i64)) zB) (fun _ _ _ _ _ h _ _=>h) ⟨dR (Below.refl _ _),XB.out⟩
    (fun (x:PI 2) a' X=>∃ Bx,W2.heap.size<=Bx/\X.heap[Bx]? = some (.cells #[.int .i64 (aQ x.1 2).p,.int .i64 (aQ x.1 2).u] 97 (0,0)) /\
     a'={ tmps:=#[.agg tv,.agg bv,.pointer (some ⟨w.heap.size,0,none⟩),.pointer (some ⟨w.heap.size+1,0,none⟩),.pointer (some ⟨w.heap.size+1+1,0,none⟩),.pointer (some ⟨V2.heap.size,0,none⟩),.int .i64 (x.1:Int),.pointer (some ⟨Bx,0,none⟩),undef,.int .i64 2,.bool true,.int .i64 2,.agg tv,.int .i64 2,.func (.func 212) #[] #[.pointer (some ⟨Br,0,none⟩),.pointer (some ⟨Bn,0,none⟩)],.int .i64 (x.1:Int),.agg #[.int .i64 (aQ x.1 2).p,.int .i64 (aQ x.1 2).u],undef,undef,undef,undef,undef,undef,undef,undef,undef,undef,undef,undef,undef,undef,undef,undef,undef,undef,undef,.int .i64 2,undef],defers:=[] })
    (fun x a'=>f9 _) ?_ ?_ ?_ ?_
   rotate_left 1
   rintro l pre x a' X hl ⟨rr,hrr⟩ ⟨hG,hBk⟩ ⟨Bx,hx1,hx2,rfl⟩ hlen
   have HLm:=hid (oV (r:=2) (by decide) pre (S2) _ Hb2.out Hl2.out)
   have hlen16:(pre.foldl (cU 2) (S2)).length=16:=by rw [oU]; exact Hb2.out
   have HSt:=hid (show pre.foldl (cU 2) (S2)=pre.foldl (cU 2) (S2) from rfl)
   have HSn:=hid (show (pre ++ [x]).foldl (cU 2) (S2)=cU 2 (pre.foldl (cU 2) (S2)) x by rw [List.foldl_append]; rfl)
   obtain ⟨sb,hsb⟩:∃ sb,pre.foldl (cU 2) (S2)=sb:=⟨_,rfl⟩
   rw [hsb] at hBk HLm hlen16 HSn
   clear HSt hsb
   have hi16:=x.2.1
   have hm:=eF (r:=2) (by decide) x
   have hor:bits .or .i64 (x.1:Int) 4=((x.1+2 ^ 2:Nat):Int):=(iK ⟨2,by decide⟩ ⟨x.1,hi16⟩ x.2.2).1
   have hne:=nY 2 x
   obtain ⟨y,hy⟩:=aE hlen16 hi16
   obtain ⟨z,hz⟩:=aE hlen16 hm
   have HLc:=nX (M:=(9*M+56) / 4) (by have:=HM0.out; omega) hlen
   have ty:cJ y:=by have:=HLm.out.turnable HLc hi16; rwa [aD hy] at this
   have tz:cJ z:=by have:=HLm.out.turnable HLc hm; rwa [aD hz] at this
   have HT:=hid (fun W=>kL y z (aQ x.1 2) W (iQ (Nat.mod_lt _ (by decide))) ty tz)
   have HSet:=hid (fun (W:World) (h:Blk W (w.heap.size+1) 48 (sb.map (.int .i64)))=>wT x (aD hy) (aD hz) rfl h)
   have hcy:(sb.map (Value.int .i64))[x.1]? = some (.int .i64 y):=by rw [List.getElem?_map,hy]; rfl
   have hcz:(sb.map (Value.int .i64))[x.1+2 ^ 2]? = some (.int .i64 z):=by rw [List.getElem?_map,hz]; rfl
   have hn16:sb.length=16:=hlen16
   have Hlen:=hid hlen16
   generalize dG y z (aQ x.1 2)=Y at *
   generalize dU y z (aQ x.1 2)=Zz at *
   generalize aQ x.1 2=tk at *
   obtain ⟨p,u⟩:=tk
   simp only at HT hx2
   obtain ⟨i,hi⟩:∃ i:Nat,x.1=i:=⟨_,rfl⟩
   obtain ⟨j,hj⟩:∃ j:Nat,x.1+2 ^ 2=j:=⟨_,rfl⟩
   rw [hj] at hm hor hne hcz HSet
   rw [hi] at hi16 hor hne hcy HSet ⊢
   have cr:X.cell? ⟨V2.heap.size,0,none⟩=some (.int .i64 2):=cell_of_row X _ 0 _ _ _ ((hG.block _ (hlt Xr.out) (by simpa using nR)).trans Xr.out)
   rotate_left 1
   case refine_4=>exact fun D c pre X _ _ h=>h.elim
   focus
    rintro D2 ys V3 hD2 rfl ⟨hG,hBk⟩ hK
    have d2:w.heap.size+3<=D2:=by have:=L.out.size; omega
    have y2:D1 < D2:=by have:=L.out.size; omega
    have v2:D2 < V3.heap.size:=hlt hK
    have M2:=hid hK
    have M0:=hid ((hG.block _ (hlt (aF M0.out L.out)) (by simp; omega)).trans (aF M0.out L.out))
    have v0:D0 < V3.heap.size:=hlt M0.out
    have M1:=hid ((hG.block _ (hlt (aF M1.out L.out)) (by simp; omega)).trans (aF M1.out L.out))
    have v1:D1 < V3.heap.size:=hlt M1.out
    have N3:=hid ((hG.block _ (hlt (aF N2.out L.out)) (by simp)).trans (aF N2.out L.out))
    have B3:=hid (show Blk V3 (w.heap.size+1) 48 ((stN 2 (S2)).map (.int .i64)) from hBk)
    have Z3:=hid ((hG.block _ (hlt (aF Z2.out L.out)) (by simp)).trans (aF Z2.out L.out))
    have z3:w.heap.size+3<=V3.heap.size:=by have:=L.out.size; have:=hG.size; omega
    have L3:=hid ((aC L2.out L.out).grown hG (by have:=L.out.size; omega) (fun k e=>by cases e; omega))
    have Hb3:=hid (BL (r:=2) (by decide) Hb2.out)
    have Hl3:=hid (wZ (r:=2) (M:=(9*M+56) / 4) (N:=(27*M+238) / 8) Hb2.out Hl2.out (by have:=HM0.out; omega) (by decide))
    obtain ⟨S3,hSq⟩:∃ S,stN 2 (S2)=S:=⟨_,rfl⟩
    rw [hSq] at B3 Hb3 Hl3
    have E3:=hid hSq
    clear hSq
    clear hG hBk hK hD2 L Xr XB gBr gBn nBr nBn zB nR KBr KBn z2 N2 B2 Z2 L2 Hb2 Hl2
    go_wp2_with fail
    have HP:=hid (fun W=>j4 tv 3 W)
    rw [rounds_succ]
    go_wp2_with (first | (go_at_call 188; fail) | (refine aB rfl 102 (.tmp 2) rfl w.heap.size rfl _ tv _ _ (aF N3.out (aL _ _)) Tryz.underlying102 rfl HFt.out ?_))
    refine (HP.out _).mono ?_
    clear HP
    rintro e W3 ⟨Br,Bn,rfl,hz1,hz2,hBr,hBn,hb1⟩
    have L:=hid (aC (aL V3 (.cells #[.int .i64 3] 3)) hb1)
    have hXr:=aF (heap_alloc_new V3 (.cells #[.int .i64 3] 3)) hb1
    have Xr:=hid hXr
    have XB:=hid (B3.out.below L.out B3.out.lt)
    have gBr:=hlt hBr
    have gBn:=hlt hBn
    have nBr:Br ≠ w.heap.size+1:=by simp at hz1; omega
    have nBn:Bn ≠ w.heap.size+1:=by simp at hz2; omega
    have zB:w.heap.size+1 < W3.heap.size:=by have:=L.out.size; omega
    have nR:V3.heap.size ≠ w.heap.size+1:=by omega
    have KBr:=hid hBr
    have KBn:=hid hBn
    clear hb1 hz1 hz2 hXr hBr hBn
    go_wp2_with fail
    refine (wpIn_wide (n:=4)).1 ?_
    refine wpIn_rangeFunc_ownH (n:=4) rfl (by decide) (gf:=212) (lb:=#[.pointer (some ⟨Br,0,none⟩),.pointer (some ⟨Bn,0,none⟩)]) rfl trivial (enters_of Tryz.func212 (by kernel_rfl) rfl) (gC 3 Br Bn tv W3 (by decide) Ht.out KBr.out KBn.out) wJ (zV gBr gBn) (Below.refl _ _) (fun _=>rfl)
     (fun (pre:List (PI 3)) X=>W3.grownBy X (some (w.heap.size+1))/\Blk X (w.heap.size+1) 48 ((pre.foldl (cU 3) (S3)).map (.int .i64))) (fun _ _ _=>False)
     (fL (fun (pre:List (PI 3))=>(pre.foldl (cU 3) (S3)).map (.int .i64)) zB) (fun _ _ _ _ _ h _ _=>h) ⟨dR (Below.refl _ _),XB.out⟩
     (fun (x:PI 3) a' X=>∃ Bx,W3.heap.size<=Bx/\X.heap[Bx]? = some (.cells #[.int .i64 (aQ x.1 3).p,.int .i64 (aQ x.1 3).u] 97 (0,0)) /\
      a'={ tmps:=#[.agg tv,.agg bv,.pointer (some ⟨w.heap.size,0,none⟩),.pointer (some ⟨w.heap.size+1,0,none⟩),.pointer (some ⟨w.heap.size+1+1,0,none⟩),.pointer (some ⟨V3.heap.size,0,none⟩),.int .i64 (x.1:Int),.pointer (some ⟨Bx,0,none⟩),undef,.int .i64 3,.bool true,.int .i64 3,.agg tv,.int .i64 3,.func (.func 212) #[] #[.pointer (some ⟨Br,0,none⟩),.pointer (some ⟨Bn,0,none⟩)],.int .i64 (x.1:Int),.agg #[.int .i64 (aQ x.1 3).p,.int .i64 (aQ x.1 3).u],undef,undef,undef,undef,undef,undef,undef,undef,undef,undef,undef,undef,undef,undef,undef,undef,undef,undef,undef,.int .i64 3,undef],defers:=[] })
     (fun x a'=>f9 _) ?_ ?_ ?_ ?_
    rotate_left 1
    rintro l pre x a' X hl ⟨rr,hrr⟩ ⟨hG,hBk⟩ ⟨Bx,hx1,hx2,rfl⟩ hlen
    have HLm:=hid (oV (r:=3) (by decide) pre (S3) _ Hb3.out Hl3.out)
    have hlen16:(pre.foldl (cU 3) (S3)).length=16:=by rw [oU]; exact Hb3.out
    have HSt:=hid (show pre.foldl (cU 3) (S3)=pre.foldl (cU 3) (S3) from rfl)
    have HSn:=hid (show (pre ++ [x]).foldl (cU 3) (S3)=cU 3 (pre.foldl (cU 3) (S3)) x by rw [List.foldl_append]; rfl)
    obtain ⟨sb,hsb⟩:∃ sb,pre.foldl (cU 3) (S3)=sb:=⟨_,rfl⟩
    rw [hsb] at hBk HLm hlen16 HSn
    clear HSt hsb
    have hi16:=x.2.1
    have hm:=eF (r:=3) (by decide) x
    have hor:bits .or .i64 (x.1:Int) 8=((x.1+2 ^ 3:Nat):Int):=(iK ⟨3,by decide⟩ ⟨x.1,hi16⟩ x.2.2).1
    have hne:=nY 3 x
    obtain ⟨y,hy⟩:=aE hlen16 hi16
    obtain ⟨z,hz⟩:=aE hlen16 hm
    have HLc:=nX (M:=(27*M+238) / 8) (by have:=HM0.out; omega) hlen
    have ty:cJ y:=by have:=HLm.out.turnable HLc hi16; rwa [aD hy] at this
    have tz:cJ z:=by have:=HLm.out.turnable HLc hm; rwa [aD hz] at this
    have HT:=hid (fun W=>kL y z (aQ x.1 3) W (iQ (Nat.mod_lt _ (by decide))) ty tz)
    have HSet:=hid (fun (W:World) (h:Blk W (w.heap.size+1) 48 (sb.map (.int .i64)))=>wT x (aD hy) (aD hz) rfl h)
    have hcy:(sb.map (Value.int .i64))[x.1]? = some (.int .i64 y):=by rw [List.getElem?_map,hy]; rfl
    have hcz:(sb.map (Value.int .i64))[x.1+2 ^ 3]? = some (.int .i64 z):=by rw [List.getElem?_map,hz]; rfl
    have hn16:sb.length=16:=hlen16
    have Hlen:=hid hlen16
    generalize dG y z (aQ x.1 3)=Y at *
    generalize dU y z (aQ x.1 3)=Zz at *
    generalize aQ x.1 3=tk at *
    obtain ⟨p,u⟩:=tk
    simp only at HT hx2
    obtain ⟨i,hi⟩:∃ i:Nat,x.1=i:=⟨_,rfl⟩
    obtain ⟨j,hj⟩:∃ j:Nat,x.1+2 ^ 3=j:=⟨_,rfl⟩
    rw [hj] at hm hor hne hcz HSet
    rw [hi] at hi16 hor hne hcy HSet ⊢
    have cr:X.cell? ⟨V3.heap.size,0,none⟩=some (.int .i64 3):=cell_of_row X _ 0 _ _ _ ((hG.block _ (hlt Xr.out) (by simpa using nR)).trans Xr.out)
    rotate_left 1
    case refine_4=>exact fun D c pre X _ _ h=>h.elim
    focus
     rintro D3 ys V4 hD3 rfl ⟨hG,hBk⟩ hK
     have d3:w.heap.size+3<=D3:=by have:=L.out.size; omega
     have y3:D2 < D3:=by have:=L.out.size; omega
     have v3:D3 < V4.heap.size:=hlt hK
     have M3:=hid hK
     have M0:=hid ((hG.block _ (hlt (aF M0.out L.out)) (by simp; omega)).trans (aF M0.out L.out))
     have v0:D0 < V4.heap.size:=hlt M0.out
     have M1:=hid ((hG.block _ (hlt (aF M1.out L.out)) (by simp; omega)).trans (aF M1.out L.out))
     have v1:D1 < V4.heap.size:=hlt M1.out
     have M2:=hid ((hG.block _ (hlt (aF M2.out L.out)) (by simp; omega)).trans (aF M2.out L.out))
     have v2:D2 < V4.heap.size:=hlt M2.out
     have N4:=hid ((hG.block _ (hlt (aF N3.out L.out)) (by simp)).trans (aF N3.out L.out))
     have B4:=hid (show Blk V4 (w.heap.size+1) 48 ((stN 3 (S3)).map (.int .i64)) from hBk)
     have Z4:=hid ((hG.block _ (hlt (aF Z3.out L.out)) (by simp)).trans (aF Z3.out L.out))
     have z4:w.heap.size+3<=V4.heap.size:=by have:=L.out.size; have:=hG.size; omega
     have L4:=hid ((aC L3.out L.out).grown hG (by have:=L.out.size; omega) (fun k e=>by cases e; omega))
     have Hb4:=hid (BL (r:=3) (by decide) Hb3.out)
     have Hl4:=hid (wZ (r:=3) (M:=(27*M+238) / 8) (N:=6*M+60) Hb3.out Hl3.out (by have:=HM0.out; omega) (by decide))
     obtain ⟨S4,hSq⟩:∃ S,stN 3 (S3)=S:=⟨_,rfl⟩
     rw [hSq] at B4 Hb4 Hl4
     have E4:=hid hSq
     clear hSq
     clear hG hBk hK hD3 L Xr XB gBr gBn nBr nBn zB nR KBr KBn z3 N3 B3 Z3 L3 Hb3 Hl3
     go_wp2_with fail
     rw [rounds_succ]
     have hfs:=Hb4.out
     have HE:=hid (show stN 3 (stN 2 (stN 1 (stN 0 b)))=S4 by rw [E1.out,E2.out,E3.out,E4.out])
     have hsz:(S4.map (Value.int .i64)).toArray.size=16:=by simp [hfs]
     have H1:=hid (e9 S4)
     have HB4:=hid (show V4.heap[w.heap.size+1]? = some (.cells (S4.map (Value.int .i64)).toArray 48 (0,0)) from B4.out)
     obtain ⟨xs,hxs⟩:∃ xs,(S4.map (Value.int .i64)).toArray=xs:=⟨_,rfl⟩
     rw [hxs] at hsz H1 HB4
     have HF:=hid (show (Tryz.prog.info? 48).map (·.size)=some xs.size by rw [hsz]; exact bS)
     have HEx:=hid hxs
     have Hsz:=hid (show (16:Nat)=xs.size from hsz.symm)
     clear hsz hxs hfs
     go_wp2_with (first | (refine aB rfl 48 (.tmp 3) rfl (w.heap.size+1) rfl _ xs _ _ HB4.out Tryz.underlying48 rfl HF.out ?_) | (refine aA rfl 48 (.tmp 4) (.tmp 37) rfl (w.heap.size+1+1) rfl _ _ xs rfl Z4.out HF.out (by exact Hsz.out) H1.out ?_))
     have o3:=fun k (hk:k ≠ w.heap.size+1+1)=>setRow_other V4 (w.heap.size+1+1) k xs hk
     refine zY ((o3 D3 (by omega)).trans M3.out) ((o3 D2 (by omega)).trans M2.out) ((o3 D1 (by omega)).trans M1.out) ((o3 D0 (by omega)).trans M0.out) (by omega) (by omega) (by omega) ?_
     refine ⟨.agg xs,results_cell_row Tryz.results236 _ _ (w.heap.size+1+1) 48 xs (0,0) _ rfl ((World.putObj_heap_other (by omega)).trans ((World.putObj_heap_other (by omega)).trans ((World.putObj_heap_other (by omega)).trans ((World.putObj_heap_other (by omega)).trans (bB V4 _ _ _ xs Z4.out))))) Tryz.underlying48 rfl HF.out,?_⟩
     exact ⟨by rw [HE.out,HEx.out],j5 (j5 (j5 (j5 (aO L4.out _ (by omega) _) (by omega) _) (by omega) _) (by omega) _) (by omega) _⟩
 iterate 4
  next =>
   intro l pre x X K hI hK
   dsimp only [aBi]
   gi_wp2
   exact hK _ _ ((KeepsOthers.alloc _ _).from _) (JG (Nat.lt_of_lt_of_le gBr hI.1.size) (Nat.lt_of_lt_of_le gBn hI.1.size) (aL _ _)) ⟨hI.1.trans (dR (aL _ _)),hI.2.alloc _⟩ ⟨X.heap.size,hI.1.size,heap_alloc_new _ _,rfl⟩
  next =>
   have q1:(0:Int)<=(i:Int):=by omega
   have q2:(i:Int) < 16:=by omega
   have q3:(0:Int)<=(j:Int):=by omega
   have q4:(j:Int) < 16:=by omega
   have x5:=fun (v:GW X)=>(jY hBk v i).trans hcy
   have z5:=fun (v:GW X)=>(jY hBk v j).trans hcz
   have p5:=fun (v:GW X)=>dW hx2 v 0
   have u5:=fun (v:GW X)=>dW hx2 v 1
   have HG:=hid hG
   have HBk:=hid hBk
   have Hy:=hid hcy
   have Hz:=hid hcz
   clear hG hBk hi hj hy hz ty tz hcy hcz hlen16 hn16 hx2 hrr
   gi_wp2
   refine oG (v0:=.int .i64 (i:Int)) (v1:=.int .i64 (j:Int)) rfl rfl rfl rfl rfl rfl rfl rfl (by kernel_rfl) (by kernel_rfl) (by kernel_rfl) ?_ ?_ (.inl ⟨by rfl,fun W=>by go_simp⟩) (.inl ⟨by rfl,fun W=>by go_simp⟩) ?_
   ·rintro ⟨a,w,h⟩
    exact h
   ·intro c a' w' d v h
    exact h
   simp only [List.take_succ_cons,List.take_zero,List.drop_succ_cons,List.drop_zero]
   go_simp
   repeat (first | go_big_quiet_step ((go_at_call 259; exact bZ (HT.out _))))
   refine wpQuiet_nil ?_
   refine ⟨.int .i64 Zz,.inl ⟨by rfl,fun W=>by go_simp⟩,?_⟩
   rintro ⟨X5,hb5⟩
   dsimp only
   have hB5:=HBk.out.below hb5 HBk.out.lt
   have HB5:=hid hB5
   have HG5:=hid (dR (row:=some (w.heap.size+1)) hb5)
   have ce:X5.cell? ⟨w.heap.size+1,i,none⟩=some (.int .i64 y):=(hB5.cell i).trans Hy.out
   have fz:=hB5.frozen i
   have S1:=hid (hB5.set_ i (.int .i64 Y))
   have ce2:(X5.setCell ⟨w.heap.size+1,i,none⟩ (.int .i64 Y)).cell? ⟨w.heap.size+1,j,none⟩=some (.int .i64 z):=by rw [S1.out.cell,List.getElem?_set,if_neg hne]; exact Hz.out
   have fz2:=S1.out.frozen j
   clear hb5 hB5 x5 z5 p5 u5
   go_wp2
   have G:X.grownBy ((X5.setCell ⟨w.heap.size+1,i,none⟩ (.int .i64 Y)).setCell ⟨w.heap.size+1,j,none⟩ (.int .i64 Zz)) (some (w.heap.size+1)):=(HG5.out.trans (sS _)).trans (sS _)
   exact ⟨KeepsFrom.of_grownBy G (fun j e=>by cases e; exact zB),⟨G.block Br (Nat.lt_of_lt_of_le gBr HG.out.size) (by simpa using nBr),G.block Bn (Nat.lt_of_lt_of_le gBn HG.out.size) (by simpa using nBn)⟩,HG.out.trans G,by rw [HSn.out]; exact HSet.out X5 HB5.out⟩
end
section
open Go.Lib (hid)
open Go.RowKit Go.Shelf
attribute [local go_sem] Oper.semAt_some
theorem MV (tv:Array Value) (b:List Int) (M:Int) (w:World) (hts:tv.size=16) (ht:CI tv) (hb:b.length=16) (hM:0<=M/\M<=2147483648) (hl:Within M b) :
  Calls Tryz.prog 159 #[.agg tv,aT b] w fun e w'=>e=.returned (aT (stU 0 (stU 1 (stU 2 (stU 3 b)))))/\Below w.heap.size w w':=by
 have Ht:=hid ht
 have HFt:=hid (show (Tryz.prog.info? 102).map (·.size)=some tv.size by rw [hts]; kernel_rfl)
 have H4:=hid (aDs w (.cells tv 102) (.cells (b.map (Value.int .i64)).toArray 48) (.cells #[Value.int IntKind.i64 0,Value.int IntKind.i64 0,Value.int IntKind.i64 0,Value.int IntKind.i64 0,Value.int IntKind.i64 0,Value.int IntKind.i64 0,Value.int IntKind.i64 0,Value.int IntKind.i64 0,Value.int IntKind.i64 0,Value.int IntKind.i64 0,Value.int IntKind.i64 0,Value.int IntKind.i64 0,Value.int IntKind.i64 0,Value.int IntKind.i64 0,Value.int IntKind.i64 0,Value.int IntKind.i64 0] 48) (.cells #[.int .i64 3] 3))
 have Hb0:=hid hb
 have Hl0:=hid hl
 have HM0:=hid hM
 clear ht hts hb hl hM
 unfold aT
 obtain ⟨bv,hbv⟩:∃ bv,(b.map (Value.int .i64)).toArray=bv:=⟨_,rfl⟩
 rw [hbv] at H4 ⊢
 have Hbv:=hid hbv
 clear hbv
 refine (callsIn_wide (n:=4)).1 ?_
 refine callsIn_of_wp_marks Tryz.func159 rfl trivial ?_ rfl
 refine wpIn_wide.2 ?_
 simp only [Tryz.ntmps159,List.size_toArray,List.length_cons,List.length_nil,Nat.reduceAdd,Nat.reduceSub,Array.replicate_succ,Array.replicate_zero,List.push_toArray,List.append_toArray,List.nil_append,List.cons_append]
 go_wp2_with fail
 obtain ⟨V0,hV0⟩:∃ V,(((w.alloc (.cells tv 102)).alloc (.cells bv 48)).alloc (.cells #[Value.int IntKind.i64 0,Value.int IntKind.i64 0,Value.int IntKind.i64 0,Value.int IntKind.i64 0,Value.int IntKind.i64 0,Value.int IntKind.i64 0,Value.int IntKind.i64 0,Value.int IntKind.i64 0,Value.int IntKind.i64 0,Value.int IntKind.i64 0,Value.int IntKind.i64 0,Value.int IntKind.i64 0,Value.int IntKind.i64 0,Value.int IntKind.i64 0,Value.int IntKind.i64 0,Value.int IntKind.i64 0] 48)).alloc (.cells #[.int .i64 3] 3)=V:=⟨_,rfl⟩
 rw [hV0] at H4 ⊢
 clear hV0
 have N0:=hid H4.out.1
 have B0:=hid (show Blk V0 (w.heap.size+1) 48 (b.map (.int .i64)) by unfold Blk; rw [Hbv.out]; exact H4.out.2.1)
 have Z0:=hid H4.out.2.2.1
 obtain ⟨P0,hP0⟩:∃ P,w.heap.size+1+1+1=P:=⟨_,rfl⟩
 rw [hP0] at H4 ⊢
 have X0:=hid H4.out.2.2.2.1
 have p0:w.heap.size+3<=P0:=by omega
 have z0:w.heap.size+3<=V0.heap.size:=by have:=H4.out.2.2.2.2.1; omega
 have L0:=hid H4.out.2.2.2.2.2
 clear H4 Hbv hP0
 refine wp_loop_rounds 5 ?_
 have HP:=hid (fun W=>j4 tv 3 W)
 rw [rounds_succ]
 have c5:V0.cell? ⟨P0,0,none⟩=some (.int .i64 3):=cell_of_row _ _ 0 _ _ _ X0.out
 go_wp2_with (first | (go_at_call 188; fail) | (refine aB rfl 102 (.tmp 2) rfl w.heap.size rfl _ tv _ _ N0.out Tryz.underlying102 rfl HFt.out ?_))
 refine (HP.out _).mono ?_
 clear HP c5
 rintro e W0 ⟨Br,Bn,rfl,hz1,hz2,hBr,hBn,hb1⟩
 have L:=hid hb1
 have Xr:=hid (aF X0.out hb1)
 have XB:=hid (B0.out.below L.out B0.out.lt)
 have gBr:=hlt hBr
 have gBn:=hlt hBn
 have nBr:Br ≠ w.heap.size+1:=by omega
 have nBn:Bn ≠ w.heap.size+1:=by omega
 have zB:w.heap.size+1 < W0.heap.size:=by have:=L.out.size; omega
 have nR:P0 ≠ w.heap.size+1:=by omega
 have KBr:=hid hBr
 have KBn:=hid hBn
 clear hb1 hz1 hz2 hBr hBn
 go_wp2_with fail
 refine (wpIn_wide (n:=4)).1 ?_
 refine wpIn_rangeFunc_ownH (n:=4) rfl (by decide) (gf:=212) (lb:=#[.pointer (some ⟨Br,0,none⟩),.pointer (some ⟨Bn,0,none⟩)]) rfl trivial (enters_of Tryz.func212 (by kernel_rfl) rfl) (gC 3 Br Bn tv W0 (by decide) Ht.out KBr.out KBn.out) wJ (zV gBr gBn) (Below.refl _ _) (fun _=>rfl)
  (fun (pre:List (PI 3)) X=>W0.grownBy X (some (w.heap.size+1))/\Blk X (w.heap.size+1) 48 ((pre.foldl (dP 3) b).map (.int .i64))) (fun _ _ _=>False)
  (fL (fun (pre:List (PI 3))=>(pre.foldl (dP 3) b).map (.int .i64)) zB) (fun _ _ _ _ _ h _ _=>h) ⟨dR (Below.refl _ _),XB.out⟩
  (fun (x:PI 3) a' X=>∃ Bx,W0.heap.size<=Bx/\X.heap[Bx]? = some (.cells #[.int .i64 (aQ x.1 3).p,.int .i64 (aQ x.1 3).u] 97 (0,0)) /\
   a'={ tmps:=#[.agg tv,.agg bv,.pointer (some ⟨w.heap.size,0,none⟩),.pointer (some ⟨w.heap.size+1,0,none⟩),.pointer (some ⟨w.heap.size+1+1,0,none⟩),.pointer (some ⟨P0,0,none⟩),.int .i64 (x.1:Int),.pointer (some ⟨Bx,0,none⟩),undef,.int .i64 3,.bool true,undef,undef,.agg tv,.int .i64 3,.func (.func 212) #[] #[.pointer (some ⟨Br,0,none⟩),.pointer (some ⟨Bn,0,none⟩)],.int .i64 (x.1:Int),.agg #[.int .i64 (aQ x.1 3).p,.int .i64 (aQ x.1 3).u],undef,undef,undef,undef,undef,undef,undef,undef,undef,undef,undef,undef,undef,undef,undef,undef,undef,undef,undef,undef,undef],defers:=[] })
  (fun x a'=>f9 _) ?_ ?_ ?_ ?_
 rotate_left 1
 rintro l pre x a' X hl ⟨rr,hrr⟩ ⟨hG,hBk⟩ ⟨Bx,hx1,hx2,rfl⟩ hlen
 have HLm:=hid (oX (r:=3) (by decide) pre b _ Hb0.out Hl0.out)
 have hlen16:(pre.foldl (dP 3) b).length=16:=by rw [oW]; exact Hb0.out
 have HSn:=hid (show (pre ++ [x]).foldl (dP 3) b=dP 3 (pre.foldl (dP 3) b) x by rw [List.foldl_append]; rfl)
 obtain ⟨sb,hsb⟩:∃ sb,pre.foldl (dP 3) b=sb:=⟨_,rfl⟩
 rw [hsb] at hBk HLm hlen16 HSn
 clear hsb
 have hi16:=x.2.1
 have hm:=eF (r:=3) (by decide) x
 have hor:bits .or .i64 (x.1:Int) 8=((x.1+2 ^ 3:Nat):Int):=(iK ⟨3,by decide⟩ ⟨x.1,hi16⟩ x.2.2).1
 have hne:=nY 3 x
 obtain ⟨y,hy⟩:=aE hlen16 hi16
 obtain ⟨z,hz⟩:=aE hlen16 hm
 have HLc:=nX (M:=M) (by have:=HM0.out; omega) hlen
 have ty:cJ y:=by have:=HLm.out.turnable HLc hi16; rwa [aD hy] at this
 have tz:cJ z:=by have:=HLm.out.turnable HLc hm; rwa [aD hz] at this
 have HT:=hid (fun W=>iX y z (aQ x.1 3) W (iQ (Nat.mod_lt _ (by decide))) ty tz)
 have HSet:=hid (fun (W:World) (h:Blk W (w.heap.size+1) 48 (sb.map (.int .i64)))=>tB x (aD hy) (aD hz) rfl h)
 have hcy:(sb.map (Value.int .i64))[x.1]? = some (.int .i64 y):=by rw [List.getElem?_map,hy]; rfl
 have hcz:(sb.map (Value.int .i64))[x.1+2 ^ 3]? = some (.int .i64 z):=by rw [List.getElem?_map,hz]; rfl
 generalize unA y z (aQ x.1 3)=Y at *
 generalize unB y z (aQ x.1 3)=Zz at *
 generalize aQ x.1 3=tk at *
 obtain ⟨p,u⟩:=tk
 simp only at HT hx2
 obtain ⟨i,hi⟩:∃ i:Nat,x.1=i:=⟨_,rfl⟩
 obtain ⟨j,hj⟩:∃ j:Nat,x.1+2 ^ 3=j:=⟨_,rfl⟩
 rw [hj] at hm hor hne hcz HSet
 rw [hi] at hi16 hor hne hcy HSet ⊢
 have cr:X.cell? ⟨P0,0,none⟩=some (.int .i64 3):=cell_of_row X _ 0 _ _ _ ((hG.block _ (hlt Xr.out) (by simpa using nR)).trans Xr.out)
 rotate_left 1
 case refine_4=>exact fun D c pre X _ _ h=>h.elim
 focus
  rintro D0 ys X hDR rfl ⟨hG,hBk⟩ hK
  have d0:w.heap.size+3<=D0:=by have:=L.out.size; omega
  have v0:D0 < X.heap.size:=hlt hK
  have M0:=hid hK
  have NX:=hid ((hG.block _ (hlt (aF N0.out L.out)) (by simp)).trans (aF N0.out L.out))
  have BX:=hid (show Blk X (w.heap.size+1) 48 ((stU 3 b).map (.int .i64)) from hBk)
  have ZX:=hid ((hG.block _ (hlt (aF Z0.out L.out)) (by simp)).trans (aF Z0.out L.out))
  have zX:w.heap.size+3<=X.heap.size:=by have:=L.out.size; have:=hG.size; omega
  have LX:=hid ((aC L0.out L.out).grown hG (by have:=L.out.size; omega) (fun k e=>by cases e; omega))
  have Hb1:=hid (BM (r:=3) (by decide) Hb0.out)
  have Hl1:=hid (xA (r:=3) (M:=M) (N:=(3*M+9) / 2) Hb0.out Hl0.out (by have:=HM0.out; omega) (by decide))
  have cr:X.cell? ⟨P0,0,none⟩=some (.int .i64 3):=cell_of_row X _ 0 _ _ _ ((hG.block _ (hlt Xr.out) (by simpa using nR)).trans Xr.out)
  obtain ⟨S1,hSq⟩:∃ S,stU 3 b=S:=⟨_,rfl⟩
  rw [hSq] at BX Hb1 Hl1
  have E1:=hid hSq
  clear hSq hG hBk hK hDR L Xr XB gBr gBn nBr nBn zB nR KBr KBn z0 N0 B0 Z0 L0 Hb0 Hl0 X0 p0
  go_wp2_with fail
  obtain ⟨V1,hVn⟩:∃ V,X.alloc (.cells #[.int .i64 2] 3)=V:=⟨_,rfl⟩
  rw [hVn]
  have N1:=hid (hVn ▸ aF NX.out (aL X (.cells #[.int .i64 2] 3)))
  have B1:=hid (hVn ▸ BX.out.alloc (.cells #[.int .i64 2] 3))
  have Z1:=hid (hVn ▸ aF ZX.out (aL X (.cells #[.int .i64 2] 3)))
  have X1:=hid (hVn ▸ heap_alloc_new X (.cells #[.int .i64 2] 3))
  have L1:=hid (hVn ▸ aC LX.out (aL X (.cells #[.int .i64 2] 3)))
  have z1:w.heap.size+3<=V1.heap.size:=by rw [<-hVn,World.size_alloc]; omega
  have M0:=hid (hVn ▸ aF M0.out (aL X (.cells #[.int .i64 2] 3)))
  have v0:D0 < V1.heap.size:=hlt M0.out
  obtain ⟨P1,hPn⟩:∃ P,X.heap.size=P:=⟨_,rfl⟩
  rw [hPn] at X1 ⊢
  have p1:w.heap.size+3<=P1:=by omega
  clear hVn hPn NX BX ZX LX cr zX
  have HP:=hid (fun W=>j4 tv 2 W)
  rw [rounds_succ]
  have c5:V1.cell? ⟨P1,0,none⟩=some (.int .i64 2):=cell_of_row _ _ 0 _ _ _ X1.out
  go_wp2_with (first | (go_at_call 188; fail) | (refine aB rfl 102 (.tmp 2) rfl w.heap.size rfl _ tv _ _ N1.out Tryz.underlying102 rfl HFt.out ?_))
  refine (HP.out _).mono ?_
  clear HP c5
  rintro e W1 ⟨Br,Bn,rfl,hz1,hz2,hBr,hBn,hb1⟩
  have L:=hid hb1
  have Xr:=hid (aF X1.out hb1)
  have XB:=hid (B1.out.below L.out B1.out.lt)
  have gBr:=hlt hBr
  have gBn:=hlt hBn
  have nBr:Br ≠ w.heap.size+1:=by omega
  have nBn:Bn ≠ w.heap.size+1:=by omega
  have zB:w.heap.size+1 < W1.heap.size:=by have:=L.out.size; omega
  have nR:P1 ≠ w.heap.size+1:=by omega
  have KBr:=hid hBr
  have KBn:=hid hBn
  clear hb1 hz1 hz2 hBr hBn
  go_wp2_with fail
  refine (wpIn_wide (n:=4)).1 ?_
  refine wpIn_rangeFunc_ownH (n:=4) rfl (by decide) (gf:=212) (lb:=#[.pointer (some ⟨Br,0,none⟩),.pointer (some ⟨Bn,0,none⟩)]) rfl trivial (enters_of Tryz.func212 (by kernel_rfl) rfl) (gC 2 Br Bn tv W1 (by decide) Ht.out KBr.out KBn.out) wJ (zV gBr gBn) (Below.refl _ _) (fun _=>rfl)
   (fun (pre:List (PI 2)) X=>W1.grownBy X (some (w.heap.size+1))/\Blk X (w.heap.size+1) 48 ((pre.foldl (dP 2) S1).map (.int .i64))) (fun _ _ _=>False)
   (fL (fun (pre:List (PI 2))=>(pre.foldl (dP 2) S1).map (.int .i64)) zB) (fun _ _ _ _ _ h _ _=>h) ⟨dR (Below.refl _ _),XB.out⟩
   (fun (x:PI 2) a' X=>∃ Bx,W1.heap.size<=Bx/\X.heap[Bx]? = some (.cells #[.int .i64 (aQ x.1 2).p,.int .i64 (aQ x.1 2).u] 97 (0,0)) /\
    a'={ tmps:=#[.agg tv,.agg bv,.pointer (some ⟨w.heap.size,0,none⟩),.pointer (some ⟨w.heap.size+1,0,none⟩),.pointer (some ⟨w.heap.size+1+1,0,none⟩),.pointer (some ⟨P1,0,none⟩),.int .i64 (x.1:Int),.pointer (some ⟨Bx,0,none⟩),undef,.int .i64 2,.bool true,.int .i64 3,.int .i64 2,.agg tv,.int .i64 2,.func (.func 212) #[] #[.pointer (some ⟨Br,0,none⟩),.pointer (some ⟨Bn,0,none⟩)],.int .i64 (x.1:Int),.agg #[.int .i64 (aQ x.1 2).p,.int .i64 (aQ x.1 2).u],undef,undef,undef,undef,undef,undef,undef,undef,undef,undef,undef,undef,undef,undef,undef,undef,undef,undef,undef,.int .i64 3,undef],defers:=[] })
   (fun x a'=>f9 _) ?_ ?_ ?_ ?_
  rotate_left 1
  rintro l pre x a' X hl ⟨rr,hrr⟩ ⟨hG,hBk⟩ ⟨Bx,hx1,hx2,rfl⟩ hlen
  have HLm:=hid (oX (r:=2) (by decide) pre S1 _ Hb1.out Hl1.out)
  have hlen16:(pre.foldl (dP 2) S1).length=16:=by rw [oW]; exact Hb1.out
  have HSn:=hid (show (pre ++ [x]).foldl (dP 2) S1=dP 2 (pre.foldl (dP 2) S1) x by rw [List.foldl_append]; rfl)
  obtain ⟨sb,hsb⟩:∃ sb,pre.foldl (dP 2) S1=sb:=⟨_,rfl⟩
  rw [hsb] at hBk HLm hlen16 HSn
  clear hsb
  have hi16:=x.2.1
  have hm:=eF (r:=2) (by decide) x
  have hor:bits .or .i64 (x.1:Int) 4=((x.1+2 ^ 2:Nat):Int):=(iK ⟨2,by decide⟩ ⟨x.1,hi16⟩ x.2.2).1
  have hne:=nY 2 x
  obtain ⟨y,hy⟩:=aE hlen16 hi16
  obtain ⟨z,hz⟩:=aE hlen16 hm
  have HLc:=nX (M:=(3*M+9) / 2) (by have:=HM0.out; omega) hlen
  have ty:cJ y:=by have:=HLm.out.turnable HLc hi16; rwa [aD hy] at this
  have tz:cJ z:=by have:=HLm.out.turnable HLc hm; rwa [aD hz] at this
  have HT:=hid (fun W=>iX y z (aQ x.1 2) W (iQ (Nat.mod_lt _ (by decide))) ty tz)
  have HSet:=hid (fun (W:World) (h:Blk W (w.heap.size+1) 48 (sb.map (.int .i64)))=>tB x (aD hy) (aD hz) rfl h)
  have hcy:(sb.map (Value.int .i64))[x.1]? = some (.int .i64 y):=by rw [List.getElem?_map,hy]; rfl
  have hcz:(sb.map (Value.int .i64))[x.1+2 ^ 2]? = some (.int .i64 z):=by rw [List.getElem?_map,hz]; rfl
  generalize unA y z (aQ x.1 2)=Y at *
  generalize unB y z (aQ x.1 2)=Zz at *
  generalize aQ x.1 2=tk at *
  obtain ⟨p,u⟩:=tk
  simp only at HT hx2
  obtain ⟨i,hi⟩:∃ i:Nat,x.1=i:=⟨_,rfl⟩
  obtain ⟨j,hj⟩:∃ j:Nat,x.1+2 ^ 2=j:=⟨_,rfl⟩
  rw [hj] at hm hor hne hcz HSet
  rw [hi] at hi16 hor hne hcy HSet ⊢
  have cr:X.cell? ⟨P1,0,none⟩=some (.int .i64 2):=cell_of_row X _ 0 _ _ _ ((hG.block _ (hlt Xr.out) (by simpa using nR)).trans Xr.out)
  rotate_left 1
  case refine_4=>exact fun D c pre X _ _ h=>h.elim
  focus
   rintro D1 ys X hDR rfl ⟨hG,hBk⟩ hK
   have d1:w.heap.size+3<=D1:=by have:=L.out.size; omega
   have y1:D0 < D1:=by have:=L.out.size; omega
   have v1:D1 < X.heap.size:=hlt hK
   have M1:=hid hK
   have M0:=hid ((hG.block _ (hlt (aF M0.out L.out)) (by simp; omega)).trans (aF M0.out L.out))
   have v0:D0 < X.heap.size:=hlt M0.out
   have NX:=hid ((hG.block _ (hlt (aF N1.out L.out)) (by simp)).trans (aF N1.out L.out))
   have BX:=hid (show Blk X (w.heap.size+1) 48 ((stU 2 S1).map (.int .i64)) from hBk)
   have ZX:=hid ((hG.block _ (hlt (aF Z1.out L.out)) (by simp)).trans (aF Z1.out L.out))
   have zX:w.heap.size+3<=X.heap.size:=by have:=L.out.size; have:=hG.size; omega
   have LX:=hid ((aC L1.out L.out).grown hG (by have:=L.out.size; omega) (fun k e=>by cases e; omega))
   have Hb2:=hid (BM (r:=2) (by decide) Hb1.out)
   have Hl2:=hid (xA (r:=2) (M:=(3*M+9) / 2) (N:=(9*M+56) / 4) Hb1.out Hl1.out (by have:=HM0.out; omega) (by decide))
   have cr:X.cell? ⟨P1,0,none⟩=some (.int .i64 2):=cell_of_row X _ 0 _ _ _ ((hG.block _ (hlt Xr.out) (by simpa using nR)).trans Xr.out)
   obtain ⟨S2,hSq⟩:∃ S,stU 2 S1=S:=⟨_,rfl⟩
   rw [hSq] at BX Hb2 Hl2
   have E2:=hid hSq
   clear hSq hG hBk hK hDR L Xr XB gBr gBn nBr nBn zB nR KBr KBn z1 N1 B1 Z1 L1 Hb1 Hl1 X1 p1
   go_wp2_with fail
   obtain ⟨V2,hVn⟩:∃ V,X.alloc (.cells #[.int .i64 1] 3)=V:=⟨_,rfl⟩
   rw [hVn]
   have N2:=hid (hVn ▸ aF NX.out (aL X (.cells #[.int .i64 1] 3)))
   have B2:=hid (hVn ▸ BX.out.alloc (.cells #[.int .i64 1] 3))
   have Z2:=hid (hVn ▸ aF ZX.out (aL X (.cells #[.int .i64 1] 3)))
   have X2:=hid (hVn ▸ heap_alloc_new X (.cells #[.int .i64 1] 3))
   have L2:=hid (hVn ▸ aC LX.out (aL X (.cells #[.int .i64 1] 3)))
   have z2:w.heap.size+3<=V2.heap.size:=by rw [<-hVn,World.size_alloc]; omega
   have M0:=hid (hVn ▸ aF M0.out (aL X (.cells #[.int .i64 1] 3)))
   have v0:D0 < V2.heap.size:=hlt M0.out
   have M1:=hid (hVn ▸ aF M1.out (aL X (.cells #[.int .i64 1] 3)))
   have v1:D1 < V2.heap.size:=hlt M1.out
   obtain ⟨P2,hPn⟩:∃ P,X.heap.size=P:=⟨_,rfl⟩
   rw [hPn] at X2 ⊢
   have p2:w.heap.size+3<=P2:=by omega
   clear hVn hPn NX BX ZX LX cr zX
   have HP:=hid (fun W=>j4 tv 1 W)
   rw [rounds_succ]
   have c5:V2.cell? ⟨P2,0,none⟩=some (.int .i64 1):=cell_of_row _ _ 0 _ _ _ X2.out
   go_wp2_with (first | (go_at_call 188; fail) | (refine aB rfl 102 (.tmp 2) rfl w.heap.size rfl _ tv _ _ N2.out Tryz.underlying102 rfl HFt.out ?_))
   refine (HP.out _).mono ?_
   clear HP c5
   rintro e W2 ⟨Br,Bn,rfl,hz1,hz2,hBr,hBn,hb1⟩
   have L:=hid hb1
   have Xr:=hid (aF X2.out hb1)
   have XB:=hid (B2.out.below L.out B2.out.lt)
   have gBr:=hlt hBr
   have gBn:=hlt hBn
   have nBr:Br ≠ w.heap.size+1:=by omega
   have nBn:Bn ≠ w.heap.size+1:=by omega
   have zB:w.heap.size+1 < W2.heap.size:=by have:=L.out.size; omega
   have nR:P2 ≠ w.heap.size+1:=by omega
   have KBr:=hid hBr
   have KBn:=hid hBn
   clear hb1 hz1 hz2 hBr hBn
   go_wp2_with fail
   refine (wpIn_wide (n:=4)).1 ?_
   refine wpIn_rangeFunc_ownH (n:=4) rfl (by decide) (gf:=212) (lb:=#[.pointer (some ⟨Br,0,none⟩),.pointer (some ⟨Bn,0,none⟩)]) rfl trivial (enters_of Tryz.func212 (by kernel_rfl) rfl) (gC 1 Br Bn tv W2 (by decide) Ht.out KBr.out KBn.out) wJ (zV gBr gBn) (Below.refl _ _) (fun _=>rfl)
    (fun (pre:List (PI 1)) X=>W2.grownBy X (some (w.heap.size+1))/\Blk X (w.heap.size+1) 48 ((pre.foldl (dP 1) S2).map (.int .i64))) (fun _ _ _=>False)
    (fL (fun (pre:List (PI 1))=>(pre.foldl (dP 1) S2).map (.int .i64)) zB) (fun _ _ _ _ _ h _ _=>h) ⟨dR (Below.refl _ _),XB.out⟩
    (fun (x:PI 1) a' X=>∃ Bx,W2.heap.size<=Bx/\X.heap[Bx]? = some (.cells #[.int .i64 (aQ x.1 1).p,.int .i64 (aQ x.1 1).u] 97 (0,0)) /\
     a'={ tmps:=#[.agg tv,.agg bv,.pointer (some ⟨w.heap.size,0,none⟩),.pointer (some ⟨w.heap.size+1,0,none⟩),.pointer (some ⟨w.heap.size+1+1,0,none⟩),.pointer (some ⟨P2,0,none⟩),.int .i64 (x.1:Int),.pointer (some ⟨Bx,0,none⟩),undef,.int .i64 1,.bool true,.int .i64 2,.int .i64 1,.agg tv,.int .i64 1,.func (.func 212) #[] #[.pointer (some ⟨Br,0,none⟩),.pointer (some ⟨Bn,0,none⟩)],.int .i64 (x.1:Int),.agg #[.int .i64 (aQ x.1 1).p,.int .i64 (aQ x.1 1).u],undef,undef,undef,undef,undef,undef,undef,undef,undef,undef,undef,undef,undef,undef,undef,undef,undef,undef,undef,.int .i64 2,undef],defers:=[] })
    (fun x a'=>f9 _) ?_ ?_ ?_ ?_
   rotate_left 1
   rintro l pre x a' X hl ⟨rr,hrr⟩ ⟨hG,hBk⟩ ⟨Bx,hx1,hx2,rfl⟩ hlen
   have HLm:=hid (oX (r:=1) (by decide) pre S2 _ Hb2.out Hl2.out)
   have hlen16:(pre.foldl (dP 1) S2).length=16:=by rw [oW]; exact Hb2.out
   have HSn:=hid (show (pre ++ [x]).foldl (dP 1) S2=dP 1 (pre.foldl (dP 1) S2) x by rw [List.foldl_append]; rfl)
   obtain ⟨sb,hsb⟩:∃ sb,pre.foldl (dP 1) S2=sb:=⟨_,rfl⟩
   rw [hsb] at hBk HLm hlen16 HSn
   clear hsb
   have hi16:=x.2.1
   have hm:=eF (r:=1) (by decide) x
   have hor:bits .or .i64 (x.1:Int) 2=((x.1+2 ^ 1:Nat):Int):=(iK ⟨1,by decide⟩ ⟨x.1,hi16⟩ x.2.2).1
   have hne:=nY 1 x
   obtain ⟨y,hy⟩:=aE hlen16 hi16
   obtain ⟨z,hz⟩:=aE hlen16 hm
   have HLc:=nX (M:=(9*M+56) / 4) (by have:=HM0.out; omega) hlen
   have ty:cJ y:=by have:=HLm.out.turnable HLc hi16; rwa [aD hy] at this
   have tz:cJ z:=by have:=HLm.out.turnable HLc hm; rwa [aD hz] at this
   have HT:=hid (fun W=>iX y z (aQ x.1 1) W (iQ (Nat.mod_lt _ (by decide))) ty tz)
   have HSet:=hid (fun (W:World) (h:Blk W (w.heap.size+1) 48 (sb.map (.int .i64)))=>tB x (aD hy) (aD hz) rfl h)
   have hcy:(sb.map (Value.int .i64))[x.1]? = some (.int .i64 y):=by rw [List.getElem?_map,hy]; rfl
   have hcz:(sb.map (Value.int .i64))[x.1+2 ^ 1]? = some (.int .i64 z):=by rw [List.getElem?_map,hz]; rfl
   generalize unA y z (aQ x.1 1)=Y at *
   generalize unB y z (aQ x.1 1)=Zz at *
   generalize aQ x.1 1=tk at *
   obtain ⟨p,u⟩:=tk
   simp only at HT hx2
   obtain ⟨i,hi⟩:∃ i:Nat,x.1=i:=⟨_,rfl⟩
   obtain ⟨j,hj⟩:∃ j:Nat,x.1+2 ^ 1=j:=⟨_,rfl⟩
   rw [hj] at hm hor hne hcz HSet
   rw [hi] at hi16 hor hne hcy HSet ⊢
   have cr:X.cell? ⟨P2,0,none⟩=some (.int .i64 1):=cell_of_row X _ 0 _ _ _ ((hG.block _ (hlt Xr.out) (by simpa using nR)).trans Xr.out)
   rotate_left 1
   case refine_4=>exact fun D c pre X _ _ h=>h.elim
   focus
    rintro D2 ys X hDR rfl ⟨hG,hBk⟩ hK
    have d2:w.heap.size+3<=D2:=by have:=L.out.size; omega
    have y2:D1 < D2:=by have:=L.out.size; omega
    have v2:D2 < X.heap.size:=hlt hK
    have M2:=hid hK
    have M0:=hid ((hG.block _ (hlt (aF M0.out L.out)) (by simp; omega)).trans (aF M0.out L.out))
    have v0:D0 < X.heap.size:=hlt M0.out
    have M1:=hid ((hG.block _ (hlt (aF M1.out L.out)) (by simp; omega)).trans (aF M1.out L.out))
    have v1:D1 < X.heap.size:=hlt M1.out
    have NX:=hid ((hG.block _ (hlt (aF N2.out L.out)) (by simp)).trans (aF N2.out L.out))
    have BX:=hid (show Blk X (w.heap.size+1) 48 ((stU 1 S2).map (.int .i64)) from hBk)
    have ZX:=hid ((hG.block _ (hlt (aF Z2.out L.out)) (by simp)).trans (aF Z2.out L.out))
    have zX:w.heap.size+3<=X.heap.size:=by have:=L.out.size; have:=hG.size; omega
    have LX:=hid ((aC L2.out L.out).grown hG (by have:=L.out.size; omega) (fun k e=>by cases e; omega))
    have Hb3:=hid (BM (r:=1) (by decide) Hb2.out)
    have Hl3:=hid (xA (r:=1) (M:=(9*M+56) / 4) (N:=(27*M+238) / 8) Hb2.out Hl2.out (by have:=HM0.out; omega) (by decide))
    have cr:X.cell? ⟨P2,0,none⟩=some (.int .i64 1):=cell_of_row X _ 0 _ _ _ ((hG.block _ (hlt Xr.out) (by simpa using nR)).trans Xr.out)
    obtain ⟨S3,hSq⟩:∃ S,stU 1 S2=S:=⟨_,rfl⟩
    rw [hSq] at BX Hb3 Hl3
    have E3:=hid hSq
    clear hSq hG hBk hK hDR L Xr XB gBr gBn nBr nBn zB nR KBr KBn z2 N2 B2 Z2 L2 Hb2 Hl2 X2 p2
    go_wp2_with fail
    obtain ⟨V3,hVn⟩:∃ V,X.alloc (.cells #[.int .i64 0] 3)=V:=⟨_,rfl⟩
    rw [hVn]
    have N3:=hid (hVn ▸ aF NX.out (aL X (.cells #[.int .i64 0] 3)))
    have B3:=hid (hVn ▸ BX.out.alloc (.cells #[.int .i64 0] 3))
    have Z3:=hid (hVn ▸ aF ZX.out (aL X (.cells #[.int .i64 0] 3)))
    have X3:=hid (hVn ▸ heap_alloc_new X (.cells #[.int .i64 0] 3))
    have L3:=hid (hVn ▸ aC LX.out (aL X (.cells #[.int .i64 0] 3)))
    have z3:w.heap.size+3<=V3.heap.size:=by rw [<-hVn,World.size_alloc]; omega
    have M0:=hid (hVn ▸ aF M0.out (aL X (.cells #[.int .i64 0] 3)))
    have v0:D0 < V3.heap.size:=hlt M0.out
    have M1:=hid (hVn ▸ aF M1.out (aL X (.cells #[.int .i64 0] 3)))
    have v1:D1 < V3.heap.size:=hlt M1.out
    have M2:=hid (hVn ▸ aF M2.out (aL X (.cells #[.int .i64 0] 3)))
    have v2:D2 < V3.heap.size:=hlt M2.out
    obtain ⟨P3,hPn⟩:∃ P,X.heap.size=P:=⟨_,rfl⟩
    rw [hPn] at X3 ⊢
    have p3:w.heap.size+3<=P3:=by omega
    clear hVn hPn NX BX ZX LX cr zX
    have HP:=hid (fun W=>j4 tv 0 W)
    rw [rounds_succ]
    have c5:V3.cell? ⟨P3,0,none⟩=some (.int .i64 0):=cell_of_row _ _ 0 _ _ _ X3.out
    go_wp2_with (first | (go_at_call 188; fail) | (refine aB rfl 102 (.tmp 2) rfl w.heap.size rfl _ tv _ _ N3.out Tryz.underlying102 rfl HFt.out ?_))
    refine (HP.out _).mono ?_
    clear HP c5
    rintro e W3 ⟨Br,Bn,rfl,hz1,hz2,hBr,hBn,hb1⟩
    have L:=hid hb1
    have Xr:=hid (aF X3.out hb1)
    have XB:=hid (B3.out.below L.out B3.out.lt)
    have gBr:=hlt hBr
    have gBn:=hlt hBn
    have nBr:Br ≠ w.heap.size+1:=by omega
    have nBn:Bn ≠ w.heap.size+1:=by omega
    have zB:w.heap.size+1 < W3.heap.size:=by have:=L.out.size; omega
    have nR:P3 ≠ w.heap.size+1:=by omega
    have KBr:=hid hBr
    have KBn:=hid hBn
    clear hb1 hz1 hz2 hBr hBn
    go_wp2_with fail
    refine (wpIn_wide (n:=4)).1 ?_
    refine wpIn_rangeFunc_ownH (n:=4) rfl (by decide) (gf:=212) (lb:=#[.pointer (some ⟨Br,0,none⟩),.pointer (some ⟨Bn,0,none⟩)]) rfl trivial (enters_of Tryz.func212 (by kernel_rfl) rfl) (gC 0 Br Bn tv W3 (by decide) Ht.out KBr.out KBn.out) wJ (zV gBr gBn) (Below.refl _ _) (fun _=>rfl)
     (fun (pre:List (PI 0)) X=>W3.grownBy X (some (w.heap.size+1))/\Blk X (w.heap.size+1) 48 ((pre.foldl (dP 0) S3).map (.int .i64))) (fun _ _ _=>False)
     (fL (fun (pre:List (PI 0))=>(pre.foldl (dP 0) S3).map (.int .i64)) zB) (fun _ _ _ _ _ h _ _=>h) ⟨dR (Below.refl _ _),XB.out⟩
     (fun (x:PI 0) a' X=>∃ Bx,W3.heap.size<=Bx/\X.heap[Bx]? = some (.cells #[.int .i64 (aQ x.1 0).p,.int .i64 (aQ x.1 0).u] 97 (0,0)) /\
      a'={ tmps:=#[.agg tv,.agg bv,.pointer (some ⟨w.heap.size,0,none⟩),.pointer (some ⟨w.heap.size+1,0,none⟩),.pointer (some ⟨w.heap.size+1+1,0,none⟩),.pointer (some ⟨P3,0,none⟩),.int .i64 (x.1:Int),.pointer (some ⟨Bx,0,none⟩),undef,.int .i64 0,.bool true,.int .i64 1,.int .i64 0,.agg tv,.int .i64 0,.func (.func 212) #[] #[.pointer (some ⟨Br,0,none⟩),.pointer (some ⟨Bn,0,none⟩)],.int .i64 (x.1:Int),.agg #[.int .i64 (aQ x.1 0).p,.int .i64 (aQ x.1 0).u],undef,undef,undef,undef,undef,undef,undef,undef,undef,undef,undef,undef,undef,undef,undef,undef,undef,undef,undef,.int .i64 1,undef],defers:=[] })
     (fun x a'=>f9 _) ?_ ?_ ?_ ?_
    rotate_left 1
    rintro l pre x a' X hl ⟨rr,hrr⟩ ⟨hG,hBk⟩ ⟨Bx,hx1,hx2,rfl⟩ hlen
    have HLm:=hid (oX (r:=0) (by decide) pre S3 _ Hb3.out Hl3.out)
    have hlen16:(pre.foldl (dP 0) S3).length=16:=by rw [oW]; exact Hb3.out
    have HSn:=hid (show (pre ++ [x]).foldl (dP 0) S3=dP 0 (pre.foldl (dP 0) S3) x by rw [List.foldl_append]; rfl)
    obtain ⟨sb,hsb⟩:∃ sb,pre.foldl (dP 0) S3=sb:=⟨_,rfl⟩
    rw [hsb] at hBk HLm hlen16 HSn
    clear hsb
    have hi16:=x.2.1
    have hm:=eF (r:=0) (by decide) x
    have hor:bits .or .i64 (x.1:Int) 1=((x.1+2 ^ 0:Nat):Int):=(iK ⟨0,by decide⟩ ⟨x.1,hi16⟩ x.2.2).1
    have hne:=nY 0 x
    obtain ⟨y,hy⟩:=aE hlen16 hi16
    obtain ⟨z,hz⟩:=aE hlen16 hm
    have HLc:=nX (M:=(27*M+238) / 8) (by have:=HM0.out; omega) hlen
    have ty:cJ y:=by have:=HLm.out.turnable HLc hi16; rwa [aD hy] at this
    have tz:cJ z:=by have:=HLm.out.turnable HLc hm; rwa [aD hz] at this
    have HT:=hid (fun W=>iX y z (aQ x.1 0) W (iQ (Nat.mod_lt _ (by decide))) ty tz)
    have HSet:=hid (fun (W:World) (h:Blk W (w.heap.size+1) 48 (sb.map (.int .i64)))=>tB x (aD hy) (aD hz) rfl h)
    have hcy:(sb.map (Value.int .i64))[x.1]? = some (.int .i64 y):=by rw [List.getElem?_map,hy]; rfl
    have hcz:(sb.map (Value.int .i64))[x.1+2 ^ 0]? = some (.int .i64 z):=by rw [List.getElem?_map,hz]; rfl
    generalize unA y z (aQ x.1 0)=Y at *
    generalize unB y z (aQ x.1 0)=Zz at *
    generalize aQ x.1 0=tk at *
    obtain ⟨p,u⟩:=tk
    simp only at HT hx2
    obtain ⟨i,hi⟩:∃ i:Nat,x.1=i:=⟨_,rfl⟩
    obtain ⟨j,hj⟩:∃ j:Nat,x.1+2 ^ 0=j:=⟨_,rfl⟩
    rw [hj] at hm hor hne hcz HSet
    rw [hi] at hi16 hor hne hcy HSet ⊢
    have cr:X.cell? ⟨P3,0,none⟩=some (.int .i64 0):=cell_of_row X _ 0 _ _ _ ((hG.block _ (hlt Xr.out) (by simpa using nR)).trans Xr.out)
    rotate_left 1
    case refine_4=>exact fun D c pre X _ _ h=>h.elim
    focus
     rintro D3 ys X hDR rfl ⟨hG,hBk⟩ hK
     have d3:w.heap.size+3<=D3:=by have:=L.out.size; omega
     have y3:D2 < D3:=by have:=L.out.size; omega
     have v3:D3 < X.heap.size:=hlt hK
     have M3:=hid hK
     have M0:=hid ((hG.block _ (hlt (aF M0.out L.out)) (by simp; omega)).trans (aF M0.out L.out))
     have v0:D0 < X.heap.size:=hlt M0.out
     have M1:=hid ((hG.block _ (hlt (aF M1.out L.out)) (by simp; omega)).trans (aF M1.out L.out))
     have v1:D1 < X.heap.size:=hlt M1.out
     have M2:=hid ((hG.block _ (hlt (aF M2.out L.out)) (by simp; omega)).trans (aF M2.out L.out))
     have v2:D2 < X.heap.size:=hlt M2.out
     have NX:=hid ((hG.block _ (hlt (aF N3.out L.out)) (by simp)).trans (aF N3.out L.out))
     have BX:=hid (show Blk X (w.heap.size+1) 48 ((stU 0 S3).map (.int .i64)) from hBk)
     have ZX:=hid ((hG.block _ (hlt (aF Z3.out L.out)) (by simp)).trans (aF Z3.out L.out))
     have zX:w.heap.size+3<=X.heap.size:=by have:=L.out.size; have:=hG.size; omega
     have LX:=hid ((aC L3.out L.out).grown hG (by have:=L.out.size; omega) (fun k e=>by cases e; omega))
     have Hb4:=hid (BM (r:=0) (by decide) Hb3.out)
     have Hl4:=hid (xA (r:=0) (M:=(27*M+238) / 8) (N:=6*M+60) Hb3.out Hl3.out (by have:=HM0.out; omega) (by decide))
     have cr:X.cell? ⟨P3,0,none⟩=some (.int .i64 0):=cell_of_row X _ 0 _ _ _ ((hG.block _ (hlt Xr.out) (by simpa using nR)).trans Xr.out)
     obtain ⟨S4,hSq⟩:∃ S,stU 0 S3=S:=⟨_,rfl⟩
     rw [hSq] at BX Hb4 Hl4
     have E4:=hid hSq
     clear hSq hG hBk hK hDR L Xr XB gBr gBn nBr nBn zB nR KBr KBn z3 N3 B3 Z3 L3 Hb3 Hl3 X3 p3
     go_wp2_with fail
     obtain ⟨V4,hVn⟩:∃ V,X.alloc (.cells #[.int .i64 (-1)] 3)=V:=⟨_,rfl⟩
     rw [hVn]
     have N4:=hid (hVn ▸ aF NX.out (aL X (.cells #[.int .i64 (-1)] 3)))
     have B4:=hid (hVn ▸ BX.out.alloc (.cells #[.int .i64 (-1)] 3))
     have Z4:=hid (hVn ▸ aF ZX.out (aL X (.cells #[.int .i64 (-1)] 3)))
     have X4:=hid (hVn ▸ heap_alloc_new X (.cells #[.int .i64 (-1)] 3))
     have L4:=hid (hVn ▸ aC LX.out (aL X (.cells #[.int .i64 (-1)] 3)))
     have z4:w.heap.size+3<=V4.heap.size:=by rw [<-hVn,World.size_alloc]; omega
     have M0:=hid (hVn ▸ aF M0.out (aL X (.cells #[.int .i64 (-1)] 3)))
     have v0:D0 < V4.heap.size:=hlt M0.out
     have M1:=hid (hVn ▸ aF M1.out (aL X (.cells #[.int .i64 (-1)] 3)))
     have v1:D1 < V4.heap.size:=hlt M1.out
     have M2:=hid (hVn ▸ aF M2.out (aL X (.cells #[.int .i64 (-1)] 3)))
     have v2:D2 < V4.heap.size:=hlt M2.out
     have M3:=hid (hVn ▸ aF M3.out (aL X (.cells #[.int .i64 (-1)] 3)))
     have v3:D3 < V4.heap.size:=hlt M3.out
     obtain ⟨P4,hPn⟩:∃ P,X.heap.size=P:=⟨_,rfl⟩
     rw [hPn] at X4 ⊢
     have p4:w.heap.size+3<=P4:=by omega
     clear hVn hPn NX BX ZX LX cr zX
     rw [rounds_succ]
     have hfs:=Hb4.out
     have c5:V4.cell? ⟨P4,0,none⟩=some (.int .i64 (-1)):=cell_of_row _ _ 0 _ _ _ X4.out
     have HE:=hid (show stU 0 (stU 1 (stU 2 (stU 3 b)))=S4 by rw [E1.out,E2.out,E3.out,E4.out])
     have hsz:(S4.map (Value.int .i64)).toArray.size=16:=by simp [hfs]
     have H1:=hid (e9 S4)
     have HB4:=hid (show V4.heap[w.heap.size+1]? = some (.cells (S4.map (Value.int .i64)).toArray 48 (0,0)) from B4.out)
     obtain ⟨xs,hxs⟩:∃ xs,(S4.map (Value.int .i64)).toArray=xs:=⟨_,rfl⟩
     rw [hxs] at hsz H1 HB4
     have HF:=hid (show (Tryz.prog.info? 48).map (·.size)=some xs.size by rw [hsz]; exact bS)
     have HEx:=hid hxs
     have Hsz:=hid (show (16:Nat)=xs.size from hsz.symm)
     clear hsz hxs hfs
     go_wp2_with (first | (refine aB rfl 48 (.tmp 3) rfl (w.heap.size+1) rfl _ xs _ _ HB4.out Tryz.underlying48 rfl HF.out ?_) | (refine aA rfl 48 (.tmp 4) (.tmp 38) rfl (w.heap.size+1+1) rfl _ _ xs rfl Z4.out HF.out (by exact Hsz.out) H1.out ?_))
     have o3:=fun k (hk:k ≠ w.heap.size+1+1)=>setRow_other V4 (w.heap.size+1+1) k xs hk
     refine zY ((o3 D3 (by omega)).trans M3.out) ((o3 D2 (by omega)).trans M2.out) ((o3 D1 (by omega)).trans M1.out) ((o3 D0 (by omega)).trans M0.out) (by omega) (by omega) (by omega) ?_
     refine ⟨.agg xs,results_cell_row Tryz.results159 _ _ (w.heap.size+1+1) 48 xs (0,0) _ rfl ((World.putObj_heap_other (by omega)).trans ((World.putObj_heap_other (by omega)).trans ((World.putObj_heap_other (by omega)).trans ((World.putObj_heap_other (by omega)).trans (bB V4 _ _ _ xs Z4.out))))) Tryz.underlying48 rfl HF.out,?_⟩
     exact ⟨by rw [HE.out,HEx.out],j5 (j5 (j5 (j5 (aO L4.out _ (by omega) _) (by omega) _) (by omega) _) (by omega) _) (by omega) _⟩
 iterate 4
  next =>
   intro l pre x X K hI hK
   dsimp only [aBi]
   gi_wp2
   exact hK _ _ ((KeepsOthers.alloc _ _).from _) (JG (Nat.lt_of_lt_of_le gBr hI.1.size) (Nat.lt_of_lt_of_le gBn hI.1.size) (aL _ _)) ⟨hI.1.trans (dR (aL _ _)),hI.2.alloc _⟩ ⟨X.heap.size,hI.1.size,heap_alloc_new _ _,rfl⟩
  next =>
   have q1:(0:Int)<=(i:Int):=by omega
   have q2:(i:Int) < 16:=by omega
   have q3:(0:Int)<=(j:Int):=by omega
   have q4:(j:Int) < 16:=by omega
   have x5:=fun (v:GW X)=>(jY hBk v i).trans hcy
   have z5:=fun (v:GW X)=>(jY hBk v j).trans hcz
   have p5:=fun (v:GW X)=>dW hx2 v 0
   have u5:=fun (v:GW X)=>dW hx2 v 1
   have HG:=hid hG
   have HBk:=hid hBk
   have Hy:=hid hcy
   have Hz:=hid hcz
   clear hG hBk hi hj hy hz ty tz hcy hcz hlen16 hx2 hrr
   gi_wp2
   refine oG (v0:=.int .i64 (i:Int)) (v1:=.int .i64 (j:Int)) rfl rfl rfl rfl rfl rfl rfl rfl (by kernel_rfl) (by kernel_rfl) (by kernel_rfl) ?_ ?_ (.inl ⟨by rfl,fun W=>by go_simp⟩) (.inl ⟨by rfl,fun W=>by go_simp⟩) ?_
   ·rintro ⟨a,w,h⟩
    exact h
   ·intro c a' w' d v h
    exact h
   simp only [List.take_succ_cons,List.take_zero,List.drop_succ_cons,List.drop_zero]
   go_simp
   repeat (first | go_big_quiet_step ((go_at_call 154; exact bZ (HT.out _))))
   refine wpQuiet_nil ?_
   refine ⟨.int .i64 Zz,.inl ⟨by rfl,fun W=>by go_simp⟩,?_⟩
   rintro ⟨X5,hb5⟩
   dsimp only
   have hB5:=HBk.out.below hb5 HBk.out.lt
   have HB5:=hid hB5
   have HG5:=hid (dR (row:=some (w.heap.size+1)) hb5)
   have ce:X5.cell? ⟨w.heap.size+1,i,none⟩=some (.int .i64 y):=(hB5.cell i).trans Hy.out
   have fz:=hB5.frozen i
   have S1:=hid (hB5.set_ i (.int .i64 Y))
   have ce2:(X5.setCell ⟨w.heap.size+1,i,none⟩ (.int .i64 Y)).cell? ⟨w.heap.size+1,j,none⟩=some (.int .i64 z):=by rw [S1.out.cell,List.getElem?_set,if_neg hne]; exact Hz.out
   have fz2:=S1.out.frozen j
   clear hb5 hB5 x5 z5 p5 u5
   go_wp2
   have G:X.grownBy ((X5.setCell ⟨w.heap.size+1,i,none⟩ (.int .i64 Y)).setCell ⟨w.heap.size+1,j,none⟩ (.int .i64 Zz)) (some (w.heap.size+1)):=(HG5.out.trans (sS _)).trans (sS _)
   exact ⟨KeepsFrom.of_grownBy G (fun j e=>by cases e; exact zB),⟨G.block Br (Nat.lt_of_lt_of_le gBr HG.out.size) (by simpa using nBr),G.block Bn (Nat.lt_of_lt_of_le gBn HG.out.size) (by simpa using nBn)⟩,HG.out.trans G,by rw [HSn.out]; exact HSet.out X5 HB5.out⟩
end
end Go.Proofs.YtnbbfblaipjcmaaGreatDoor
