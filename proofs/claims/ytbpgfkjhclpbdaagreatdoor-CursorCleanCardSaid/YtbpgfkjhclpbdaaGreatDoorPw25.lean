/- NetC, NetD, NetE. Conditions: as each theorem states. -/
import Derived.Test.YtbpgfkjhclpbdaaGreatDoorPw24
import Derived.Test.YtbpgfkjhclpbdaaGreatDoorPw13
set_option maxRecDepth 100000
set_option maxHeartbeats 16000000
namespace Go.Proofs.YtbpgfkjhclpbdaaGreatDoor
open Tryz
open Go.Lib (hid)
section
open Go.RowKit Go.Shelf
attribute [local go_sem] Oper.semAt_some
theorem kT(tv:Array Value)(r:Nat)(w:World):Calls prog 161 #[.agg tv,.int .i64 r] w fun e w' =>
  ∃ h d,e=.returned (.func (.func 183) #[] #[.pointer (some ⟨h,0,none⟩),.pointer (some ⟨d,0,none⟩)])/\w.heap.size<=h/\w.heap.size<=d /\
   w'.heap[h]? = some (.cells #[.int .i64 r] 3 (0,0))/\w'.heap[d]? = some (.cells tv 89 (0,0))/\Below w.heap.size w w':=by
 have H:=aGC (yL w (.cells tv 89) (.cells #[.int .i64 r] 3));go_enter func161,ntmps161;go_wp2
 go_ret
 exact⟨w.heap.size+1,w.heap.size,rfl,by omega,LE _,H.out.2.1,H.out.1,H.out.2.2.2⟩
theorem gW(r h d:Nat)(tv:Array Value)(t:World)(U:r<4)(ht:EO tv)(I:t.heap[h]? = some (.cells #[.int .i64 r] 3 (0,0)))(G:t.heap[d]? = some (.cells tv 89 (0,0))):
  SeqStopsK Fence.wide 3 prog 183 #[.pointer (some ⟨h,0,none⟩),.pointer (some ⟨d,0,none⟩)] (aCZ r) (Kp2 h d) (fun xs=>xs=lI r 16) (fun _=>True) 8 t:=fun l J z W hW _ _ O F =>
 aBM l r h d tv U ht J z O W (aF I hW) (aF G hW) F
def dB(r:Nat)(b:List Int)(x:PI r):List Int:=(b.set x.1 (dQ (bgt b x.1) (bgt b (x.1+2 ^ r)) (aT x.1 r))).set (x.1+2 ^ r) (eK (bgt b x.1) (bgt b (x.1+2 ^ r)) (aT x.1 r))
def stN(r:Nat)(b:List Int):List Int:=(lI r 16).foldl (dB r) b
theorem AV(r:Nat)(b:List Int)(x:PI r):(dB r b x).length=b.length:=by simp[dB]
theorem pV(r:Nat):∀ (l:List (PI r)) (b:List Int),(l.foldl (dB r) b).length=b.length
 | [],_=>rfl
 | x::l,b=>by rw[List.foldl_cons,pV r l,AV]
theorem eX{r:Nat}(d:r<4)(x:PI r):x.1+2 ^ r<16:=(jJ ⟨r,d⟩ ⟨x.1,x.2.1⟩ x.2.2).2
theorem aB8{M:Int}{r:Nat}{b:List Int}(d:r<4)(hb:b.length=16)(h:Within M b)(x:PI r):Within (2*M+4) (dB r b x):=by
 have h1:=h x.1 x.2.1;have hm:=eX d x;have h2:=h (x.1+2 ^ r) hm;have hT:=EH ((3*x.1+5*r) % 8) (aG6 _ (by decide)) _ _ M h1.1 h1.2 h2.1 h2.2;intro k hk;have t:=h k hk;unfold dB aT;rw[jS _ _ _ _ (by rw[aIr,hb];exact hm),jS _ _ _ _ (by rw[hb];exact x.2.1)];split
 ·omega
 ·split <;> omega
def TK(M:Int):Nat->Int
 | 0=>M
 | n+1=>2*TK M n+4
theorem AI(M:Int):∀ n,TK (2*M+4) n=TK M (n+1)
 | 0=>rfl
 | n+1=>by rw[TK,AI M n];rfl
theorem pW{r:Nat}(d:r<4):∀ (l:List (PI r)) (b:List Int) (M:Int),b.length=16->Within M b->Within (TK M l.length) (l.foldl (dB r) b)
 | [],_,_,_,h=>h
 | x::l,b,M,hb,h=>by
  rw[List.foldl_cons,List.length_cons,<-AI];exact pW d l _ _ (by rw[AV,hb]) (aB8 d hb h x)
theorem oX{M:Int}(h:0<=M/\M<=8000000000){n:Nat}(t:n<8):TK M n<=1099511627776:=by
 have d:n=0\/n=1\/n=2\/n=3\/n=4\/n=5\/n=6\/n=7:=by omega
 rcases d with rfl|rfl|rfl|rfl|rfl|rfl|rfl|rfl <;> simp only[TK] <;> omega
theorem Within.turnable{M:Int}{b:List Int}(h:Within M b)(d:M<=1099511627776){k:Nat}(hk:k<16):cI (bgt b k):=by
 have:=h k hk;unfold cI;omega
theorem fY{β:Type}{h:World}{g:Nat}{t:TypeId}(f:β->List Value)(F:g<h.heap.size):OwnFrom h.heap.size (fun s W=>h.grownBy W (some g)/\Blk W g t (f s)):=by
 intro s X Y row ⟨h1,h2⟩ d I;have z:∀ k,k<h.heap.size->some k≠row:=fun k hk e=>by
  have:=(I k e.symm).1;omega
 refine⟨⟨d.os.trans h1.os,d.tape.trans h1.tape,d.output.trans h1.output,aGE h1.size d.size,fun k hk G=>?_⟩,?_⟩
 ·exact (d.block k (aGM hk h1.size) (z k hk)).trans (h1.block k hk G)
 ·exact h2.grown d (z g F)
theorem gV{β:Type}{B N:Nat}{t:TypeId}{z:Array Value}(A:Nat->Prop):OwnFrom B (fun (_:β) X=>∃ d,N<=d/\X.heap[d]? = some (.cells z t (0,0))/\A d):=by
 intro s X Y row ⟨d,h1,h2,F⟩ I J;refine⟨d,h1,(I.block d (hlt h2) (fun e=>?_)).trans h2,F⟩;obtain⟨_,o,h,G⟩:=J d e.symm;rw[h2]at h;injection h with h
 subst h;cases G
theorem yY{r:Nat}{b:List Int}(x:PI r){y z:Int}{t:aF1}{g:Nat}{ty:TypeId}{W:World}(d:bgt b x.1=y)(F:bgt b (x.1+2 ^ r)=z)(ht:aT x.1 r=t)(h:Blk W g ty (b.map (.int .i64))):
  Blk ((W.setCell ⟨g,x.1,none⟩ (.int .i64 (dQ y z t))).setCell ⟨g,x.1+2 ^ r,none⟩ (.int .i64 (eK y z t))) g ty ((dB r b x).map (.int .i64)):=by
 subst d F ht;unfold dB;rw[aG0,aG0];exact (h.set_ _ _).set_ _ _
theorem oY(r:Nat)(x:PI r):x.1≠x.1+2 ^ r:=by have:=aH8 r;omega
theorem aB7{r:Nat}{b:List Int}(d:r<4)(hb:b.length=16)(x:PI r)(j:Nat):bgt (dB r b x) j =
  if x.1+2 ^ r=j then eK (bgt b x.1) (bgt b (x.1+2 ^ r)) (aT x.1 r) else if x.1=j then dQ (bgt b x.1) (bgt b (x.1+2 ^ r)) (aT x.1 r) else bgt b j:=by
 have hm:=eX d x;unfold dB;rw[jS _ _ _ _ (by rw[aIr,hb];exact hm),jS _ _ _ _ (by rw[hb];exact x.2.1)]
theorem YL{b:List Int}(r:Nat)(hb:b.length=16):qB b r 0=b :=
 gZ (mD _ _ _) hb fun j d=>by rw[eZ _ _ _ d,sL (by omega)]
theorem LJ:∀ (r:Fin 4) (j:Fin 16),j5 r.1 j.1 / 2 ^ r.1 % 2=0/\(j.1 / 2 ^ r.1 % 2=0->j5 r.1 j.1=j.1)/\(¬ j.1 / 2 ^ r.1 % 2=0->j5 r.1 j.1+2 ^ r.1=j.1/\j.1-2 ^ r.1=j5 r.1 j.1):=by decide +kernel
theorem SE{r:Nat}{b:List Int}(t:r<4)(hb:b.length=16):∀ k,k<=16->(lI r k).foldl (dB r) b=qB b r k
 | 0,_=>(YL r hb).symm
 | k+1,hk=>by
  have O:=SE t hb k (by omega)
  by_cases h:k<16/\k / 2 ^ r % 2=0
  ·rw[AH h,aHt,O];refine gZ (n:=16) (by rw[List.foldl_cons,List.foldl_nil,AV,mD]) (mD _ _ _) fun j d=>?_
   have hm:=eX t ⟨k,h⟩;obtain⟨z,G,I⟩:=LJ ⟨r,t⟩ ⟨j,d⟩;obtain⟨f1,f2,f3⟩:=LJ ⟨r,t⟩ ⟨k,h.1⟩;have hp:=aH8 r;simp only at z G I f2 hm;have Z:=f2 h.2;have aA:=jJ ⟨r,t⟩ ⟨k,h.1⟩ h.2;rw[List.foldl_cons,List.foldl_nil,aB7 t (mD _ _ _)];show (if k+2 ^ r=j then _ else if k=j then _ else _)=_;have U:bgt (qB b r k) k=bgt b k:=by rw[eZ _ _ _ h.1,sL (by omega)]
   have V:bgt (qB b r k) (k+2 ^ r)=bgt b (k+2 ^ r):=by
    rw[eZ _ _ _ hm,sL];have:=(YG r t k h.1).2.1 h.2;omega
   show (if k+2 ^ r=j then eK (bgt (qB b r k) k) (bgt (qB b r k) (k+2 ^ r)) (aT k r) else if k=j then dQ (bgt (qB b r k) k) (bgt (qB b r k) (k+2 ^ r)) (aT k r) else bgt (qB b r k) j)=_;rw[U,V]
   by_cases h1:k+2 ^ r=j
   ·subst h1;have W:=(YG r t k h.1).2.1 h.2;rw[FN rfl,eZ _ _ _ d,FN (by omega),sL (by omega),W.2.2.2.2]
   ·rw[sL h1]
    by_cases h2:k=j
    ·subst h2;rw[FN rfl,eZ _ _ _ d,FN (by omega),FN h.2]
    ·rw[sL h2,eZ _ _ _ d,eZ _ _ _ d]
     by_cases F:j5 r j<k
     ·rw[FN F,FN (show j5 r j<k+1 by omega)]
     ·have:j5 r j≠k:=by
       intro e
       by_cases J:j / 2 ^ r % 2=0
       ·have:=G J;omega
       ·have:=I J;omega
      rw[sL F,sL (show ¬ j5 r j<k+1 by omega)]
  ·rw[GT h,O];refine gZ (n:=16) (mD _ _ _) (mD _ _ _) fun j d=>?_
   obtain⟨z,_⟩:=LJ ⟨r,t⟩ ⟨j,d⟩;simp only at z;have:j5 r j≠k:=by
    intro e;rw[e]at z;exact h ⟨by omega,z⟩
   rw[eZ _ _ _ d,eZ _ _ _ d]
   by_cases F:j5 r j<k
   ·rw[FN F,FN (show j5 r j<k+1 by omega)]
   ·rw[sL F,sL (show ¬ j5 r j<k+1 by omega)]
theorem AS{r:Nat}{b:List Int}(d:r<4)(hb:b.length=16):stN r b=G8 b r:=SE d hb 16 (by decide)
theorem DX{r:Nat}{b:List Int}(d:r<4)(hb:b.length=16):(stN r b).length=16:=by rw[AS d hb,mZ]
theorem zE{M N:Int}{b:List Int}(hb:b.length=16)(h:Within M b)(t:3*M+8<=2*N){r:Nat}(d:r<4):Within N (stN r b):=by rw[AS d hb];exact qA h t d
theorem aFq{b:List Int}(hb:b.length=16):stN 3 (stN 2 (stN 1 (stN 0 b)))=oO b:=by
 rw[AS (r:=0) (by decide) hb,AS (r:=1) (by decide) (mZ _ _),AS (r:=2) (by decide) (mZ _ _),AS (r:=3) (by decide) (mZ _ _)]
 rfl
theorem kV{B:Nat}{d W:World}(h:Below B d W){D:Nat}(t:B<=D)(o:Obj):Below B d (W.putObj D o) :=
 h.trans ⟨rfl,rfl,rfl,by simp,fun k hk=>aHn (by omega)⟩
theorem CC{F:Fence}{n:Nat}{P:Program}{fn:Func}{tmps:Array Value}{R:Ending->World->Prop}{U:World}{G t d z:Nat}(J:U.heap[G]? = some (.deferred (some [])))(h2:U.heap[t]? = some (.deferred (some [])))(h1:U.heap[d]? = some (.deferred (some [])))(I:U.heap[z]? = some (.deferred (some [])))
 (O:z<d)(V:d<t)(W:t<G)
 (h:LeavesIn F n P fn tmps R [] .returning ((((U.putObj G (.deferred none)).putObj t (.deferred none)).putObj d (.deferred none)).putObj z (.deferred none))):
  LeavesInM F n P fn tmps R [{ target:=.collected G,args:=#[] },{ target:=.collected t,args:=#[] },{ target:=.collected d,args:=#[] },{ target:=.collected z,args:=#[] }] .returning U:=by
 refine⟨by simp,.inl ⟨_,_,rfl,aJe J,?_⟩⟩;refine⟨by simp,.inl ⟨_,_,rfl,aJe ((aHn (by omega)).trans h2),?_⟩⟩;refine⟨by simp,.inl ⟨_,_,rfl,aJe ((aHn (by omega)).trans ((aHn (by omega)).trans h1)),?_⟩⟩;refine⟨by simp,.inl ⟨_,_,rfl,aJe ((aHn (by omega)).trans ((aHn (by omega)).trans ((aHn (by omega)).trans I))),?_⟩⟩;exact h
/-! The way back. -/
def eF(r:Nat)(b:List Int)(x:PI r):List Int:=(b.set x.1 (unA (bgt b x.1) (bgt b (x.1+2 ^ r)) (aT x.1 r))).set (x.1+2 ^ r) (unB (bgt b x.1) (bgt b (x.1+2 ^ r)) (aT x.1 r))
def stU(r:Nat)(b:List Int):List Int:=(lI r 16).foldl (eF r) b
theorem AW(r:Nat)(b:List Int)(x:PI r):(eF r b x).length=b.length:=by simp[eF]
theorem pX(r:Nat):∀ (l:List (PI r)) (b:List Int),(l.foldl (eF r) b).length=b.length
 | [],_=>rfl
 | x::l,b=>by rw[List.foldl_cons,pX r l,AW]
theorem MQ{r:Nat}{b:List Int}(d:r<4)(hb:b.length=16)(x:PI r)(j:Nat):bgt (eF r b x) j =
  if x.1+2 ^ r=j then unB (bgt b x.1) (bgt b (x.1+2 ^ r)) (aT x.1 r) else if x.1=j then unA (bgt b x.1) (bgt b (x.1+2 ^ r)) (aT x.1 r) else bgt b j:=by
 have hm:=eX d x;unfold eF;rw[jS _ _ _ _ (by rw[aIr,hb];exact hm),jS _ _ _ _ (by rw[hb];exact x.2.1)]
theorem aB9{M:Int}{r:Nat}{b:List Int}(d:r<4)(hb:b.length=16)(h:Within M b)(x:PI r):Within (2*M+4) (eF r b x):=by
 have h1:=h x.1 x.2.1;have hm:=eX d x;have h2:=h (x.1+2 ^ r) hm;have hT:=uA ((3*x.1+5*r) % 8) (aG6 _ (by decide)) _ _ M h1.1 h1.2 h2.1 h2.2;intro k hk;have t:=h k hk;rw[MQ d hb];unfold aT;split
 ·omega
 ·split <;> omega
theorem pY{r:Nat}(d:r<4):∀ (l:List (PI r)) (b:List Int) (M:Int),b.length=16->Within M b->Within (TK M l.length) (l.foldl (eF r) b)
 | [],_,_,_,h=>h
 | x::l,b,M,hb,h=>by
  rw[List.foldl_cons,List.length_cons,<-AI];exact pY d l _ _ (by rw[AW,hb]) (aB9 d hb h x)
theorem uQ{r:Nat}{b:List Int}(x:PI r){y z:Int}{t:aF1}{g:Nat}{ty:TypeId}{W:World}(d:bgt b x.1=y)(F:bgt b (x.1+2 ^ r)=z)(ht:aT x.1 r=t)(h:Blk W g ty (b.map (.int .i64))):
  Blk ((W.setCell ⟨g,x.1,none⟩ (.int .i64 (unA y z t))).setCell ⟨g,x.1+2 ^ r,none⟩ (.int .i64 (unB y z t))) g ty ((eF r b x).map (.int .i64)):=by
 subst d F ht;unfold eF;rw[aG0,aG0];exact (h.set_ _ _).set_ _ _
theorem WG{b:List Int}(r:Nat)(hb:b.length=16):nV b r 0=b :=
 gZ (lY _ _ _) hb fun j d=>by rw[iP _ _ _ d,sL (by omega)]
theorem SD{r:Nat}{b:List Int}(t:r<4)(hb:b.length=16):∀ k,k<=16->(lI r k).foldl (eF r) b=nV b r k
 | 0,_=>(WG r hb).symm
 | k+1,hk=>by
  have O:=SD t hb k (by omega)
  by_cases h:k<16/\k / 2 ^ r % 2=0
  ·rw[AH h,aHt,O];refine gZ (n:=16) (by rw[List.foldl_cons,List.foldl_nil,AW,lY]) (lY _ _ _) fun j d=>?_
   have hm:=eX t ⟨k,h⟩;obtain⟨z,G,I⟩:=LJ ⟨r,t⟩ ⟨j,d⟩;obtain⟨f1,f2,f3⟩:=LJ ⟨r,t⟩ ⟨k,h.1⟩;have hp:=aH8 r;simp only at z G I f2 hm;have Z:=f2 h.2;have aA:=jJ ⟨r,t⟩ ⟨k,h.1⟩ h.2;rw[List.foldl_cons,List.foldl_nil,MQ t (lY _ _ _)];show (if k+2 ^ r=j then _ else if k=j then _ else _)=_;have U:bgt (nV b r k) k=bgt b k:=by rw[iP _ _ _ h.1,sL (by omega)]
   have V:bgt (nV b r k) (k+2 ^ r)=bgt b (k+2 ^ r):=by
    rw[iP _ _ _ hm,sL];have:=(YG r t k h.1).2.1 h.2;omega
   show (if k+2 ^ r=j then unB (bgt (nV b r k) k) (bgt (nV b r k) (k+2 ^ r)) (aT k r) else if k=j then unA (bgt (nV b r k) k) (bgt (nV b r k) (k+2 ^ r)) (aT k r) else bgt (nV b r k) j)=_;rw[U,V]
   by_cases h1:k+2 ^ r=j
   ·subst h1;have W:=(YG r t k h.1).2.1 h.2;rw[FN rfl,iP _ _ _ d,FN (by omega),sL (by omega),W.2.2.2.2]
   ·rw[sL h1]
    by_cases h2:k=j
    ·subst h2;rw[FN rfl,iP _ _ _ d,FN (by omega),FN h.2]
    ·rw[sL h2,iP _ _ _ d,iP _ _ _ d]
     by_cases F:j5 r j<k
     ·rw[FN F,FN (show j5 r j<k+1 by omega)]
     ·have:j5 r j≠k:=by
       intro e
       by_cases J:j / 2 ^ r % 2=0
       ·have:=G J;omega
       ·have:=I J;omega
      rw[sL F,sL (show ¬ j5 r j<k+1 by omega)]
  ·rw[GT h,O];refine gZ (n:=16) (lY _ _ _) (lY _ _ _) fun j d=>?_
   obtain⟨z,_⟩:=LJ ⟨r,t⟩ ⟨j,d⟩;simp only at z;have:j5 r j≠k:=by
    intro e;rw[e]at z;exact h ⟨by omega,z⟩
   rw[iP _ _ _ d,iP _ _ _ d]
   by_cases F:j5 r j<k
   ·rw[FN F,FN (show j5 r j<k+1 by omega)]
   ·rw[sL F,sL (show ¬ j5 r j<k+1 by omega)]
theorem AU{r:Nat}{b:List Int}(d:r<4)(hb:b.length=16):stU r b=EU b r:=SD d hb 16 (by decide)
theorem DY{r:Nat}{b:List Int}(d:r<4)(hb:b.length=16):(stU r b).length=16:=by rw[AU d hb,sZ]
theorem zF{M N:Int}{b:List Int}(hb:b.length=16)(h:Within M b)(t:3*M+8<=2*N){r:Nat}(d:r<4):Within N (stU r b):=by rw[AU d hb];exact pO h t d
theorem aDX{b:List Int}(hb:b.length=16):stU 0 (stU 1 (stU 2 (stU 3 b)))=gI b:=by
 rw[AU (r:=3) (by decide) hb,AU (r:=2) (by decide) (sZ _ _),AU (r:=1) (by decide) (sZ _ _),AU (r:=0) (by decide) (sZ _ _)]
 rfl
end
section
open Go.RowKit Go.Shelf
attribute [local go_sem] Oper.semAt_some
theorem P8(tv:Array Value)(b:List Int)(M:Int)(w:World)(d4:tv.size=16)(ht:EO tv)(hb:b.length=16)(hM:0<=M/\M<=2147483648)(hl:Within M b):
  Calls prog 207 #[.agg tv,aR b] w fun e w'=>e=.returned (aR (stN 3 (stN 2 (stN 1 (stN 0 b)))))/\Below w.heap.size w w':=by
 have Ht:=hid ht;have cL:=hid (show (prog.info? 89).map (·.size)=some tv.size by rw[d4];kernel_rfl);have H3:=hid (yM w (.cells tv 89) (.cells (b.map (Value.int .i64)).toArray 43) (.cells #[Value.int IntKind.i64 0,Value.int IntKind.i64 0,Value.int IntKind.i64 0,Value.int IntKind.i64 0,Value.int IntKind.i64 0,Value.int IntKind.i64 0,Value.int IntKind.i64 0,Value.int IntKind.i64 0,Value.int IntKind.i64 0,Value.int IntKind.i64 0,Value.int IntKind.i64 0,Value.int IntKind.i64 0,Value.int IntKind.i64 0,Value.int IntKind.i64 0,Value.int IntKind.i64 0,Value.int IntKind.i64 0] 43));have cA:=hid hb;have c6:=hid (show Within M b from hl);have bP:=hid hM;clear ht d4 hb hl hM;unfold aR;obtain⟨bv,dF⟩:∃ bv,(b.map (Value.int .i64)).toArray=bv:=⟨_,rfl⟩;rw[dF]at H3 ⊢;have dP:=hid dF;clear dF;refine (aJd (n:=4)).1 ?_;refine callsIn_of_wp_marks func207 rfl trivial ?_ rfl;refine aHZ.2 ?_;simp only[ntmps207,aGH,List.length_cons,List.length_nil,Nat.reduceAdd,Nat.reduceSub,aJy,Array.replicate_zero,aJV,aJK,List.nil_append,List.cons_append];go_wp2_with fail
 obtain⟨V0,dY⟩:∃ V,((w.alloc (.cells tv 89)).alloc (.cells bv 43)).alloc (.cells #[Value.int IntKind.i64 0,Value.int IntKind.i64 0,Value.int IntKind.i64 0,Value.int IntKind.i64 0,Value.int IntKind.i64 0,Value.int IntKind.i64 0,Value.int IntKind.i64 0,Value.int IntKind.i64 0,Value.int IntKind.i64 0,Value.int IntKind.i64 0,Value.int IntKind.i64 0,Value.int IntKind.i64 0,Value.int IntKind.i64 0,Value.int IntKind.i64 0,Value.int IntKind.i64 0,Value.int IntKind.i64 0] 43)=V:=⟨_,rfl⟩;rw[dY]at H3 ⊢;clear dY;have N0:=hid H3.out.1;have B0:=hid (show Blk V0 (w.heap.size+1) 43 (b.map (.int .i64)) by unfold Blk;rw[dP.out];exact H3.out.2.1);have Z0:=hid H3.out.2.2.1;have z0:w.heap.size+3<=V0.heap.size:=aIw H3.out.2.2.2.1.symm;have L0:=hid H3.out.2.2.2.2;clear H3 dP;refine aHD 5 ?_;have HP:=hid (fun W=>kT tv 0 W);rw[rounds_succ];go_wp2_with (first|(go_at_call 161;fail)|(refine aB rfl 89 (.tmp 2) rfl w.heap.size rfl _ tv _ _ (aF N0.out (aP _ _)) underlying89 rfl cL.out ?_))
 refine (HP.out _).mono ?_;clear HP;rintro e W0 ⟨U,O,rfl,bD,bE,aQ,aN,aU⟩;have L:=hid (aC (aP V0 (.cells #[.int .i64 0] 3)) aU);have a9:=aF (LT V0 (.cells #[.int .i64 0] 3)) aU;have Xr:=hid a9;have XB:=hid (B0.out.below L.out B0.out.lt);have aY:=hlt aQ;have aX:=hlt aN;have bV:U≠w.heap.size+1:=by simp at bD;omega
 have bU:O≠w.heap.size+1:=by simp at bE;omega
 have zB:w.heap.size+1<W0.heap.size:=by have:=L.out.size;omega
 have nR:V0.heap.size≠w.heap.size+1:=by omega
 have a5:=hid aQ;have a4:=hid aN;clear aU bD bE a9 aQ aN;go_wp2_with fail
 refine (aHZ (n:=4)).1 ?_;refine aIe (n:=4) rfl (by decide) (gf:=183) (lb:=#[.pointer (some ⟨U,0,none⟩),.pointer (some ⟨O,0,none⟩)]) rfl trivial (aIb func183 (by kernel_rfl) rfl) (gW 0 U O tv W0 (by decide) Ht.out a5.out a4.out) yQ (BY aY aX) (aGj _ _) (fun _=>rfl)
  (fun (pre:List (PI 0)) X=>W0.grownBy X (some (w.heap.size+1))/\Blk X (w.heap.size+1) 43 ((pre.foldl (dB 0) (b)).map (.int .i64))) (fun _ _ _=>False)
  (fY (fun (pre:List (PI 0))=>(pre.foldl (dB 0) (b)).map (.int .i64)) zB) (fun _ _ _ _ _ h _ _=>h) ⟨eH (aGj _ _),XB.out⟩
  (fun (x:PI 0) a' X=>∃ Z,W0.heap.size<=Z/\X.heap[Z]? = some (.cells #[.int .i64 (aT x.1 0).p,.int .i64 (aT x.1 0).u] 84 (0,0)) /\
   a'={ tmps:=#[.agg tv,.agg bv,.pointer (some ⟨w.heap.size,0,none⟩),.pointer (some ⟨w.heap.size+1,0,none⟩),.pointer (some ⟨w.heap.size+1+1,0,none⟩),.pointer (some ⟨V0.heap.size,0,none⟩),.int .i64 (x.1:Int),.pointer (some ⟨Z,0,none⟩),undef,.int .i64 0,.bool true,.int .i64 0,.agg tv,.int .i64 0,.func (.func 183) #[] #[.pointer (some ⟨U,0,none⟩),.pointer (some ⟨O,0,none⟩)],.int .i64 (x.1:Int),.agg #[.int .i64 (aT x.1 0).p,.int .i64 (aT x.1 0).u],undef,undef,undef,undef,undef,undef,undef,undef,undef,undef,undef,undef,undef,undef,undef,undef,undef,undef,undef,undef,undef],defers:=[] })
  (fun x a'=>gV _) ?_ ?_ ?_ ?_
 rotate_left 1
 rintro l pre x a' X hl ⟨rr,c0⟩ ⟨t,J⟩ ⟨Z,dG,bK,rfl⟩ b3;have aL:=hid (pW (r:=0) (by decide) pre (b) _ cA.out c6.out);have I:(pre.foldl (dB 0) (b)).length=16:=by rw[pV];exact cA.out
 have b0:=hid (show pre.foldl (dB 0) (b)=pre.foldl (dB 0) (b) from rfl);have bQ:=hid (show (pre++[x]).foldl (dB 0) (b)=dB 0 (pre.foldl (dB 0) (b)) x by rw[aHt];rfl);obtain⟨F,bC⟩:∃ F,pre.foldl (dB 0) (b)=F:=⟨_,rfl⟩;rw[bC]at J aL I bQ;clear b0 bC;have aG:=x.2.1;have hm:=eX (r:=0) (by decide) x;have bB:bits .or .i64 (x.1:Int) 1=((x.1+2 ^ 0:Nat):Int):=(jJ ⟨0,by decide⟩ ⟨x.1,aG⟩ x.2.2).1;have a0:=oY 0 x;obtain⟨y,hy⟩:=aE I aG;obtain⟨z,hz⟩:=aE I hm;have a2:=oX (M:=M) (by have:=bP.out;omega) b3;have ty:cI y:=by have:=aL.out.turnable a2 aG;rwa [aD hy]at this
 have tz:cI z:=by have:=aL.out.turnable a2 hm;rwa [aD hz]at this
 have HT:=hid (fun W=>lJ y z (aT x.1 0) W (iO (aG6 _ (by decide))) ty tz);have aZ:=hid (fun (W:World) (h:Blk W (w.heap.size+1) 43 (F.map (.int .i64)))=>yY x (aD hy) (aD hz) rfl h);have bH:(F.map (Value.int .i64))[x.1]? = some (.int .i64 y):=by rw[aF5,hy];rfl
 have bI:(F.map (Value.int .i64))[x.1+2 ^ 0]? = some (.int .i64 z):=by rw[aF5,hz];rfl
 have cZ:F.length=16:=I;have c7:=hid I;generalize dQ y z (aT x.1 0)=Y at *
 generalize eK y z (aT x.1 0)=Zz at *
 generalize aT x.1 0=tk at *
 obtain⟨p,u⟩:=tk;simp only at HT bK;obtain⟨i,hi⟩:∃ i:Nat,x.1=i:=⟨_,rfl⟩;obtain⟨j,hj⟩:∃ j:Nat,x.1+2 ^ 0=j:=⟨_,rfl⟩;rw[hj]at hm bB a0 bI aZ;rw[hi]at aG bB a0 bH aZ ⊢;have cr:X.cell? ⟨V0.heap.size,0,none⟩=some (.int .i64 0):=aGo X _ 0 _ _ _ ((t.block _ (hlt Xr.out) (by simpa using nR)).trans Xr.out)
 rotate_left 1
 case refine_4=>exact fun D c pre X _ _ h=>h.elim
 focus
  rintro D0 ys V1 eL rfl ⟨t,J⟩ hK;have d0:w.heap.size+3<=D0:=by have:=L.out.size;omega
  have v0:D0<V1.heap.size:=hlt hK;have M0:=hid hK;have N1:=hid ((t.block _ (hlt (aF N0.out L.out)) (by simp)).trans (aF N0.out L.out));have B1:=hid (show Blk V1 (w.heap.size+1) 43 ((stN 0 (b)).map (.int .i64)) from J);have Z1:=hid ((t.block _ (hlt (aF Z0.out L.out)) (by simp)).trans (aF Z0.out L.out));have z1:w.heap.size+3<=V1.heap.size:=by have:=L.out.size;have:=t.size;omega
  have L1:=hid ((aC L0.out L.out).grown t (by have:=L.out.size;omega) (fun k e=>by cases e;omega));have b6:=hid (DX (r:=0) (by decide) cA.out);have cM:=hid (zE (r:=0) (M:=M) (N:=(3*M+9) / 2) cA.out c6.out (by have:=bP.out;omega) (by decide));obtain⟨S1,aS⟩:∃ S,stN 0 (b)=S:=⟨_,rfl⟩;rw[aS]at B1 b6 cM;have E1:=hid aS;clear aS;clear t J hK eL L Xr XB aY aX bV bU zB nR a5 a4 z0 N0 B0 Z0 L0 cA c6;go_wp2_with fail
  have HP:=hid (fun W=>kT tv 1 W);rw[rounds_succ];go_wp2_with (first|(go_at_call 161;fail)|(refine aB rfl 89 (.tmp 2) rfl w.heap.size rfl _ tv _ _ (aF N1.out (aP _ _)) underlying89 rfl cL.out ?_))
  refine (HP.out _).mono ?_;clear HP;rintro e W1 ⟨U,O,rfl,bD,bE,aQ,aN,aU⟩;have L:=hid (aC (aP V1 (.cells #[.int .i64 1] 3)) aU);have a9:=aF (LT V1 (.cells #[.int .i64 1] 3)) aU;have Xr:=hid a9;have XB:=hid (B1.out.below L.out B1.out.lt);have aY:=hlt aQ;have aX:=hlt aN;have bV:U≠w.heap.size+1:=by simp at bD;omega
  have bU:O≠w.heap.size+1:=by simp at bE;omega
  have zB:w.heap.size+1<W1.heap.size:=by have:=L.out.size;omega
  have nR:V1.heap.size≠w.heap.size+1:=by omega
  have a5:=hid aQ;have a4:=hid aN;clear aU bD bE a9 aQ aN;go_wp2_with fail
  refine (aHZ (n:=4)).1 ?_;refine aIe (n:=4) rfl (by decide) (gf:=183) (lb:=#[.pointer (some ⟨U,0,none⟩),.pointer (some ⟨O,0,none⟩)]) rfl trivial (aIb func183 (by kernel_rfl) rfl) (gW 1 U O tv W1 (by decide) Ht.out a5.out a4.out) yQ (BY aY aX) (aGj _ _) (fun _=>rfl)
   (fun (pre:List (PI 1)) X=>W1.grownBy X (some (w.heap.size+1))/\Blk X (w.heap.size+1) 43 ((pre.foldl (dB 1) (S1)).map (.int .i64))) (fun _ _ _=>False)
   (fY (fun (pre:List (PI 1))=>(pre.foldl (dB 1) (S1)).map (.int .i64)) zB) (fun _ _ _ _ _ h _ _=>h) ⟨eH (aGj _ _),XB.out⟩
   (fun (x:PI 1) a' X=>∃ Z,W1.heap.size<=Z/\X.heap[Z]? = some (.cells #[.int .i64 (aT x.1 1).p,.int .i64 (aT x.1 1).u] 84 (0,0)) /\
    a'={ tmps:=#[.agg tv,.agg bv,.pointer (some ⟨w.heap.size,0,none⟩),.pointer (some ⟨w.heap.size+1,0,none⟩),.pointer (some ⟨w.heap.size+1+1,0,none⟩),.pointer (some ⟨V1.heap.size,0,none⟩),.int .i64 (x.1:Int),.pointer (some ⟨Z,0,none⟩),undef,.int .i64 1,.bool true,.int .i64 1,.agg tv,.int .i64 1,.func (.func 183) #[] #[.pointer (some ⟨U,0,none⟩),.pointer (some ⟨O,0,none⟩)],.int .i64 (x.1:Int),.agg #[.int .i64 (aT x.1 1).p,.int .i64 (aT x.1 1).u],undef,undef,undef,undef,undef,undef,undef,undef,undef,undef,undef,undef,undef,undef,undef,undef,undef,undef,undef,.int .i64 1,undef],defers:=[] })
   (fun x a'=>gV _) ?_ ?_ ?_ ?_
  rotate_left 1
  rintro l pre x a' X hl ⟨rr,c0⟩ ⟨t,J⟩ ⟨Z,dG,bK,rfl⟩ b3;have aL:=hid (pW (r:=1) (by decide) pre (S1) _ b6.out cM.out);have I:(pre.foldl (dB 1) (S1)).length=16:=by rw[pV];exact b6.out
  have b0:=hid (show pre.foldl (dB 1) (S1)=pre.foldl (dB 1) (S1) from rfl);have bQ:=hid (show (pre++[x]).foldl (dB 1) (S1)=dB 1 (pre.foldl (dB 1) (S1)) x by rw[aHt];rfl);obtain⟨F,bC⟩:∃ F,pre.foldl (dB 1) (S1)=F:=⟨_,rfl⟩;rw[bC]at J aL I bQ;clear b0 bC;have aG:=x.2.1;have hm:=eX (r:=1) (by decide) x;have bB:bits .or .i64 (x.1:Int) 2=((x.1+2 ^ 1:Nat):Int):=(jJ ⟨1,by decide⟩ ⟨x.1,aG⟩ x.2.2).1;have a0:=oY 1 x;obtain⟨y,hy⟩:=aE I aG;obtain⟨z,hz⟩:=aE I hm;have a2:=oX (M:=(3*M+9) / 2) (by have:=bP.out;omega) b3;have ty:cI y:=by have:=aL.out.turnable a2 aG;rwa [aD hy]at this
  have tz:cI z:=by have:=aL.out.turnable a2 hm;rwa [aD hz]at this
  have HT:=hid (fun W=>lJ y z (aT x.1 1) W (iO (aG6 _ (by decide))) ty tz);have aZ:=hid (fun (W:World) (h:Blk W (w.heap.size+1) 43 (F.map (.int .i64)))=>yY x (aD hy) (aD hz) rfl h);have bH:(F.map (Value.int .i64))[x.1]? = some (.int .i64 y):=by rw[aF5,hy];rfl
  have bI:(F.map (Value.int .i64))[x.1+2 ^ 1]? = some (.int .i64 z):=by rw[aF5,hz];rfl
  have cZ:F.length=16:=I;have c7:=hid I;generalize dQ y z (aT x.1 1)=Y at *
  generalize eK y z (aT x.1 1)=Zz at *
  generalize aT x.1 1=tk at *
  obtain⟨p,u⟩:=tk;simp only at HT bK;obtain⟨i,hi⟩:∃ i:Nat,x.1=i:=⟨_,rfl⟩;obtain⟨j,hj⟩:∃ j:Nat,x.1+2 ^ 1=j:=⟨_,rfl⟩;rw[hj]at hm bB a0 bI aZ;rw[hi]at aG bB a0 bH aZ ⊢;have cr:X.cell? ⟨V1.heap.size,0,none⟩=some (.int .i64 1):=aGo X _ 0 _ _ _ ((t.block _ (hlt Xr.out) (by simpa using nR)).trans Xr.out)
  rotate_left 1
  case refine_4=>exact fun D c pre X _ _ h=>h.elim
  focus
   rintro D1 ys V2 eM rfl ⟨t,J⟩ hK;have d1:w.heap.size+3<=D1:=by have:=L.out.size;omega
   have y1:D0<D1:=by have:=L.out.size;omega
   have v1:D1<V2.heap.size:=hlt hK;have M1:=hid hK;have M0:=hid ((t.block _ (hlt (aF M0.out L.out)) (by simp;omega)).trans (aF M0.out L.out));have v0:D0<V2.heap.size:=hlt M0.out;have N2:=hid ((t.block _ (hlt (aF N1.out L.out)) (by simp)).trans (aF N1.out L.out));have B2:=hid (show Blk V2 (w.heap.size+1) 43 ((stN 1 (S1)).map (.int .i64)) from J);have Z2:=hid ((t.block _ (hlt (aF Z1.out L.out)) (by simp)).trans (aF Z1.out L.out));have z2:w.heap.size+3<=V2.heap.size:=by have:=L.out.size;have:=t.size;omega
   have L2:=hid ((aC L1.out L.out).grown t (by have:=L.out.size;omega) (fun k e=>by cases e;omega));have b7:=hid (DX (r:=1) (by decide) b6.out);have cN:=hid (zE (r:=1) (M:=(3*M+9) / 2) (N:=(9*M+56) / 4) b6.out cM.out (by have:=bP.out;omega) (by decide));obtain⟨S2,aS⟩:∃ S,stN 1 (S1)=S:=⟨_,rfl⟩;rw[aS]at B2 b7 cN;have E2:=hid aS;clear aS;clear t J hK eM L Xr XB aY aX bV bU zB nR a5 a4 z1 N1 B1 Z1 L1 b6 cM;go_wp2_with fail
   have HP:=hid (fun W=>kT tv 2 W);rw[rounds_succ];go_wp2_with (first|(go_at_call 161;fail)|(refine aB rfl 89 (.tmp 2) rfl w.heap.size rfl _ tv _ _ (aF N2.out (aP _ _)) underlying89 rfl cL.out ?_))
   refine (HP.out _).mono ?_;clear HP;rintro e W2 ⟨U,O,rfl,bD,bE,aQ,aN,aU⟩;have L:=hid (aC (aP V2 (.cells #[.int .i64 2] 3)) aU);have a9:=aF (LT V2 (.cells #[.int .i64 2] 3)) aU;have Xr:=hid a9;have XB:=hid (B2.out.below L.out B2.out.lt);have aY:=hlt aQ;have aX:=hlt aN;have bV:U≠w.heap.size+1:=by simp at bD;omega
   have bU:O≠w.heap.size+1:=by simp at bE;omega
   have zB:w.heap.size+1<W2.heap.size:=by have:=L.out.size;omega
   have nR:V2.heap.size≠w.heap.size+1:=by omega
   have a5:=hid aQ;have a4:=hid aN;clear aU bD bE a9 aQ aN;go_wp2_with fail
   refine (aHZ (n:=4)).1 ?_;refine aIe (n:=4) rfl (by decide) (gf:=183) (lb:=#[.pointer (some ⟨U,0,none⟩),.pointer (some ⟨O,0,none⟩)]) rfl trivial (aIb func183 (by kernel_rfl) rfl) (gW 2 U O tv W2 (by decide) Ht.out a5.out a4.out) yQ (BY aY aX) (aGj _ _) (fun _=>rfl)
    (fun (pre:List (PI 2)) X=>W2.grownBy X (some (w.heap.size+1))/\Blk X (w.heap.size+1) 43 ((pre.foldl (dB 2) (S2)).map (.int .i64))) (fun _ _ _=>False)
    (fY (fun (pre:List (PI 2))=>(pre.foldl (dB 2) (S2)).map (.int .i64)) zB) (fun _ _ _ _ _ h _ _=>h) ⟨eH (aGj _ _),XB.out⟩
    (fun (x:PI 2) a' X=>∃ Z,W2.heap.size<=Z/\X.heap[Z]? = some (.cells #[.int .i64 (aT x.1 2).p,.int .i64 (aT x.1 2).u] 84 (0,0)) /\
     a'={ tmps:=#[.agg tv,.agg bv,.pointer (some ⟨w.heap.size,0,none⟩),.pointer (some ⟨w.heap.size+1,0,none⟩),.pointer (some ⟨w.heap.size+1+1,0,none⟩),.pointer (some ⟨V2.heap.size,0,none⟩),.int .i64 (x.1:Int),.pointer (some ⟨Z,0,none⟩),undef,.int .i64 2,.bool true,.int .i64 2,.agg tv,.int .i64 2,.func (.func 183) #[] #[.pointer (some ⟨U,0,none⟩),.pointer (some ⟨O,0,none⟩)],.int .i64 (x.1:Int),.agg #[.int .i64 (aT x.1 2).p,.int .i64 (aT x.1 2).u],undef,undef,undef,undef,undef,undef,undef,undef,undef,undef,undef,undef,undef,undef,undef,undef,undef,undef,undef,.int .i64 2,undef],defers:=[] })
    (fun x a'=>gV _) ?_ ?_ ?_ ?_
   rotate_left 1
   rintro l pre x a' X hl ⟨rr,c0⟩ ⟨t,J⟩ ⟨Z,dG,bK,rfl⟩ b3;have aL:=hid (pW (r:=2) (by decide) pre (S2) _ b7.out cN.out);have I:(pre.foldl (dB 2) (S2)).length=16:=by rw[pV];exact b7.out
   have b0:=hid (show pre.foldl (dB 2) (S2)=pre.foldl (dB 2) (S2) from rfl);have bQ:=hid (show (pre++[x]).foldl (dB 2) (S2)=dB 2 (pre.foldl (dB 2) (S2)) x by rw[aHt];rfl);obtain⟨F,bC⟩:∃ F,pre.foldl (dB 2) (S2)=F:=⟨_,rfl⟩;rw[bC]at J aL I bQ;clear b0 bC;have aG:=x.2.1;have hm:=eX (r:=2) (by decide) x;have bB:bits .or .i64 (x.1:Int) 4=((x.1+2 ^ 2:Nat):Int):=(jJ ⟨2,by decide⟩ ⟨x.1,aG⟩ x.2.2).1;have a0:=oY 2 x;obtain⟨y,hy⟩:=aE I aG;obtain⟨z,hz⟩:=aE I hm;have a2:=oX (M:=(9*M+56) / 4) (by have:=bP.out;omega) b3;have ty:cI y:=by have:=aL.out.turnable a2 aG;rwa [aD hy]at this
   have tz:cI z:=by have:=aL.out.turnable a2 hm;rwa [aD hz]at this
   have HT:=hid (fun W=>lJ y z (aT x.1 2) W (iO (aG6 _ (by decide))) ty tz);have aZ:=hid (fun (W:World) (h:Blk W (w.heap.size+1) 43 (F.map (.int .i64)))=>yY x (aD hy) (aD hz) rfl h);have bH:(F.map (Value.int .i64))[x.1]? = some (.int .i64 y):=by rw[aF5,hy];rfl
   have bI:(F.map (Value.int .i64))[x.1+2 ^ 2]? = some (.int .i64 z):=by rw[aF5,hz];rfl
   have cZ:F.length=16:=I;have c7:=hid I;generalize dQ y z (aT x.1 2)=Y at *
   generalize eK y z (aT x.1 2)=Zz at *
   generalize aT x.1 2=tk at *
   obtain⟨p,u⟩:=tk;simp only at HT bK;obtain⟨i,hi⟩:∃ i:Nat,x.1=i:=⟨_,rfl⟩;obtain⟨j,hj⟩:∃ j:Nat,x.1+2 ^ 2=j:=⟨_,rfl⟩;rw[hj]at hm bB a0 bI aZ;rw[hi]at aG bB a0 bH aZ ⊢;have cr:X.cell? ⟨V2.heap.size,0,none⟩=some (.int .i64 2):=aGo X _ 0 _ _ _ ((t.block _ (hlt Xr.out) (by simpa using nR)).trans Xr.out)
   rotate_left 1
   case refine_4=>exact fun D c pre X _ _ h=>h.elim
   focus
    rintro D2 ys V3 eN rfl ⟨t,J⟩ hK;have d2:w.heap.size+3<=D2:=by have:=L.out.size;omega
    have y2:D1<D2:=by have:=L.out.size;omega
    have v2:D2<V3.heap.size:=hlt hK;have M2:=hid hK;have M0:=hid ((t.block _ (hlt (aF M0.out L.out)) (by simp;omega)).trans (aF M0.out L.out));have v0:D0<V3.heap.size:=hlt M0.out;have M1:=hid ((t.block _ (hlt (aF M1.out L.out)) (by simp;omega)).trans (aF M1.out L.out));have v1:D1<V3.heap.size:=hlt M1.out;have N3:=hid ((t.block _ (hlt (aF N2.out L.out)) (by simp)).trans (aF N2.out L.out));have B3:=hid (show Blk V3 (w.heap.size+1) 43 ((stN 2 (S2)).map (.int .i64)) from J);have Z3:=hid ((t.block _ (hlt (aF Z2.out L.out)) (by simp)).trans (aF Z2.out L.out));have z3:w.heap.size+3<=V3.heap.size:=by have:=L.out.size;have:=t.size;omega
    have L3:=hid ((aC L2.out L.out).grown t (by have:=L.out.size;omega) (fun k e=>by cases e;omega));have b8:=hid (DX (r:=2) (by decide) b7.out);have cO:=hid (zE (r:=2) (M:=(9*M+56) / 4) (N:=(27*M+238) / 8) b7.out cN.out (by have:=bP.out;omega) (by decide));obtain⟨S3,aS⟩:∃ S,stN 2 (S2)=S:=⟨_,rfl⟩;rw[aS]at B3 b8 cO;have E3:=hid aS;clear aS;clear t J hK eN L Xr XB aY aX bV bU zB nR a5 a4 z2 N2 B2 Z2 L2 b7 cN;go_wp2_with fail
    have HP:=hid (fun W=>kT tv 3 W);rw[rounds_succ];go_wp2_with (first|(go_at_call 161;fail)|(refine aB rfl 89 (.tmp 2) rfl w.heap.size rfl _ tv _ _ (aF N3.out (aP _ _)) underlying89 rfl cL.out ?_))
    refine (HP.out _).mono ?_;clear HP;rintro e W3 ⟨U,O,rfl,bD,bE,aQ,aN,aU⟩;have L:=hid (aC (aP V3 (.cells #[.int .i64 3] 3)) aU);have a9:=aF (LT V3 (.cells #[.int .i64 3] 3)) aU;have Xr:=hid a9;have XB:=hid (B3.out.below L.out B3.out.lt);have aY:=hlt aQ;have aX:=hlt aN;have bV:U≠w.heap.size+1:=by simp at bD;omega
    have bU:O≠w.heap.size+1:=by simp at bE;omega
    have zB:w.heap.size+1<W3.heap.size:=by have:=L.out.size;omega
    have nR:V3.heap.size≠w.heap.size+1:=by omega
    have a5:=hid aQ;have a4:=hid aN;clear aU bD bE a9 aQ aN;go_wp2_with fail
    refine (aHZ (n:=4)).1 ?_;refine aIe (n:=4) rfl (by decide) (gf:=183) (lb:=#[.pointer (some ⟨U,0,none⟩),.pointer (some ⟨O,0,none⟩)]) rfl trivial (aIb func183 (by kernel_rfl) rfl) (gW 3 U O tv W3 (by decide) Ht.out a5.out a4.out) yQ (BY aY aX) (aGj _ _) (fun _=>rfl)
     (fun (pre:List (PI 3)) X=>W3.grownBy X (some (w.heap.size+1))/\Blk X (w.heap.size+1) 43 ((pre.foldl (dB 3) (S3)).map (.int .i64))) (fun _ _ _=>False)
     (fY (fun (pre:List (PI 3))=>(pre.foldl (dB 3) (S3)).map (.int .i64)) zB) (fun _ _ _ _ _ h _ _=>h) ⟨eH (aGj _ _),XB.out⟩
     (fun (x:PI 3) a' X=>∃ Z,W3.heap.size<=Z/\X.heap[Z]? = some (.cells #[.int .i64 (aT x.1 3).p,.int .i64 (aT x.1 3).u] 84 (0,0)) /\
      a'={ tmps:=#[.agg tv,.agg bv,.pointer (some ⟨w.heap.size,0,none⟩),.pointer (some ⟨w.heap.size+1,0,none⟩),.pointer (some ⟨w.heap.size+1+1,0,none⟩),.pointer (some ⟨V3.heap.size,0,none⟩),.int .i64 (x.1:Int),.pointer (some ⟨Z,0,none⟩),undef,.int .i64 3,.bool true,.int .i64 3,.agg tv,.int .i64 3,.func (.func 183) #[] #[.pointer (some ⟨U,0,none⟩),.pointer (some ⟨O,0,none⟩)],.int .i64 (x.1:Int),.agg #[.int .i64 (aT x.1 3).p,.int .i64 (aT x.1 3).u],undef,undef,undef,undef,undef,undef,undef,undef,undef,undef,undef,undef,undef,undef,undef,undef,undef,undef,undef,.int .i64 3,undef],defers:=[] })
     (fun x a'=>gV _) ?_ ?_ ?_ ?_
    rotate_left 1
    rintro l pre x a' X hl ⟨rr,c0⟩ ⟨t,J⟩ ⟨Z,dG,bK,rfl⟩ b3;have aL:=hid (pW (r:=3) (by decide) pre (S3) _ b8.out cO.out);have I:(pre.foldl (dB 3) (S3)).length=16:=by rw[pV];exact b8.out
    have b0:=hid (show pre.foldl (dB 3) (S3)=pre.foldl (dB 3) (S3) from rfl);have bQ:=hid (show (pre++[x]).foldl (dB 3) (S3)=dB 3 (pre.foldl (dB 3) (S3)) x by rw[aHt];rfl);obtain⟨F,bC⟩:∃ F,pre.foldl (dB 3) (S3)=F:=⟨_,rfl⟩;rw[bC]at J aL I bQ;clear b0 bC;have aG:=x.2.1;have hm:=eX (r:=3) (by decide) x;have bB:bits .or .i64 (x.1:Int) 8=((x.1+2 ^ 3:Nat):Int):=(jJ ⟨3,by decide⟩ ⟨x.1,aG⟩ x.2.2).1;have a0:=oY 3 x;obtain⟨y,hy⟩:=aE I aG;obtain⟨z,hz⟩:=aE I hm;have a2:=oX (M:=(27*M+238) / 8) (by have:=bP.out;omega) b3;have ty:cI y:=by have:=aL.out.turnable a2 aG;rwa [aD hy]at this
    have tz:cI z:=by have:=aL.out.turnable a2 hm;rwa [aD hz]at this
    have HT:=hid (fun W=>lJ y z (aT x.1 3) W (iO (aG6 _ (by decide))) ty tz);have aZ:=hid (fun (W:World) (h:Blk W (w.heap.size+1) 43 (F.map (.int .i64)))=>yY x (aD hy) (aD hz) rfl h);have bH:(F.map (Value.int .i64))[x.1]? = some (.int .i64 y):=by rw[aF5,hy];rfl
    have bI:(F.map (Value.int .i64))[x.1+2 ^ 3]? = some (.int .i64 z):=by rw[aF5,hz];rfl
    have cZ:F.length=16:=I;have c7:=hid I;generalize dQ y z (aT x.1 3)=Y at *
    generalize eK y z (aT x.1 3)=Zz at *
    generalize aT x.1 3=tk at *
    obtain⟨p,u⟩:=tk;simp only at HT bK;obtain⟨i,hi⟩:∃ i:Nat,x.1=i:=⟨_,rfl⟩;obtain⟨j,hj⟩:∃ j:Nat,x.1+2 ^ 3=j:=⟨_,rfl⟩;rw[hj]at hm bB a0 bI aZ;rw[hi]at aG bB a0 bH aZ ⊢;have cr:X.cell? ⟨V3.heap.size,0,none⟩=some (.int .i64 3):=aGo X _ 0 _ _ _ ((t.block _ (hlt Xr.out) (by simpa using nR)).trans Xr.out)
    rotate_left 1
    case refine_4=>exact fun D c pre X _ _ h=>h.elim
    focus
     rintro D3 ys V4 eO rfl ⟨t,J⟩ hK;have d3:w.heap.size+3<=D3:=by have:=L.out.size;omega
     have y3:D2<D3:=by have:=L.out.size;omega
     have v3:D3<V4.heap.size:=hlt hK;have M3:=hid hK;have M0:=hid ((t.block _ (hlt (aF M0.out L.out)) (by simp;omega)).trans (aF M0.out L.out));have v0:D0<V4.heap.size:=hlt M0.out;have M1:=hid ((t.block _ (hlt (aF M1.out L.out)) (by simp;omega)).trans (aF M1.out L.out));have v1:D1<V4.heap.size:=hlt M1.out;have M2:=hid ((t.block _ (hlt (aF M2.out L.out)) (by simp;omega)).trans (aF M2.out L.out));have v2:D2<V4.heap.size:=hlt M2.out;have N4:=hid ((t.block _ (hlt (aF N3.out L.out)) (by simp)).trans (aF N3.out L.out));have B4:=hid (show Blk V4 (w.heap.size+1) 43 ((stN 3 (S3)).map (.int .i64)) from J);have Z4:=hid ((t.block _ (hlt (aF Z3.out L.out)) (by simp)).trans (aF Z3.out L.out));have z4:w.heap.size+3<=V4.heap.size:=by have:=L.out.size;have:=t.size;omega
     have L4:=hid ((aC L3.out L.out).grown t (by have:=L.out.size;omega) (fun k e=>by cases e;omega));have dO:=hid (DX (r:=3) (by decide) b8.out);have eD:=hid (zE (r:=3) (M:=(27*M+238) / 8) (N:=6*M+60) b8.out cO.out (by have:=bP.out;omega) (by decide));obtain⟨S4,aS⟩:∃ S,stN 3 (S3)=S:=⟨_,rfl⟩;rw[aS]at B4 dO eD;have E4:=hid aS;clear aS;clear t J hK eO L Xr XB aY aX bV bU zB nR a5 a4 z3 N3 B3 Z3 L3 b8 cO;go_wp2_with fail
     rw[rounds_succ];have dZ:=dO.out;have HE:=hid (show stN 3 (stN 2 (stN 1 (stN 0 b)))=S4 by rw[E1.out,E2.out,E3.out,E4.out]);have c1:(S4.map (Value.int .i64)).toArray.size=16:=by simp[dZ]
     have H1:=hid (fE S4);have dM:=hid (show V4.heap[w.heap.size+1]? = some (.cells (S4.map (Value.int .i64)).toArray 43 (0,0)) from B4.out);obtain⟨xs,dH⟩:∃ xs,(S4.map (Value.int .i64)).toArray=xs:=⟨_,rfl⟩;rw[dH]at c1 H1 dM;have HF:=hid (show (prog.info? 43).map (·.size)=some xs.size by rw[c1];exact bJ);have eB:=hid dH;have eE:=hid (show (16:Nat)=xs.size from c1.symm);clear c1 dH dZ;go_wp2_with (first|(refine aB rfl 43 (.tmp 3) rfl (w.heap.size+1) rfl _ xs _ _ dM.out underlying43 rfl HF.out ?_)|(refine aA rfl 43 (.tmp 4) (.tmp 37) rfl (w.heap.size+1+1) rfl _ _ xs rfl Z4.out HF.out (by exact eE.out) H1.out ?_))
     have o3:=fun k (hk:k≠w.heap.size+1+1)=>aHy V4 (w.heap.size+1+1) k xs hk
     refine CC ((o3 D3 (by omega)).trans M3.out) ((o3 D2 (by omega)).trans M2.out) ((o3 D1 (by omega)).trans M1.out) ((o3 D0 (by omega)).trans M0.out) (by omega) (by omega) (by omega) ?_;refine⟨.agg xs,aG9 results207 _ _ (w.heap.size+1+1) 43 xs (0,0) _ rfl ((aHn (by omega)).trans ((aHn (by omega)).trans ((aHn (by omega)).trans ((aHn (by omega)).trans (bA V4 _ _ _ xs Z4.out))))) underlying43 rfl HF.out,?_⟩;exact⟨by rw[HE.out,eB.out],kV (kV (kV (kV (aO L4.out _ (by omega) _) (by omega) _) (by omega) _) (by omega) _) (by omega) _⟩
 iterate 4
  next =>
   intro l pre x X K hI hK;dsimp only[aCZ]
   gi_wp2
   exact hK _ _ ((KeepsOthers.alloc _ _).from _) (LH (aGM aY hI.1.size) (aGM aX hI.1.size) (aP _ _)) ⟨hI.1.trans (eH (aP _ _)),hI.2.alloc _⟩ ⟨X.heap.size,hI.1.size,LT _ _,rfl⟩
  next =>
   have q1:(0:Int)<=(i:Int):=by omega
   have q2:(i:Int)<16:=by omega
   have q3:(0:Int)<=(j:Int):=by omega
   have q4:(j:Int)<16:=by omega
   have x5:=fun (v:GW X)=>(iX J v i).trans bH
   have z5:=fun (v:GW X)=>(iX J v j).trans bI
   have p5:=fun (v:GW X)=>dR bK v 0
   have u5:=fun (v:GW X)=>dR bK v 1
   have HG:=hid t;have dN:=hid J;have Hy:=hid bH;have Hz:=hid bI;clear t J hi hj hy hz ty tz bH bI I cZ bK c0
   gi_wp2
   refine pE (v0:=.int .i64 (i:Int)) (v1:=.int .i64 (j:Int)) rfl rfl rfl rfl rfl rfl rfl rfl (by kernel_rfl) (by kernel_rfl) (by kernel_rfl) ?_ ?_ (.inl ⟨by rfl,fun W=>by go_simp⟩) (.inl ⟨by rfl,fun W=>by go_simp⟩) ?_
   ·rintro⟨a,w,h⟩;exact h
   ·intro c a' w' d v h;exact h
   simp only[List.take_succ_cons,List.take_zero,aGO,aGR];go_simp
   repeat (first|go_big_quiet_step ((go_at_call 228;exact bY (HT.out _))))
   refine aGv ?_;refine⟨.int .i64 Zz,.inl ⟨by rfl,fun W=>by go_simp⟩,?_⟩;rintro⟨X5,dE⟩;dsimp only;have cE:=dN.out.below dE dN.out.lt;have d9:=hid cE;have eC:=hid (eH (row:=some (w.heap.size+1)) dE);have ce:X5.cell? ⟨w.heap.size+1,i,none⟩=some (.int .i64 y):=(cE.cell i).trans Hy.out;have fz:=cE.frozen i;have S1:=hid (cE.set_ i (.int .i64 Y));have e0:(X5.setCell ⟨w.heap.size+1,i,none⟩ (.int .i64 Y)).cell? ⟨w.heap.size+1,j,none⟩=some (.int .i64 z):=by rw[S1.out.cell,aHu,sL a0];exact Hz.out
   have e6:=S1.out.frozen j;clear dE cE x5 z5 p5 u5;go_wp2;have G:X.grownBy ((X5.setCell ⟨w.heap.size+1,i,none⟩ (.int .i64 Y)).setCell ⟨w.heap.size+1,j,none⟩ (.int .i64 Zz)) (some (w.heap.size+1)):=(eC.out.trans (uH _)).trans (uH _);exact⟨KeepsFrom.of_grownBy G (fun j e=>by cases e;exact zB),⟨G.block U (aGM aY HG.out.size) (by simpa using bV),G.block O (aGM aX HG.out.size) (by simpa using bU)⟩,HG.out.trans G,by rw[bQ.out];exact aZ.out X5 d9.out⟩
end
section
open Go.RowKit Go.Shelf
attribute [local go_sem] Oper.semAt_some
theorem BD(tv:Array Value)(b:List Int)(M:Int)(w:World)(eM:tv.size=16)(ht:EO tv)(hb:b.length=16)(hM:0<=M/\M<=2147483648)(hl:Within M b):
  Calls prog 129 #[.agg tv,aR b] w fun e w'=>e=.returned (aR (stU 0 (stU 1 (stU 2 (stU 3 b)))))/\Below w.heap.size w w':=by
 have Ht:=hid ht;have cR:=hid (show (prog.info? 89).map (·.size)=some tv.size by rw[eM];kernel_rfl);have H4:=hid (aE8 w (.cells tv 89) (.cells (b.map (Value.int .i64)).toArray 43) (.cells #[Value.int IntKind.i64 0,Value.int IntKind.i64 0,Value.int IntKind.i64 0,Value.int IntKind.i64 0,Value.int IntKind.i64 0,Value.int IntKind.i64 0,Value.int IntKind.i64 0,Value.int IntKind.i64 0,Value.int IntKind.i64 0,Value.int IntKind.i64 0,Value.int IntKind.i64 0,Value.int IntKind.i64 0,Value.int IntKind.i64 0,Value.int IntKind.i64 0,Value.int IntKind.i64 0,Value.int IntKind.i64 0] 43) (.cells #[.int .i64 3] 3));have cL:=hid hb;have dK:=hid hl;have bV:=hid hM;clear ht eM hb hl hM;unfold aR;obtain⟨bv,dU⟩:∃ bv,(b.map (Value.int .i64)).toArray=bv:=⟨_,rfl⟩;rw[dU]at H4 ⊢;have d8:=hid dU;clear dU;refine (aJd (n:=4)).1 ?_;refine callsIn_of_wp_marks func129 rfl trivial ?_ rfl;refine aHZ.2 ?_;simp only[ntmps129,aGH,List.length_cons,List.length_nil,Nat.reduceAdd,Nat.reduceSub,aJy,Array.replicate_zero,aJV,aJK,List.nil_append,List.cons_append];go_wp2_with fail
 obtain⟨V0,eK⟩:∃ V,(((w.alloc (.cells tv 89)).alloc (.cells bv 43)).alloc (.cells #[Value.int IntKind.i64 0,Value.int IntKind.i64 0,Value.int IntKind.i64 0,Value.int IntKind.i64 0,Value.int IntKind.i64 0,Value.int IntKind.i64 0,Value.int IntKind.i64 0,Value.int IntKind.i64 0,Value.int IntKind.i64 0,Value.int IntKind.i64 0,Value.int IntKind.i64 0,Value.int IntKind.i64 0,Value.int IntKind.i64 0,Value.int IntKind.i64 0,Value.int IntKind.i64 0,Value.int IntKind.i64 0] 43)).alloc (.cells #[.int .i64 3] 3)=V:=⟨_,rfl⟩;rw[eK]at H4 ⊢;clear eK;have N0:=hid H4.out.1;have B0:=hid (show Blk V0 (w.heap.size+1) 43 (b.map (.int .i64)) by unfold Blk;rw[d8.out];exact H4.out.2.1);have Z0:=hid H4.out.2.2.1;obtain⟨P0,eJ⟩:∃ P,w.heap.size+1+1+1=P:=⟨_,rfl⟩;rw[eJ]at H4 ⊢;have X0:=hid H4.out.2.2.2.1;have p0:w.heap.size+3<=P0:=by omega
 have z0:w.heap.size+3<=V0.heap.size:=by have:=H4.out.2.2.2.2.1;omega
 have L0:=hid H4.out.2.2.2.2.2;clear H4 d8 eJ;refine aHD 5 ?_;have HP:=hid (fun W=>kT tv 3 W);rw[rounds_succ];have c5:V0.cell? ⟨P0,0,none⟩=some (.int .i64 3):=aGo _ _ 0 _ _ _ X0.out;go_wp2_with (first|(go_at_call 161;fail)|(refine aB rfl 89 (.tmp 2) rfl w.heap.size rfl _ tv _ _ N0.out underlying89 rfl cR.out ?_))
 refine (HP.out _).mono ?_;clear HP c5;rintro e W0 ⟨Br,Z,rfl,b7,b8,aW,aV,aY⟩;have L:=hid aY;have J:=hid (aF X0.out aY);have XB:=hid (B0.out.below L.out B0.out.lt);have a1:=hlt aW;have a0:=hlt aV;have b2:Br≠w.heap.size+1:=by omega
 have b1:Z≠w.heap.size+1:=by omega
 have zB:w.heap.size+1<W0.heap.size:=by have:=L.out.size;omega
 have nR:P0≠w.heap.size+1:=by omega
 have bB:=hid aW;have a9:=hid aV;clear aY b7 b8 aW aV;go_wp2_with fail
 refine (aHZ (n:=4)).1 ?_;refine aIe (n:=4) rfl (by decide) (gf:=183) (lb:=#[.pointer (some ⟨Br,0,none⟩),.pointer (some ⟨Z,0,none⟩)]) rfl trivial (aIb func183 (by kernel_rfl) rfl) (gW 3 Br Z tv W0 (by decide) Ht.out bB.out a9.out) yQ (BY a1 a0) (aGj _ _) (fun _=>rfl)
  (fun (pre:List (PI 3)) X=>W0.grownBy X (some (w.heap.size+1))/\Blk X (w.heap.size+1) 43 ((pre.foldl (eF 3) b).map (.int .i64))) (fun _ _ _=>False)
  (fY (fun (pre:List (PI 3))=>(pre.foldl (eF 3) b).map (.int .i64)) zB) (fun _ _ _ _ _ h _ _=>h) ⟨eH (aGj _ _),XB.out⟩
  (fun (x:PI 3) a' X=>∃ Bx,W0.heap.size<=Bx/\X.heap[Bx]? = some (.cells #[.int .i64 (aT x.1 3).p,.int .i64 (aT x.1 3).u] 84 (0,0)) /\
   a'={ tmps:=#[.agg tv,.agg bv,.pointer (some ⟨w.heap.size,0,none⟩),.pointer (some ⟨w.heap.size+1,0,none⟩),.pointer (some ⟨w.heap.size+1+1,0,none⟩),.pointer (some ⟨P0,0,none⟩),.int .i64 (x.1:Int),.pointer (some ⟨Bx,0,none⟩),undef,.int .i64 3,.bool true,undef,undef,.agg tv,.int .i64 3,.func (.func 183) #[] #[.pointer (some ⟨Br,0,none⟩),.pointer (some ⟨Z,0,none⟩)],.int .i64 (x.1:Int),.agg #[.int .i64 (aT x.1 3).p,.int .i64 (aT x.1 3).u],undef,undef,undef,undef,undef,undef,undef,undef,undef,undef,undef,undef,undef,undef,undef,undef,undef,undef,undef,undef,undef],defers:=[] })
  (fun x a'=>gV _) ?_ ?_ ?_ ?_
 rotate_left 1
 rintro l pre x a' X hl ⟨rr,dB⟩ ⟨F,O⟩ ⟨Bx,dV,bQ,rfl⟩ b6;have aU:=hid (pY (r:=3) (by decide) pre b _ cL.out dK.out);have aM:(pre.foldl (eF 3) b).length=16:=by rw[pX];exact cL.out
 have bW:=hid (show (pre++[x]).foldl (eF 3) b=eF 3 (pre.foldl (eF 3) b) x by rw[aHt];rfl);obtain⟨U,bL⟩:∃ U,pre.foldl (eF 3) b=U:=⟨_,rfl⟩;rw[bL]at O aU aM bW;clear bL;have aI:=x.2.1;have hm:=eX (r:=3) (by decide) x;have bK:bits .or .i64 (x.1:Int) 8=((x.1+2 ^ 3:Nat):Int):=(jJ ⟨3,by decide⟩ ⟨x.1,aI⟩ x.2.2).1;have a4:=oY 3 x;obtain⟨y,hy⟩:=aE aM aI;obtain⟨z,hz⟩:=aE aM hm;have a7:=oX (M:=M) (by have:=bV.out;omega) b6;have ty:cI y:=by have:=aU.out.turnable a7 aI;rwa [aD hy]at this
 have tz:cI z:=by have:=aU.out.turnable a7 hm;rwa [aD hz]at this
 have HT:=hid (fun W=>iC y z (aT x.1 3) W (iO (aG6 _ (by decide))) ty tz);have a2:=hid (fun (W:World) (h:Blk W (w.heap.size+1) 43 (U.map (.int .i64)))=>uQ x (aD hy) (aD hz) rfl h);have bO:(U.map (Value.int .i64))[x.1]? = some (.int .i64 y):=by rw[aF5,hy];rfl
 have bP:(U.map (Value.int .i64))[x.1+2 ^ 3]? = some (.int .i64 z):=by rw[aF5,hz];rfl
 generalize unA y z (aT x.1 3)=Y at *
 generalize unB y z (aT x.1 3)=Zz at *
 generalize aT x.1 3=tk at *
 obtain⟨p,u⟩:=tk;simp only at HT bQ;obtain⟨i,hi⟩:∃ i:Nat,x.1=i:=⟨_,rfl⟩;obtain⟨j,hj⟩:∃ j:Nat,x.1+2 ^ 3=j:=⟨_,rfl⟩;rw[hj]at hm bK a4 bP a2;rw[hi]at aI bK a4 bO a2 ⊢;have cr:X.cell? ⟨P0,0,none⟩=some (.int .i64 3):=aGo X _ 0 _ _ _ ((F.block _ (hlt J.out) (by simpa using nR)).trans J.out)
 rotate_left 1
 case refine_4=>exact fun D c pre X _ _ h=>h.elim
 focus
  rintro D0 ys X b5 rfl ⟨F,O⟩ hK;have d0:w.heap.size+3<=D0:=by have:=L.out.size;omega
  have v0:D0<X.heap.size:=hlt hK;have I:=hid hK;have NX:=hid ((F.block _ (hlt (aF N0.out L.out)) (by simp)).trans (aF N0.out L.out));have BX:=hid (show Blk X (w.heap.size+1) 43 ((stU 3 b).map (.int .i64)) from O);have ZX:=hid ((F.block _ (hlt (aF Z0.out L.out)) (by simp)).trans (aF Z0.out L.out));have zX:w.heap.size+3<=X.heap.size:=by have:=L.out.size;have:=F.size;omega
  have LX:=hid ((aC L0.out L.out).grown F (by have:=L.out.size;omega) (fun k e=>by cases e;omega));have cB:=hid (DY (r:=3) (by decide) cL.out);have cS:=hid (zF (r:=3) (M:=M) (N:=(3*M+9) / 2) cL.out dK.out (by have:=bV.out;omega) (by decide));have cr:X.cell? ⟨P0,0,none⟩=some (.int .i64 3):=aGo X _ 0 _ _ _ ((F.block _ (hlt J.out) (by simpa using nR)).trans J.out);obtain⟨S1,aX⟩:∃ S,stU 3 b=S:=⟨_,rfl⟩;rw[aX]at BX cB cS;have E1:=hid aX;clear aX F O hK b5 L J XB a1 a0 b2 b1 zB nR bB a9 z0 N0 B0 Z0 L0 cL dK X0 p0;go_wp2_with fail
  obtain⟨V1,t⟩:∃ V,X.alloc (.cells #[.int .i64 2] 3)=V:=⟨_,rfl⟩;rw[t];have N1:=hid (t▸aF NX.out (aP X (.cells #[.int .i64 2] 3)));have B1:=hid (t▸BX.out.alloc (.cells #[.int .i64 2] 3));have Z1:=hid (t▸aF ZX.out (aP X (.cells #[.int .i64 2] 3)));have X1:=hid (t▸LT X (.cells #[.int .i64 2] 3));have L1:=hid (t▸aC LX.out (aP X (.cells #[.int .i64 2] 3)));have z1:w.heap.size+3<=V1.heap.size:=by rw[<-t,aG5];omega
  have I:=hid (t▸aF I.out (aP X (.cells #[.int .i64 2] 3)));have v0:D0<V1.heap.size:=hlt I.out;obtain⟨P1,bI⟩:∃ P,X.heap.size=P:=⟨_,rfl⟩;rw[bI]at X1 ⊢;have p1:w.heap.size+3<=P1:=by omega
  clear t bI NX BX ZX LX cr zX;have HP:=hid (fun W=>kT tv 2 W);rw[rounds_succ];have c5:V1.cell? ⟨P1,0,none⟩=some (.int .i64 2):=aGo _ _ 0 _ _ _ X1.out;go_wp2_with (first|(go_at_call 161;fail)|(refine aB rfl 89 (.tmp 2) rfl w.heap.size rfl _ tv _ _ N1.out underlying89 rfl cR.out ?_))
  refine (HP.out _).mono ?_;clear HP c5;rintro e W1 ⟨Br,Z,rfl,b7,b8,aW,aV,aY⟩;have L:=hid aY;have J:=hid (aF X1.out aY);have XB:=hid (B1.out.below L.out B1.out.lt);have a1:=hlt aW;have a0:=hlt aV;have b2:Br≠w.heap.size+1:=by omega
  have b1:Z≠w.heap.size+1:=by omega
  have zB:w.heap.size+1<W1.heap.size:=by have:=L.out.size;omega
  have nR:P1≠w.heap.size+1:=by omega
  have bB:=hid aW;have a9:=hid aV;clear aY b7 b8 aW aV;go_wp2_with fail
  refine (aHZ (n:=4)).1 ?_;refine aIe (n:=4) rfl (by decide) (gf:=183) (lb:=#[.pointer (some ⟨Br,0,none⟩),.pointer (some ⟨Z,0,none⟩)]) rfl trivial (aIb func183 (by kernel_rfl) rfl) (gW 2 Br Z tv W1 (by decide) Ht.out bB.out a9.out) yQ (BY a1 a0) (aGj _ _) (fun _=>rfl)
   (fun (pre:List (PI 2)) X=>W1.grownBy X (some (w.heap.size+1))/\Blk X (w.heap.size+1) 43 ((pre.foldl (eF 2) S1).map (.int .i64))) (fun _ _ _=>False)
   (fY (fun (pre:List (PI 2))=>(pre.foldl (eF 2) S1).map (.int .i64)) zB) (fun _ _ _ _ _ h _ _=>h) ⟨eH (aGj _ _),XB.out⟩
   (fun (x:PI 2) a' X=>∃ Bx,W1.heap.size<=Bx/\X.heap[Bx]? = some (.cells #[.int .i64 (aT x.1 2).p,.int .i64 (aT x.1 2).u] 84 (0,0)) /\
    a'={ tmps:=#[.agg tv,.agg bv,.pointer (some ⟨w.heap.size,0,none⟩),.pointer (some ⟨w.heap.size+1,0,none⟩),.pointer (some ⟨w.heap.size+1+1,0,none⟩),.pointer (some ⟨P1,0,none⟩),.int .i64 (x.1:Int),.pointer (some ⟨Bx,0,none⟩),undef,.int .i64 2,.bool true,.int .i64 3,.int .i64 2,.agg tv,.int .i64 2,.func (.func 183) #[] #[.pointer (some ⟨Br,0,none⟩),.pointer (some ⟨Z,0,none⟩)],.int .i64 (x.1:Int),.agg #[.int .i64 (aT x.1 2).p,.int .i64 (aT x.1 2).u],undef,undef,undef,undef,undef,undef,undef,undef,undef,undef,undef,undef,undef,undef,undef,undef,undef,undef,undef,.int .i64 3,undef],defers:=[] })
   (fun x a'=>gV _) ?_ ?_ ?_ ?_
  rotate_left 1
  rintro l pre x a' X hl ⟨rr,dB⟩ ⟨F,O⟩ ⟨Bx,dV,bQ,rfl⟩ b6;have aU:=hid (pY (r:=2) (by decide) pre S1 _ cB.out cS.out);have aM:(pre.foldl (eF 2) S1).length=16:=by rw[pX];exact cB.out
  have bW:=hid (show (pre++[x]).foldl (eF 2) S1=eF 2 (pre.foldl (eF 2) S1) x by rw[aHt];rfl);obtain⟨U,bL⟩:∃ U,pre.foldl (eF 2) S1=U:=⟨_,rfl⟩;rw[bL]at O aU aM bW;clear bL;have aI:=x.2.1;have hm:=eX (r:=2) (by decide) x;have bK:bits .or .i64 (x.1:Int) 4=((x.1+2 ^ 2:Nat):Int):=(jJ ⟨2,by decide⟩ ⟨x.1,aI⟩ x.2.2).1;have a4:=oY 2 x;obtain⟨y,hy⟩:=aE aM aI;obtain⟨z,hz⟩:=aE aM hm;have a7:=oX (M:=(3*M+9) / 2) (by have:=bV.out;omega) b6;have ty:cI y:=by have:=aU.out.turnable a7 aI;rwa [aD hy]at this
  have tz:cI z:=by have:=aU.out.turnable a7 hm;rwa [aD hz]at this
  have HT:=hid (fun W=>iC y z (aT x.1 2) W (iO (aG6 _ (by decide))) ty tz);have a2:=hid (fun (W:World) (h:Blk W (w.heap.size+1) 43 (U.map (.int .i64)))=>uQ x (aD hy) (aD hz) rfl h);have bO:(U.map (Value.int .i64))[x.1]? = some (.int .i64 y):=by rw[aF5,hy];rfl
  have bP:(U.map (Value.int .i64))[x.1+2 ^ 2]? = some (.int .i64 z):=by rw[aF5,hz];rfl
  generalize unA y z (aT x.1 2)=Y at *
  generalize unB y z (aT x.1 2)=Zz at *
  generalize aT x.1 2=tk at *
  obtain⟨p,u⟩:=tk;simp only at HT bQ;obtain⟨i,hi⟩:∃ i:Nat,x.1=i:=⟨_,rfl⟩;obtain⟨j,hj⟩:∃ j:Nat,x.1+2 ^ 2=j:=⟨_,rfl⟩;rw[hj]at hm bK a4 bP a2;rw[hi]at aI bK a4 bO a2 ⊢;have cr:X.cell? ⟨P1,0,none⟩=some (.int .i64 2):=aGo X _ 0 _ _ _ ((F.block _ (hlt J.out) (by simpa using nR)).trans J.out)
  rotate_left 1
  case refine_4=>exact fun D c pre X _ _ h=>h.elim
  focus
   rintro D1 ys X b5 rfl ⟨F,O⟩ hK;have d1:w.heap.size+3<=D1:=by have:=L.out.size;omega
   have y1:D0<D1:=by have:=L.out.size;omega
   have v1:D1<X.heap.size:=hlt hK;have M1:=hid hK;have I:=hid ((F.block _ (hlt (aF I.out L.out)) (by simp;omega)).trans (aF I.out L.out));have v0:D0<X.heap.size:=hlt I.out;have NX:=hid ((F.block _ (hlt (aF N1.out L.out)) (by simp)).trans (aF N1.out L.out));have BX:=hid (show Blk X (w.heap.size+1) 43 ((stU 2 S1).map (.int .i64)) from O);have ZX:=hid ((F.block _ (hlt (aF Z1.out L.out)) (by simp)).trans (aF Z1.out L.out));have zX:w.heap.size+3<=X.heap.size:=by have:=L.out.size;have:=F.size;omega
   have LX:=hid ((aC L1.out L.out).grown F (by have:=L.out.size;omega) (fun k e=>by cases e;omega));have cC:=hid (DY (r:=2) (by decide) cB.out);have cT:=hid (zF (r:=2) (M:=(3*M+9) / 2) (N:=(9*M+56) / 4) cB.out cS.out (by have:=bV.out;omega) (by decide));have cr:X.cell? ⟨P1,0,none⟩=some (.int .i64 2):=aGo X _ 0 _ _ _ ((F.block _ (hlt J.out) (by simpa using nR)).trans J.out);obtain⟨S2,aX⟩:∃ S,stU 2 S1=S:=⟨_,rfl⟩;rw[aX]at BX cC cT;have E2:=hid aX;clear aX F O hK b5 L J XB a1 a0 b2 b1 zB nR bB a9 z1 N1 B1 Z1 L1 cB cS X1 p1;go_wp2_with fail
   obtain⟨V2,t⟩:∃ V,X.alloc (.cells #[.int .i64 1] 3)=V:=⟨_,rfl⟩;rw[t];have N2:=hid (t▸aF NX.out (aP X (.cells #[.int .i64 1] 3)));have B2:=hid (t▸BX.out.alloc (.cells #[.int .i64 1] 3));have Z2:=hid (t▸aF ZX.out (aP X (.cells #[.int .i64 1] 3)));have X2:=hid (t▸LT X (.cells #[.int .i64 1] 3));have L2:=hid (t▸aC LX.out (aP X (.cells #[.int .i64 1] 3)));have z2:w.heap.size+3<=V2.heap.size:=by rw[<-t,aG5];omega
   have I:=hid (t▸aF I.out (aP X (.cells #[.int .i64 1] 3)));have v0:D0<V2.heap.size:=hlt I.out;have M1:=hid (t▸aF M1.out (aP X (.cells #[.int .i64 1] 3)));have v1:D1<V2.heap.size:=hlt M1.out;obtain⟨P2,bI⟩:∃ P,X.heap.size=P:=⟨_,rfl⟩;rw[bI]at X2 ⊢;have p2:w.heap.size+3<=P2:=by omega
   clear t bI NX BX ZX LX cr zX;have HP:=hid (fun W=>kT tv 1 W);rw[rounds_succ];have c5:V2.cell? ⟨P2,0,none⟩=some (.int .i64 1):=aGo _ _ 0 _ _ _ X2.out;go_wp2_with (first|(go_at_call 161;fail)|(refine aB rfl 89 (.tmp 2) rfl w.heap.size rfl _ tv _ _ N2.out underlying89 rfl cR.out ?_))
   refine (HP.out _).mono ?_;clear HP c5;rintro e W2 ⟨Br,Z,rfl,b7,b8,aW,aV,aY⟩;have L:=hid aY;have J:=hid (aF X2.out aY);have XB:=hid (B2.out.below L.out B2.out.lt);have a1:=hlt aW;have a0:=hlt aV;have b2:Br≠w.heap.size+1:=by omega
   have b1:Z≠w.heap.size+1:=by omega
   have zB:w.heap.size+1<W2.heap.size:=by have:=L.out.size;omega
   have nR:P2≠w.heap.size+1:=by omega
   have bB:=hid aW;have a9:=hid aV;clear aY b7 b8 aW aV;go_wp2_with fail
   refine (aHZ (n:=4)).1 ?_;refine aIe (n:=4) rfl (by decide) (gf:=183) (lb:=#[.pointer (some ⟨Br,0,none⟩),.pointer (some ⟨Z,0,none⟩)]) rfl trivial (aIb func183 (by kernel_rfl) rfl) (gW 1 Br Z tv W2 (by decide) Ht.out bB.out a9.out) yQ (BY a1 a0) (aGj _ _) (fun _=>rfl)
    (fun (pre:List (PI 1)) X=>W2.grownBy X (some (w.heap.size+1))/\Blk X (w.heap.size+1) 43 ((pre.foldl (eF 1) S2).map (.int .i64))) (fun _ _ _=>False)
    (fY (fun (pre:List (PI 1))=>(pre.foldl (eF 1) S2).map (.int .i64)) zB) (fun _ _ _ _ _ h _ _=>h) ⟨eH (aGj _ _),XB.out⟩
    (fun (x:PI 1) a' X=>∃ Bx,W2.heap.size<=Bx/\X.heap[Bx]? = some (.cells #[.int .i64 (aT x.1 1).p,.int .i64 (aT x.1 1).u] 84 (0,0)) /\
     a'={ tmps:=#[.agg tv,.agg bv,.pointer (some ⟨w.heap.size,0,none⟩),.pointer (some ⟨w.heap.size+1,0,none⟩),.pointer (some ⟨w.heap.size+1+1,0,none⟩),.pointer (some ⟨P2,0,none⟩),.int .i64 (x.1:Int),.pointer (some ⟨Bx,0,none⟩),undef,.int .i64 1,.bool true,.int .i64 2,.int .i64 1,.agg tv,.int .i64 1,.func (.func 183) #[] #[.pointer (some ⟨Br,0,none⟩),.pointer (some ⟨Z,0,none⟩)],.int .i64 (x.1:Int),.agg #[.int .i64 (aT x.1 1).p,.int .i64 (aT x.1 1).u],undef,undef,undef,undef,undef,undef,undef,undef,undef,undef,undef,undef,undef,undef,undef,undef,undef,undef,undef,.int .i64 2,undef],defers:=[] })
    (fun x a'=>gV _) ?_ ?_ ?_ ?_
   rotate_left 1
   rintro l pre x a' X hl ⟨rr,dB⟩ ⟨F,O⟩ ⟨Bx,dV,bQ,rfl⟩ b6;have aU:=hid (pY (r:=1) (by decide) pre S2 _ cC.out cT.out);have aM:(pre.foldl (eF 1) S2).length=16:=by rw[pX];exact cC.out
   have bW:=hid (show (pre++[x]).foldl (eF 1) S2=eF 1 (pre.foldl (eF 1) S2) x by rw[aHt];rfl);obtain⟨U,bL⟩:∃ U,pre.foldl (eF 1) S2=U:=⟨_,rfl⟩;rw[bL]at O aU aM bW;clear bL;have aI:=x.2.1;have hm:=eX (r:=1) (by decide) x;have bK:bits .or .i64 (x.1:Int) 2=((x.1+2 ^ 1:Nat):Int):=(jJ ⟨1,by decide⟩ ⟨x.1,aI⟩ x.2.2).1;have a4:=oY 1 x;obtain⟨y,hy⟩:=aE aM aI;obtain⟨z,hz⟩:=aE aM hm;have a7:=oX (M:=(9*M+56) / 4) (by have:=bV.out;omega) b6;have ty:cI y:=by have:=aU.out.turnable a7 aI;rwa [aD hy]at this
   have tz:cI z:=by have:=aU.out.turnable a7 hm;rwa [aD hz]at this
   have HT:=hid (fun W=>iC y z (aT x.1 1) W (iO (aG6 _ (by decide))) ty tz);have a2:=hid (fun (W:World) (h:Blk W (w.heap.size+1) 43 (U.map (.int .i64)))=>uQ x (aD hy) (aD hz) rfl h);have bO:(U.map (Value.int .i64))[x.1]? = some (.int .i64 y):=by rw[aF5,hy];rfl
   have bP:(U.map (Value.int .i64))[x.1+2 ^ 1]? = some (.int .i64 z):=by rw[aF5,hz];rfl
   generalize unA y z (aT x.1 1)=Y at *
   generalize unB y z (aT x.1 1)=Zz at *
   generalize aT x.1 1=tk at *
   obtain⟨p,u⟩:=tk;simp only at HT bQ;obtain⟨i,hi⟩:∃ i:Nat,x.1=i:=⟨_,rfl⟩;obtain⟨j,hj⟩:∃ j:Nat,x.1+2 ^ 1=j:=⟨_,rfl⟩;rw[hj]at hm bK a4 bP a2;rw[hi]at aI bK a4 bO a2 ⊢;have cr:X.cell? ⟨P2,0,none⟩=some (.int .i64 1):=aGo X _ 0 _ _ _ ((F.block _ (hlt J.out) (by simpa using nR)).trans J.out)
   rotate_left 1
   case refine_4=>exact fun D c pre X _ _ h=>h.elim
   focus
    rintro D2 ys X b5 rfl ⟨F,O⟩ hK;have d2:w.heap.size+3<=D2:=by have:=L.out.size;omega
    have y2:D1<D2:=by have:=L.out.size;omega
    have v2:D2<X.heap.size:=hlt hK;have M2:=hid hK;have I:=hid ((F.block _ (hlt (aF I.out L.out)) (by simp;omega)).trans (aF I.out L.out));have v0:D0<X.heap.size:=hlt I.out;have M1:=hid ((F.block _ (hlt (aF M1.out L.out)) (by simp;omega)).trans (aF M1.out L.out));have v1:D1<X.heap.size:=hlt M1.out;have NX:=hid ((F.block _ (hlt (aF N2.out L.out)) (by simp)).trans (aF N2.out L.out));have BX:=hid (show Blk X (w.heap.size+1) 43 ((stU 1 S2).map (.int .i64)) from O);have ZX:=hid ((F.block _ (hlt (aF Z2.out L.out)) (by simp)).trans (aF Z2.out L.out));have zX:w.heap.size+3<=X.heap.size:=by have:=L.out.size;have:=F.size;omega
    have LX:=hid ((aC L2.out L.out).grown F (by have:=L.out.size;omega) (fun k e=>by cases e;omega));have cD:=hid (DY (r:=1) (by decide) cC.out);have cU:=hid (zF (r:=1) (M:=(9*M+56) / 4) (N:=(27*M+238) / 8) cC.out cT.out (by have:=bV.out;omega) (by decide));have cr:X.cell? ⟨P2,0,none⟩=some (.int .i64 1):=aGo X _ 0 _ _ _ ((F.block _ (hlt J.out) (by simpa using nR)).trans J.out);obtain⟨S3,aX⟩:∃ S,stU 1 S2=S:=⟨_,rfl⟩;rw[aX]at BX cD cU;have E3:=hid aX;clear aX F O hK b5 L J XB a1 a0 b2 b1 zB nR bB a9 z2 N2 B2 Z2 L2 cC cT X2 p2;go_wp2_with fail
    obtain⟨V3,t⟩:∃ V,X.alloc (.cells #[.int .i64 0] 3)=V:=⟨_,rfl⟩;rw[t];have N3:=hid (t▸aF NX.out (aP X (.cells #[.int .i64 0] 3)));have B3:=hid (t▸BX.out.alloc (.cells #[.int .i64 0] 3));have Z3:=hid (t▸aF ZX.out (aP X (.cells #[.int .i64 0] 3)));have X3:=hid (t▸LT X (.cells #[.int .i64 0] 3));have L3:=hid (t▸aC LX.out (aP X (.cells #[.int .i64 0] 3)));have z3:w.heap.size+3<=V3.heap.size:=by rw[<-t,aG5];omega
    have I:=hid (t▸aF I.out (aP X (.cells #[.int .i64 0] 3)));have v0:D0<V3.heap.size:=hlt I.out;have M1:=hid (t▸aF M1.out (aP X (.cells #[.int .i64 0] 3)));have v1:D1<V3.heap.size:=hlt M1.out;have M2:=hid (t▸aF M2.out (aP X (.cells #[.int .i64 0] 3)));have v2:D2<V3.heap.size:=hlt M2.out;obtain⟨P3,bI⟩:∃ P,X.heap.size=P:=⟨_,rfl⟩;rw[bI]at X3 ⊢;have p3:w.heap.size+3<=P3:=by omega
    clear t bI NX BX ZX LX cr zX;have HP:=hid (fun W=>kT tv 0 W);rw[rounds_succ];have c5:V3.cell? ⟨P3,0,none⟩=some (.int .i64 0):=aGo _ _ 0 _ _ _ X3.out;go_wp2_with (first|(go_at_call 161;fail)|(refine aB rfl 89 (.tmp 2) rfl w.heap.size rfl _ tv _ _ N3.out underlying89 rfl cR.out ?_))
    refine (HP.out _).mono ?_;clear HP c5;rintro e W3 ⟨Br,Z,rfl,b7,b8,aW,aV,aY⟩;have L:=hid aY;have J:=hid (aF X3.out aY);have XB:=hid (B3.out.below L.out B3.out.lt);have a1:=hlt aW;have a0:=hlt aV;have b2:Br≠w.heap.size+1:=by omega
    have b1:Z≠w.heap.size+1:=by omega
    have zB:w.heap.size+1<W3.heap.size:=by have:=L.out.size;omega
    have nR:P3≠w.heap.size+1:=by omega
    have bB:=hid aW;have a9:=hid aV;clear aY b7 b8 aW aV;go_wp2_with fail
    refine (aHZ (n:=4)).1 ?_;refine aIe (n:=4) rfl (by decide) (gf:=183) (lb:=#[.pointer (some ⟨Br,0,none⟩),.pointer (some ⟨Z,0,none⟩)]) rfl trivial (aIb func183 (by kernel_rfl) rfl) (gW 0 Br Z tv W3 (by decide) Ht.out bB.out a9.out) yQ (BY a1 a0) (aGj _ _) (fun _=>rfl)
     (fun (pre:List (PI 0)) X=>W3.grownBy X (some (w.heap.size+1))/\Blk X (w.heap.size+1) 43 ((pre.foldl (eF 0) S3).map (.int .i64))) (fun _ _ _=>False)
     (fY (fun (pre:List (PI 0))=>(pre.foldl (eF 0) S3).map (.int .i64)) zB) (fun _ _ _ _ _ h _ _=>h) ⟨eH (aGj _ _),XB.out⟩
     (fun (x:PI 0) a' X=>∃ Bx,W3.heap.size<=Bx/\X.heap[Bx]? = some (.cells #[.int .i64 (aT x.1 0).p,.int .i64 (aT x.1 0).u] 84 (0,0)) /\
      a'={ tmps:=#[.agg tv,.agg bv,.pointer (some ⟨w.heap.size,0,none⟩),.pointer (some ⟨w.heap.size+1,0,none⟩),.pointer (some ⟨w.heap.size+1+1,0,none⟩),.pointer (some ⟨P3,0,none⟩),.int .i64 (x.1:Int),.pointer (some ⟨Bx,0,none⟩),undef,.int .i64 0,.bool true,.int .i64 1,.int .i64 0,.agg tv,.int .i64 0,.func (.func 183) #[] #[.pointer (some ⟨Br,0,none⟩),.pointer (some ⟨Z,0,none⟩)],.int .i64 (x.1:Int),.agg #[.int .i64 (aT x.1 0).p,.int .i64 (aT x.1 0).u],undef,undef,undef,undef,undef,undef,undef,undef,undef,undef,undef,undef,undef,undef,undef,undef,undef,undef,undef,.int .i64 1,undef],defers:=[] })
     (fun x a'=>gV _) ?_ ?_ ?_ ?_
    rotate_left 1
    rintro l pre x a' X hl ⟨rr,dB⟩ ⟨F,O⟩ ⟨Bx,dV,bQ,rfl⟩ b6;have aU:=hid (pY (r:=0) (by decide) pre S3 _ cD.out cU.out);have aM:(pre.foldl (eF 0) S3).length=16:=by rw[pX];exact cD.out
    have bW:=hid (show (pre++[x]).foldl (eF 0) S3=eF 0 (pre.foldl (eF 0) S3) x by rw[aHt];rfl);obtain⟨U,bL⟩:∃ U,pre.foldl (eF 0) S3=U:=⟨_,rfl⟩;rw[bL]at O aU aM bW;clear bL;have aI:=x.2.1;have hm:=eX (r:=0) (by decide) x;have bK:bits .or .i64 (x.1:Int) 1=((x.1+2 ^ 0:Nat):Int):=(jJ ⟨0,by decide⟩ ⟨x.1,aI⟩ x.2.2).1;have a4:=oY 0 x;obtain⟨y,hy⟩:=aE aM aI;obtain⟨z,hz⟩:=aE aM hm;have a7:=oX (M:=(27*M+238) / 8) (by have:=bV.out;omega) b6;have ty:cI y:=by have:=aU.out.turnable a7 aI;rwa [aD hy]at this
    have tz:cI z:=by have:=aU.out.turnable a7 hm;rwa [aD hz]at this
    have HT:=hid (fun W=>iC y z (aT x.1 0) W (iO (aG6 _ (by decide))) ty tz);have a2:=hid (fun (W:World) (h:Blk W (w.heap.size+1) 43 (U.map (.int .i64)))=>uQ x (aD hy) (aD hz) rfl h);have bO:(U.map (Value.int .i64))[x.1]? = some (.int .i64 y):=by rw[aF5,hy];rfl
    have bP:(U.map (Value.int .i64))[x.1+2 ^ 0]? = some (.int .i64 z):=by rw[aF5,hz];rfl
    generalize unA y z (aT x.1 0)=Y at *
    generalize unB y z (aT x.1 0)=Zz at *
    generalize aT x.1 0=tk at *
    obtain⟨p,u⟩:=tk;simp only at HT bQ;obtain⟨i,hi⟩:∃ i:Nat,x.1=i:=⟨_,rfl⟩;obtain⟨j,hj⟩:∃ j:Nat,x.1+2 ^ 0=j:=⟨_,rfl⟩;rw[hj]at hm bK a4 bP a2;rw[hi]at aI bK a4 bO a2 ⊢;have cr:X.cell? ⟨P3,0,none⟩=some (.int .i64 0):=aGo X _ 0 _ _ _ ((F.block _ (hlt J.out) (by simpa using nR)).trans J.out)
    rotate_left 1
    case refine_4=>exact fun D c pre X _ _ h=>h.elim
    focus
     rintro D3 ys X b5 rfl ⟨F,O⟩ hK;have d3:w.heap.size+3<=D3:=by have:=L.out.size;omega
     have y3:D2<D3:=by have:=L.out.size;omega
     have v3:D3<X.heap.size:=hlt hK;have M3:=hid hK;have I:=hid ((F.block _ (hlt (aF I.out L.out)) (by simp;omega)).trans (aF I.out L.out));have v0:D0<X.heap.size:=hlt I.out;have M1:=hid ((F.block _ (hlt (aF M1.out L.out)) (by simp;omega)).trans (aF M1.out L.out));have v1:D1<X.heap.size:=hlt M1.out;have M2:=hid ((F.block _ (hlt (aF M2.out L.out)) (by simp;omega)).trans (aF M2.out L.out));have v2:D2<X.heap.size:=hlt M2.out;have NX:=hid ((F.block _ (hlt (aF N3.out L.out)) (by simp)).trans (aF N3.out L.out));have BX:=hid (show Blk X (w.heap.size+1) 43 ((stU 0 S3).map (.int .i64)) from O);have ZX:=hid ((F.block _ (hlt (aF Z3.out L.out)) (by simp)).trans (aF Z3.out L.out));have zX:w.heap.size+3<=X.heap.size:=by have:=L.out.size;have:=F.size;omega
     have LX:=hid ((aC L3.out L.out).grown F (by have:=L.out.size;omega) (fun k e=>by cases e;omega));have d7:=hid (DY (r:=0) (by decide) cD.out);have eW:=hid (zF (r:=0) (M:=(27*M+238) / 8) (N:=6*M+60) cD.out cU.out (by have:=bV.out;omega) (by decide));have cr:X.cell? ⟨P3,0,none⟩=some (.int .i64 0):=aGo X _ 0 _ _ _ ((F.block _ (hlt J.out) (by simpa using nR)).trans J.out);obtain⟨S4,aX⟩:∃ S,stU 0 S3=S:=⟨_,rfl⟩;rw[aX]at BX d7 eW;have E4:=hid aX;clear aX F O hK b5 L J XB a1 a0 b2 b1 zB nR bB a9 z3 N3 B3 Z3 L3 cD cU X3 p3;go_wp2_with fail
     obtain⟨V4,t⟩:∃ V,X.alloc (.cells #[.int .i64 (-1)] 3)=V:=⟨_,rfl⟩;rw[t];have N4:=hid (t▸aF NX.out (aP X (.cells #[.int .i64 (-1)] 3)));have B4:=hid (t▸BX.out.alloc (.cells #[.int .i64 (-1)] 3));have Z4:=hid (t▸aF ZX.out (aP X (.cells #[.int .i64 (-1)] 3)));have X4:=hid (t▸LT X (.cells #[.int .i64 (-1)] 3));have L4:=hid (t▸aC LX.out (aP X (.cells #[.int .i64 (-1)] 3)));have z4:w.heap.size+3<=V4.heap.size:=by rw[<-t,aG5];omega
     have I:=hid (t▸aF I.out (aP X (.cells #[.int .i64 (-1)] 3)));have v0:D0<V4.heap.size:=hlt I.out;have M1:=hid (t▸aF M1.out (aP X (.cells #[.int .i64 (-1)] 3)));have v1:D1<V4.heap.size:=hlt M1.out;have M2:=hid (t▸aF M2.out (aP X (.cells #[.int .i64 (-1)] 3)));have v2:D2<V4.heap.size:=hlt M2.out;have M3:=hid (t▸aF M3.out (aP X (.cells #[.int .i64 (-1)] 3)));have v3:D3<V4.heap.size:=hlt M3.out;obtain⟨P4,bI⟩:∃ P,X.heap.size=P:=⟨_,rfl⟩;rw[bI]at X4 ⊢;have p4:w.heap.size+3<=P4:=by omega
     clear t bI NX BX ZX LX cr zX;rw[rounds_succ];have eL:=d7.out;have c5:V4.cell? ⟨P4,0,none⟩=some (.int .i64 (-1)):=aGo _ _ 0 _ _ _ X4.out;have HE:=hid (show stU 0 (stU 1 (stU 2 (stU 3 b)))=S4 by rw[E1.out,E2.out,E3.out,E4.out]);have dC:(S4.map (Value.int .i64)).toArray.size=16:=by simp[eL]
     have H1:=hid (fE S4);have d5:=hid (show V4.heap[w.heap.size+1]? = some (.cells (S4.map (Value.int .i64)).toArray 43 (0,0)) from B4.out);obtain⟨xs,dW⟩:∃ xs,(S4.map (Value.int .i64)).toArray=xs:=⟨_,rfl⟩;rw[dW]at dC H1 d5;have HF:=hid (show (prog.info? 43).map (·.size)=some xs.size by rw[dC];exact bJ);have eU:=hid dW;have eY:=hid (show (16:Nat)=xs.size from dC.symm);clear dC dW eL;go_wp2_with (first|(refine aB rfl 43 (.tmp 3) rfl (w.heap.size+1) rfl _ xs _ _ d5.out underlying43 rfl HF.out ?_)|(refine aA rfl 43 (.tmp 4) (.tmp 38) rfl (w.heap.size+1+1) rfl _ _ xs rfl Z4.out HF.out (by exact eY.out) H1.out ?_))
     have o3:=fun k (hk:k≠w.heap.size+1+1)=>aHy V4 (w.heap.size+1+1) k xs hk
     refine CC ((o3 D3 (by omega)).trans M3.out) ((o3 D2 (by omega)).trans M2.out) ((o3 D1 (by omega)).trans M1.out) ((o3 D0 (by omega)).trans I.out) (by omega) (by omega) (by omega) ?_;refine⟨.agg xs,aG9 results129 _ _ (w.heap.size+1+1) 43 xs (0,0) _ rfl ((aHn (by omega)).trans ((aHn (by omega)).trans ((aHn (by omega)).trans ((aHn (by omega)).trans (bA V4 _ _ _ xs Z4.out))))) underlying43 rfl HF.out,?_⟩;exact⟨by rw[HE.out,eU.out],kV (kV (kV (kV (aO L4.out _ (by omega) _) (by omega) _) (by omega) _) (by omega) _) (by omega) _⟩
 iterate 4
  next =>
   intro l pre x X K hI hK;dsimp only[aCZ]
   gi_wp2
   exact hK _ _ ((KeepsOthers.alloc _ _).from _) (LH (aGM a1 hI.1.size) (aGM a0 hI.1.size) (aP _ _)) ⟨hI.1.trans (eH (aP _ _)),hI.2.alloc _⟩ ⟨X.heap.size,hI.1.size,LT _ _,rfl⟩
  next =>
   have q1:(0:Int)<=(i:Int):=by omega
   have q2:(i:Int)<16:=by omega
   have q3:(0:Int)<=(j:Int):=by omega
   have q4:(j:Int)<16:=by omega
   have x5:=fun (v:GW X)=>(iX O v i).trans bO
   have z5:=fun (v:GW X)=>(iX O v j).trans bP
   have p5:=fun (v:GW X)=>dR bQ v 0
   have u5:=fun (v:GW X)=>dR bQ v 1
   have HG:=hid F;have d6:=hid O;have Hy:=hid bO;have Hz:=hid bP;clear F O hi hj hy hz ty tz bO bP aM bQ dB
   gi_wp2
   refine pE (v0:=.int .i64 (i:Int)) (v1:=.int .i64 (j:Int)) rfl rfl rfl rfl rfl rfl rfl rfl (by kernel_rfl) (by kernel_rfl) (by kernel_rfl) ?_ ?_ (.inl ⟨by rfl,fun W=>by go_simp⟩) (.inl ⟨by rfl,fun W=>by go_simp⟩) ?_
   ·rintro⟨a,w,h⟩;exact h
   ·intro c a' w' d v h;exact h
   simp only[List.take_succ_cons,List.take_zero,aGO,aGR];go_simp
   repeat (first|go_big_quiet_step ((go_at_call 124;exact bY (HT.out _))))
   refine aGv ?_;refine⟨.int .i64 Zz,.inl ⟨by rfl,fun W=>by go_simp⟩,?_⟩;rintro⟨X5,dT⟩;dsimp only;have cP:=d6.out.below dT d6.out.lt;have eS:=hid cP;have eV:=hid (eH (row:=some (w.heap.size+1)) dT);have ce:X5.cell? ⟨w.heap.size+1,i,none⟩=some (.int .i64 y):=(cP.cell i).trans Hy.out;have fz:=cP.frozen i;have S1:=hid (cP.set_ i (.int .i64 Y));have fH:(X5.setCell ⟨w.heap.size+1,i,none⟩ (.int .i64 Y)).cell? ⟨w.heap.size+1,j,none⟩=some (.int .i64 z):=by rw[S1.out.cell,aHu,sL a4];exact Hz.out
   have fN:=S1.out.frozen j;clear dT cP x5 z5 p5 u5;go_wp2;have G:X.grownBy ((X5.setCell ⟨w.heap.size+1,i,none⟩ (.int .i64 Y)).setCell ⟨w.heap.size+1,j,none⟩ (.int .i64 Zz)) (some (w.heap.size+1)):=(eV.out.trans (uH _)).trans (uH _);exact⟨KeepsFrom.of_grownBy G (fun j e=>by cases e;exact zB),⟨G.block Br (aGM a1 HG.out.size) (by simpa using b2),G.block Z (aGM a0 HG.out.size) (by simpa using b1)⟩,HG.out.trans G,by rw[bW.out];exact a2.out X5 eS.out⟩
end
end Go.Proofs.YtbpgfkjhclpbdaaGreatDoor
