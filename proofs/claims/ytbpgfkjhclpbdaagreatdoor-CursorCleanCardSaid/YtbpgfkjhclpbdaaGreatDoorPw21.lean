/- CodeR. Conditions: as each theorem states. -/
import Derived.Test.YtbpgfkjhclpbdaaGreatDoorPw18
import Derived.Test.YtbpgfkjhclpbdaaGreatDoorPw20
namespace Go.Proofs.YtbpgfkjhclpbdaaGreatDoor
open Tryz
def f7(l:List Int)(size:Int):List Int:=xE (fQ l) (gN l size) (aS l.length)
def frZ(l:List Int)(size:Int)(i:Nat):aFJ:=JT (aK (f7 l size) i) (eJ 4 (gN l size) i) size
def bK(l:List Int)(size:Int):List aFJ:=(List.range (aS l.length)).map (frZ l size)
def lO(fs:List aFJ)(n:Int):List Int:=(l7 (oN (fs.map bV).flatten (fs.map (·.gains)).flatten fs.length) n).map sR
def nT(l:List Int):Prop:=∀ x∈l,-32768<=x/\x<=32767
theorem ZE{x:Int}(h:-8388607<=x/\x<=8388607):qN x=true:=by
 unfold qN;refine aGs (kY (k:=23) ?_ ?_)
 all_goals
  unfold eS;rw[sL (by omega)];split <;> omega
theorem iF(l:List Int)(size:Int):(f7 l size).length=aS l.length*16:=ZI (lN l)
theorem US{l:List Int}(h:nT l)(size:Int):BdL 2359380 (f7 l size):=by
 have:=aB6 (M:=32768) (lN l) (kQ l size) (aAv (fun x d=>by have:=h x d;omega) (by omega)) (by omega);exact this.mono (by omega)
theorem QQ{l:List Int}(h:nT l)(size:Int){i:Nat}(hi:i<aS l.length):BdL 2359380 (aK (f7 l size) i):=kI (iF l size) hi (US h size)
theorem EZ{l:List Int}(h:nT l)(size:Int){i:Nat}(hi:i<aS l.length):(aK (f7 l size) i).all qN=true:=by
 rw[aGD];intro x d;have:=(QQ h size hi).mem x d;exact ZE (by omega)
theorem zY{l:List Int}(h:nT l){size:Int}(h1:24<=size)(h2:size<=96){i:Nat}(hi:i<aS l.length):pF (aK (f7 l size) i) (eJ 4 (gN l size) i) size=0:=by
 unfold pF;rw[sL (by omega),EZ h size hi,((kQ l size).2 i hi).2]
 rfl
theorem BS{l:List Int}(h:nT l){size:Int}(h1:24<=size)(h2:size<=96){i:Nat}(hi:i<aS l.length):aFQ (frZ l size i)/\gH (frZ l size i)<=8*size:=by
 have:=aBh (bM (iF l size) hi) ((kQ l size).2 i hi).1 (zY h h1 h2 hi);exact⟨this.1,this.2.1⟩
theorem eU(l:List Int)(size:Int):(bK l size).length=aS l.length:=by simp[bK]
theorem dO{l:List Int}(h:nT l){size:Int}(h1:24<=size)(h2:size<=96):∀ f∈bK l size,aFQ f/\gH f<=8*size:=fun f hf=>by
 unfold bK at hf;obtain⟨i,hi,rfl⟩:=aGq.1 hf;exact BS h h1 h2 (aGA.1 hi)
theorem XT(l:List Int){size:Int}(h:55<=size){i:Nat}(hi:i<aS l.length):eJ 4 (gN l size) i=dL:=by
 have hf:∀ i,(kA l i).length=4:=fun i=>m9 _ 4
 have t:(eJ 4 (gN l size) i).length=4:=qL (eP hf _) hi;apply aGL;intro j;rcases aGt j 4 with d|d
 ·rw[uN _ _ d];unfold gN;rw[FN h,rS hf hi d,sL (by omega)]
  match j,d with
  | 0,_|1,_|2,_|3,_=>rfl
 ·rw[aGr (by omega),aGr (by exact d)]
theorem BR{l:List Int}(h:nT l){size:Int}(h1:55<=size)(h2:size<=96){i:Nat}(hi:i<aS l.length):bV (frZ l size i)=aK (f7 l size) i/\(frZ l size i).gains=eJ 4 (gN l size) i:=by
 have hb:=bM (iF l size) hi;have e:frZ l size i=fT (aK (f7 l size) i):=by
  unfold frZ JT;rw[zY h (by omega) h2 hi,FN rfl,FN h1]
 rw[e,XT l h1 hi];exact⟨XE hb (aAr hb (EZ h size hi)).bd,rfl⟩
theorem aFn{x:Int}(h:-32768<=x/\x<=32767):sR x=x:=by
 unfold sR s9;rw[sL (by omega),sL (by omega)]
theorem OY{l:List Int}(h:nT l){size:Int}(h1:55<=size)(h2:size<=96):lO (bK l size) l.length=l:=by
 have d:((bK l size).map bV).flatten=f7 l size:=by
  unfold bK;rw[aHj];refine aHH ?_ (rD (sz:=16) (by decide) (iF l size));exact mT fun i hi=>(BR h h1 h2 hi).1
 have t:((bK l size).map (·.gains)).flatten=gN l size:=by
  unfold bK;rw[aHj];refine aHH ?_ (rD (sz:=4) (by decide) (kQ l size).1);exact mT fun i hi=>(BR h h1 h2 hi).2
 unfold lO;rw[d,t,eU];unfold f7;rw[VK (lN l),XK];have:l.map sR=l.map id:=aGZ fun x z=>aFn (h x z)
 rw[this,List.map_id]
end Go.Proofs.YtbpgfkjhclpbdaaGreatDoor
