/- CodeA, CodeB, CodeF, CodeG, CodeE, CodeH, CodeC. Conditions: as each theorem states. -/
import Derived.Deep.OwnRows
import Derived.Test.YtbpgfkjhclpbdaaGreatDoorPw14
set_option maxRecDepth 100000
set_option maxHeartbeats 8000000
namespace Go.Proofs.YtbpgfkjhclpbdaaGreatDoor
abbrev aJH:=@Go.wpList_make_row
open Tryz
open Go.Lib (hid)
section
open Go.RowKit
def aS(n:Nat):Nat:=(n+15) / 16
theorem pK(n:Nat)(w:World)(F:n<=1000000000):Calls prog 61 #[.int .i64 n] w fun e w'=>e=.returned (.int .i64 (aS n))/\w=w':=by
 by_cases h:(n:Int)<1
 ·have t:n=0:=by omega
  subst t;go_enter func61,ntmps61;go_wp2
  go_ret
  exact⟨rfl,rfl⟩
 ·have d:=aGC (show ((n:Int)-1) / 16+1=(aS n:Int) by unfold aS;omega);have z:(0:Int)<=(n:Int)-1:=by omega
  go_enter func61,ntmps61;go_wp2
  go_ret
  exact⟨cL d.out,rfl⟩
def jG(size:Int):Array Value:=dS.push (.int .i64 size)
theorem Q6(size:Int):(jG size).size=33:=by simp[jG,fL]
theorem BJ(size:Int):(jG size)[32]? = some (.int .i64 size):=by
 unfold jG;rw[aJx,FN fL.symm]
def CoderAt(W:World)(g:Nat)(size:Int):Prop:=W.heap[g]? = some (.cells (jG size) 231 (0,0))
theorem QR(size:Int):prog.built 231 [(0,.agg dS),(1,.int .i64 size)]=some (jG size):=by kernel_rfl
theorem WR(size:Int)(w:World)(h:size<24\/96<size):Calls prog 81 #[.int .i64 size] w fun e w'=>e=.returned (.tuple #[.pointer none,.int .i64 12])/\w=w':=by
 have t:decide (size<24)=true\/(decide (size<24)=false/\decide (96<size)=true):=by
  by_cases h:size<24
  ·exact .inl (aGs h)
  ·exact .inr ⟨aGm h,aGs (by omega)⟩
 clear h;rcases t with d|⟨d,z⟩
 all_goals
  go_enter func81,ntmps81;go_wp2;refine aGk (aGN results81 _ _ _) rfl ?_;exact⟨rfl,rfl⟩
theorem oS(size:Int)(w:World)(h1:24<=size)(h2:size<=96):
  Calls prog 81 #[.int .i64 size] w fun e w'=>∃ g,e=.returned (.tuple #[.pointer (some ⟨g,0,none⟩),.int .i64 0])/\w.heap.size<=g/\CoderAt w' g size/\Below w.heap.size w w':=by
 have J:decide (size<24)=false:=aGm (by omega);have O:decide (96<size)=false:=aGm (by omega);have F:=aGC GQ;have G:=aGC (QR size);have z:=aGC (fun (W:World) (g:Nat) (h:W.heap[g]? = some (.cells (jG size) 231 (0,0)))=>(show CoderAt W g size from h));generalize jG size=I at *
 generalize dS=U at *
 clear h1 h2;go_enter func81,ntmps81;go_wp2_with (go_at_call 72;fail)
 refine (F.out _).mono ?_;rintro e d ⟨rfl,t⟩;go_wp2_with (refine dP rfl 231 _ rfl I (by simpa[Act.eval,Act.put] using G.out) ?_)
 refine aGk (aGN results81 _ _ _) rfl ?_;exact⟨d.heap.size,rfl,t.size,z.out _ _ (LT d _),aC t (aP d _)⟩
theorem QG(g:Nat)(size:Int)(w:World)(h:CoderAt w g size):Calls prog 147 #[.pointer (some ⟨g,0,none⟩)] w fun e w'=>e=.returned (.int .i64 size)/\w=w':=by
 have c:w.cell? ⟨g,32,none⟩=some (.int .i64 size):=(aGo w g 32 _ _ _ h).trans (BJ size);clear h;go_enter func147,ntmps147;go_wp2
 go_ret
 exact⟨rfl,rfl⟩
theorem VQ(g:Nat)(size:Int)(w:World)(h:CoderAt w g size):Calls prog 202 #[.pointer (some ⟨g,0,none⟩)] w fun e w'=>e=.returned (.bool (decide (55<=size)))/\w=w':=by
 have H:=aGC (QG g size w h);clear h;go_enter func202,ntmps202;go_wp2_with (go_at_call 147;refine H.out.mono ?_;rintro e w' ⟨rfl,rfl⟩)
 go_ret
 exact⟨rfl,rfl⟩
end
section
open Go.RowKit
def GK(x:Int):Bool:=decide (-32768<=x)&&decide (x<32768)
theorem WU(l:List Int)(A:Option Addr)(cap:Nat)(w:World)(Z:l.length<=1000000000)(J:Row w w.heap.size A (l.map (.int .i64))):
  Calls prog 173 #[.slice A l.length cap] w fun e w'=>e=.returned (.bool (l.all GK))/\w=w':=by
 have U:=hid J;obtain⟨n,t⟩:∃ n,l.length=n:=⟨_,rfl⟩;rw[t]at Z ⊢;have G:=hid t;clear J t;go_enter func173,ntmps173;go_wp2
 go_loop [7] (fun k=>∃ m:Nat,m<=n/\(l.take m).all GK=true/\k=.int .i64 m) (fun k=>(n-(intOf k)).toNat)
 case atStart=>exact⟨0,by omega,rfl,rfl⟩
 case round =>
  obtain⟨m,hm,hall,rfl⟩:=hrel;have z:=hid hall;clear hall
  by_cases aA:m<n
  ·have t1:(m:Int)<(n:Int):=by omega
   obtain⟨x,d⟩:=aE (k:=m) G.out aA;obtain⟨b,off,hA,hb,k0⟩:=U.out m (.int .i64 x) (by rw[aF5,d];rfl);subst hA;have O:=hid (gC GK d);have F:=hid (fun h=>jR GK d h);clear d
   by_cases I:x < -32768
   ·have V:decide (x < -32768)=true:=aGs I;have hf:=hid (F.out (by unfold GK;rw[aGm (by omega)];rfl));go_wp2
    go_ret
    exact⟨dU hf.out.symm,rfl⟩
   ·have V:decide (x < -32768)=false:=aGm I
    by_cases h1:32768<=x
    ·have W:decide (32768<=x)=true:=aGs h1;have hf:=hid (F.out (by unfold GK;rw[aGm (show ¬ x<32768 by omega),aJa]));go_wp2
     go_ret
     exact⟨dU hf.out.symm,rfl⟩
    ·have W:decide (32768<=x)=false:=aGm h1;have hf:=hid (show GK x=true by unfold GK;rw[aGs (show -32768<=x by omega),aGs (show x<32768 by omega)];rfl);go_wp2
     go_round
     case rel=>exact⟨m+1,by omega,by rw[O.out,z.out,hf.out];rfl,by go_num⟩
     case measure=>simp[intOf];omega
  ·have aC:m=n:=by omega
   have t1:¬ ((m:Int)<(n:Int)):=by omega
   have hf:=hid (gY GK (l:=l) (k:=m) (by rw[G.out];omega) z.out);go_wp2
   go_ret
   exact⟨dU hf.out.symm,rfl⟩
theorem OH:(prog.info? 2).map (fun i=>(i.zero,i.size,i.bytes))=some (some (.int .i64 0),1,8):=by kernel_rfl
def qW(W:World)(xs:List Int)(e:Ending)(w':World):Prop :=
 ∃ g,e=.returned (.slice (some ⟨g,0,none⟩) xs.length xs.length)/\W.heap.size<=g/\Blk w' g 2 (xs.map (.int .i64))/\Below W.heap.size W w'
def lU(l:List Int)(n m:Nat):List Int:=(List.range n).map fun k=>if k<m then bgt l k else 0
theorem VL(l:List Int){n m:Nat}(hm:m<n):(lU l n m).set m (bgt l m)=lU l n (m+1):=by
 refine cK _ (fun k=>if k<m+1 then bgt l k else 0) hm ?_ (fun i hi=>?_)
 ·rw[FN (by omega)]
 ·by_cases h:i<m
  ·rw[FN h,FN (by omega)]
  ·rw[sL h,sL (by omega)]
theorem ZV{l:List Int}{n:Nat}(d:l.length=n):lU l n n=l:=by
 refine aHH ?_ (dV d).symm;unfold lU;apply aGZ;intro k hk;rw[FN (aGA.1 hk)]
theorem ZW(l:List Int){n m k:Nat}(hk:k<n)(hm:m<=k):(lU l n m)[k]? = some 0:=by
 unfold lU;rw[aI _ hk,sL (by omega)]
theorem VM(l:List Int)(n:Nat):(lU l n 0).map (Value.int .i64)=List.replicate n (.int .i64 0):=by
 unfold lU;apply aGL;intro i;rw[aF5,aF5,aHE];rcases aGt i n with hi|hi
 ·rw[aHa hi,FN hi];simp
 ·rw[aGr (by simpa using hi),sL (by omega)];rfl
theorem aA5(l:List Int)(A:Option Addr)(cap:Nat)(w:World)(hl:l.length<=1000000000)(hr:Row w w.heap.size A (l.map (.int .i64))):
  Calls prog 174 #[.slice A l.length cap] w (qW w l):=by
 have Hr:=hid hr;unfold qW;obtain⟨n,I⟩:∃ n,l.length=n:=⟨_,rfl⟩;rw[I]at hl ⊢;have V:=hid I;obtain⟨i0,hi,aK,aL,aM⟩:∃ i,prog.info? 2=some i/\i.zero=some (.int .i64 0)/\i.size=1/\i.bytes=8:=by
  have:=OH;cases h:prog.info? 2 with
  | none=>rw[h]at this;cases this
  | some i=>rw[h]at this;simp at this;exact⟨i,rfl,this.1,this.2.1,this.2.2⟩
 have F:=hid (show (madeCells #[Value.int .i64 0] n).toList=List.replicate n (.int .i64 0) from aJf _ _);obtain⟨t,Z⟩:∃ t,madeCells #[Value.int .i64 0] n=t:=⟨_,rfl⟩;rw[Z]at F;have aA:t=((lU l n 0).map (Value.int .i64)).toArray:=by
  apply aHX.1;rw[F.out,VM]
 have U:=hid (show Blk (w.alloc (.cells t 2)) w.heap.size 2 ((lU l n 0).map (.int .i64)) by rw[aA];exact Blk.new w _ _);clear hr I aA F;go_enter func174,ntmps174;go_wp2_with (refine aJH w rfl (.tmp 7) (.tmp 7) 235 rfl 2 i0 (.int .i64 0) underlying235 hi aK aL rfl .i64 .i64 n rfl rfl (by rw[aM];omega) (by omega) ?_;rw[Z])
 go_loopw [11] (fun i wr=>∃ m:Nat,m<=n/\i=.int .i64 m/\Blk wr w.heap.size 2 ((lU l n m).map (.int .i64))/\Below w.heap.size w wr) (fun i _=>n-(intOf i).toNat)
 case atStart=>exact⟨0,by omega,rfl,U.out,aP w _⟩
 case round =>
  obtain⟨m,hm,rfl,d,W⟩:=hrel;have O:=hid d;have z:=hid W;clear U
  by_cases G:m<n
  ·have t1:(m:Int)<(n:Int):=by omega
   obtain⟨x,J⟩:=aE (k:=m) V.out G;obtain⟨b,off,hA,hb,k0⟩:=Hr.out m (.int .i64 x) (by rw[aF5,J];rfl);have k1:=(z.out.cell (p:=⟨b,off+m,none⟩) hb).trans k0;subst hA;have HS:=hid (show (lU l n m).set m x=lU l n (m+1) by rw[<-VL l G,aD J]);have ce:wr.cell? ⟨w.heap.size,m,none⟩=some (.int .i64 0):=by rw[d.cell,aF5,ZW l G (LE m)];rfl
   have fz:=d.frozen m;clear J k0 d W;go_wp2;go_roundw
   case rel =>
    refine⟨m+1,by omega,by go_num,?_,z.out.setCell (by simp) _⟩;rw[<-HS.out,aG0];exact O.out.set_ m _
   case measure=>simp[intOf];omega
  ·have aJ:m=n:=by omega
   have t1:¬ ((m:Int)<(n:Int)):=by omega
   have HE:=hid (show lU l n m=l by rw[aJ];exact ZV V.out);go_wp2
   go_ret
   exact⟨w.heap.size,rfl,LE _,by rw[<-HE.out];exact O.out,z.out⟩
def lW(l:List Int)(n:Nat):List Int:=(List.range n).map fun k=>bgt l (n-1-k)
def lG(l:List Int)(n m:Nat):List Int:=(List.range n).map fun k=>if n<=k+m then bgt l (n-1-k) else 0
theorem SB(l:List Int){n m:Nat}(hm:m<n):(lG l n m).set (n-1-m) (bgt l m)=lG l n (m+1):=by
 refine cK _ (fun k=>if n<=k+(m+1) then bgt l (n-1-k) else 0) (by omega) ?_ (fun i hi=>?_)
 ·rw[FN (by omega),show n-1-(n-1-m)=m by omega]
 ·by_cases h:n<=i+m
  ·rw[FN h,FN (by omega)]
  ·rw[sL h,sL (by omega)]
theorem XM(l:List Int)(n:Nat):lG l n n=lW l n:=by
 unfold lG lW;apply aGZ;intro k hk;rw[FN (by omega)]
theorem SC(l:List Int)(n:Nat):(lG l n 0).map (Value.int .i64)=List.replicate n (.int .i64 0):=by
 unfold lG;apply aGL;intro i;rw[aF5,aF5,aHE];rcases aGt i n with hi|hi
 ·rw[aHa hi,FN hi];simp only[Option.map_some];rw[sL (by omega)]
 ·rw[aGr (by simpa using hi),sL (by omega)];rfl
theorem XN(l:List Int){n m:Nat}(hm:m<n):(lG l n m)[n-1-m]? = some 0:=by
 unfold lG;rw[aI _ (by omega),sL (by omega)]
theorem nP(l:List Int)(n:Nat):(lW l n).length=n:=by simp[lW]
theorem xM(l:List Int)(A:Option Addr)(cap:Nat)(w:World)(hl:l.length<=1000000000)(hr:Row w w.heap.size A (l.map (.int .i64))):
  Calls prog 219 #[.slice A l.length cap] w (qW w (lW l l.length)):=by
 have Hr:=hid hr;unfold qW;rw[nP];obtain⟨n,I⟩:∃ n,l.length=n:=⟨_,rfl⟩;rw[I]at hl ⊢;have Hn:=hid I;obtain⟨i0,hi,aL,aM,aN⟩:∃ i,prog.info? 2=some i/\i.zero=some (.int .i64 0)/\i.size=1/\i.bytes=8:=by
  have:=OH;cases h:prog.info? 2 with
  | none=>rw[h]at this;cases this
  | some i=>rw[h]at this;simp at this;exact⟨i,rfl,this.1,this.2.1,this.2.2⟩
 have F:=hid (show (madeCells #[Value.int .i64 0] n).toList=List.replicate n (.int .i64 0) from aJf _ _);obtain⟨t,Z⟩:∃ t,madeCells #[Value.int .i64 0] n=t:=⟨_,rfl⟩;rw[Z]at F;have aA:t=((lG l n 0).map (Value.int .i64)).toArray:=by
  apply aHX.1;rw[F.out,SC]
 have V:=hid (show Blk (w.alloc (.cells t 2)) w.heap.size 2 ((lG l n 0).map (.int .i64)) by rw[aA];exact Blk.new w _ _);clear hr I aA F;go_enter func219,ntmps219;go_wp2_with (refine aJH w rfl (.tmp 7) (.tmp 7) 235 rfl 2 i0 (.int .i64 0) underlying235 hi aL aM rfl .i64 .i64 n rfl rfl (by rw[aN];omega) (by omega) ?_;rw[Z])
 go_loopw [11] (fun i wr=>∃ m:Nat,m<=n/\i=.int .i64 m/\Blk wr w.heap.size 2 ((lG l n m).map (.int .i64))/\Below w.heap.size w wr) (fun i _=>n-(intOf i).toNat)
 case atStart=>exact⟨0,by omega,rfl,V.out,aP w _⟩
 case round =>
  obtain⟨m,hm,rfl,d,W⟩:=hrel;have U:=hid d;have z:=hid W;clear V
  by_cases G:m<n
  ·have t1:(m:Int)<(n:Int):=by omega
   obtain⟨x,O⟩:=aE (k:=m) Hn.out G;obtain⟨b,off,hA,hb,k0⟩:=Hr.out m (.int .i64 x) (by rw[aF5,O];rfl);have k1:=(z.out.cell (p:=⟨b,off+m,none⟩) hb).trans k0;subst hA;obtain⟨r,J⟩:∃ r,n-1-m=r:=⟨_,rfl⟩;have HS:=hid (show (lG l n m).set r x=lG l n (m+1) by rw[<-SB l G,aD O,J]);have ce:wr.cell? ⟨w.heap.size,r,none⟩=some (.int .i64 0):=by rw[d.cell,aF5,<-J,XN l G];rfl
   have fz:=d.frozen r;have t2:(n:Int)-1-(m:Int)=(r:Int):=by omega
   have t3:(0:Int)<=(r:Int):=by omega
   have t4:(r:Int)<(n:Int):=by omega
   clear O k0 d W J;go_wp2;go_roundw
   case rel =>
    refine⟨m+1,by omega,by go_num,?_,z.out.setCell (by simp) _⟩;rw[<-HS.out,aG0];exact U.out.set_ r _
   case measure=>simp[intOf];omega
  ·have aK:m=n:=by omega
   have t1:¬ ((m:Int)<(n:Int)):=by omega
   have HE:=hid (show lG l n m=lW l n by rw[aK];exact XM l n);go_wp2
   go_ret
   exact⟨w.heap.size,rfl,LE _,by rw[<-HE.out];exact U.out,z.out⟩
end
section
open Go.RowKit
end
section
open Go.RowKit
end
section
open Go.RowKit
theorem fV(z:Array Value)(v:Value)(h:0<z.size)(t:∀ j,j<z.size->z[j]! = v)(n:Nat):(madeCells z n).toList=List.replicate n v:=by
 unfold madeCells;rw[aJz,aJA];apply aGL;intro j;rw[aF5,aHE];rcases aGt j n with d|d
 ·rw[aHa d,FN d];simp only[Option.map_some];rw[t _ (aG6 _ h)]
 ·rw[aGr (by simpa using d),sL (by omega)];rfl
theorem dX{P:Program}(w:World){ops:Array Oper}{rest:List Oper}{o:Oper}{a:Act}{Q:Exit->Act->World->Prop}
 (V:o.guard=none)(l c:Operand)(t:TypeId)(Z:o.op=Op.makeSlice t l c)
 (e:TypeId)(i:TypeInfo)(z:Value)(size:Nat)(ht:P.underlying t=some (.slice e))(hi:P.info? e=some i)(hz:i.zero=some z)(aA:i.size=size)
 (G F:IntKind)(n:Nat)(W:a.eval l=.int G (n:Int))(U:a.eval c=.int F (n:Int))(aD:i.bytes*n<=281474976710656)(aC:n<=9223372036854775807)
 (I:wpList P ops Q rest (a.put o.dst (.slice (some ⟨w.heap.size,0,none⟩) n n)) (w.alloc (.cells (madeCells z.cells (n*size)) e))):
  wpList P ops Q (o::rest) a w:=by
 refine wpList_plain V fun K J=>?_
 have O:(i.bytes:Int)*(n:Int)<=281474976710656:=by
  have h:((i.bytes*n:Nat):Int)<=281474976710656:=by omega
  rwa [Int.natCast_mul]at h
 have d:=run_make (P:=P) w t e i z ht hi hz G F n n (by omega) (aHd _) O (by omega);simp only[Int.toNat_natCast,aA]at d;unfold Oper.wp;simp[execOp,Z,W,U,d,Result.andThen];exact J _ _ I
theorem aAm:(prog.info? 43).map (fun i=>(i.zero,i.size,i.bytes))=some (some (.agg (List.replicate 16 (Value.int .i64 0)).toArray),16,128):=by kernel_rfl
def qG(l:List Int)(c m:Nat):List Int:=(List.range (c*16)).map fun k=>if k<m then bgt l k else 0
def fQ(l:List Int):List Int:=(List.range (aS l.length*16)).map (bgt l)
theorem YT(l:List Int){c m:Nat}(hm:m<c*16):(qG l c m).set m (bgt l m)=qG l c (m+1):=by
 refine cK _ (fun k=>if k<m+1 then bgt l k else 0) hm ?_ (fun i hi=>?_)
 ·rw[FN (by omega)]
 ·by_cases h:i<m
  ·rw[FN h,FN (by omega)]
  ·rw[sL h,sL (by omega)]
theorem NF{l:List Int}{k:Nat}(h:l.length<=k):bgt l k=0:=by
 unfold bgt;rw[aGz,aGr h];rfl
theorem aBI(l:List Int):qG l (aS l.length) l.length=fQ l:=by
 unfold qG fQ;apply aGZ;intro k _;split
 ·rfl
 ·rw[NF (by omega)]
theorem aBJ(l:List Int){c m:Nat}(hm:m<c*16):(qG l c m)[m]? = some 0:=by
 unfold qG;rw[aI _ hm,sL (by omega)]
theorem YU(l:List Int)(c:Nat):(qG l c 0).map (Value.int .i64)=List.replicate (c*16) (.int .i64 0):=by
 unfold qG;apply aGL;intro i;rw[aF5,aF5,aHE];rcases aGt i (c*16) with hi|hi
 ·rw[aHa hi,FN hi];simp
 ·rw[aGr (by simpa using hi),sL (by omega)];rfl
def zN(W:World)(c:Nat)(xs:List Int)(e:Ending)(w':World):Prop :=
 ∃ g,e=.returned (.slice (some ⟨g,0,none⟩) c c)/\W.heap.size<=g/\Blk w' g 43 (xs.map (.int .i64))/\Below W.heap.size W w'
theorem EI(l:List Int)(A:Option Addr)(cap:Nat)(w:World)(hl:l.length<=1000000000)(hr:Row w w.heap.size A (l.map (.int .i64))):
  Calls prog 203 #[.slice A l.length cap] w (zN w (aS l.length) (fQ l)):=by
 have Hr:=hid hr;unfold zN;rw[<-aBI];have V:=hid (fun W=>pK l.length W hl);have aM:l.length<=aS l.length*16:=by unfold aS;omega
 have aN:aS l.length<=1000000000:=by unfold aS;omega
 obtain⟨n,G⟩:∃ n,l.length=n:=⟨_,rfl⟩;rw[G]at hl aM aN V ⊢;generalize aS n=c at *
 have Hn:=hid G;obtain⟨i0,hi,aV,aW,aX⟩:∃ i,prog.info? 43=some i/\i.zero=some (.agg (List.replicate 16 (Value.int .i64 0)).toArray)/\i.size=16/\i.bytes=128:=by
  have:=aAm;cases h:prog.info? 43 with
  | none=>rw[h]at this;cases this
  | some i =>
   rw[h]at this;simp only[Option.map_some,aIN,aI7]at this;exact⟨i,rfl,this.1,this.2.1,this.2.2⟩
 have F:=hid (show (madeCells (Value.agg (List.replicate 16 (Value.int .i64 0)).toArray).cells (c*16)).toList=List.replicate (c*16) (.int .i64 0) from fV _ _ (by decide) (fun j hj=>by
  have a2:j<16:=hj;have hk:j=0\/j=1\/j=2\/j=3\/j=4\/j=5\/j=6\/j=7\/j=8\/j=9\/j=10\/j=11\/j=12\/j=13\/j=14\/j=15:=by omega
  rcases hk with rfl|rfl|rfl|rfl|rfl|rfl|rfl|rfl|rfl|rfl|rfl|rfl|rfl|rfl|rfl|rfl <;> rfl) _)
 obtain⟨t,aB⟩:∃ t,madeCells (Value.agg (List.replicate 16 (Value.int .i64 0)).toArray).cells (c*16)=t:=⟨_,rfl⟩;rw[aB]at F;have aF:t=((qG l c 0).map (Value.int .i64)).toArray:=by
  apply aHX.1;rw[F.out,YU]
 have U:=hid (show Blk (w.alloc (.cells t 43)) w.heap.size 43 ((qG l c 0).map (.int .i64)) by rw[aF];exact Blk.new w _ _);clear hr G aF F;go_enter func203,ntmps203;go_wp2_with (first|(go_at_call 61;refine (V.out _).mono ?_;rintro e w1 ⟨rfl,rfl⟩)|(refine dX w rfl (.tmp 8) (.tmp 8) 232 rfl 43 i0 (.agg (List.replicate 16 (Value.int .i64 0)).toArray) 16 underlying232 hi aV aW .i64 .i64 c rfl rfl (by rw[aX];omega) (by omega) ?_;rw[aB]))
 go_loopw [12] (fun i wr=>∃ m:Nat,m<=n/\i=.int .i64 m/\Blk wr w.heap.size 43 ((qG l c m).map (.int .i64))/\Below w.heap.size w wr) (fun i _=>n-(intOf i).toNat)
 case atStart=>exact⟨0,by omega,rfl,U.out,aP w _⟩
 case round =>
  obtain⟨m,hm,rfl,d,Z⟩:=hrel;have O:=hid d;have z:=hid Z;clear U
  by_cases aQ:m<n
  ·have t1:(m:Int)<(n:Int):=by omega
   obtain⟨x,J⟩:=aE (k:=m) Hn.out aQ;obtain⟨b,off,hA,hb,k0⟩:=Hr.out m (.int .i64 x) (by rw[List.getElem?_map,J];rfl);have k1:=(z.out.cell (p:=⟨b,off+m,none⟩) hb).trans k0;subst hA;obtain⟨q,hq⟩:∃ q,m / 16=q:=⟨_,rfl⟩;obtain⟨r,aU⟩:∃ r,m % 16=r:=⟨_,rfl⟩;have I:q*16+r=m:=by omega
   have aC:m<c*16:=by omega
   have HS:=hid (show (qG l c m).set m x=qG l c (m+1) by rw[<-YT l aC,aD J]);have ce:wr.cell? ⟨w.heap.size,q*16+r,none⟩=some (.int .i64 0):=by rw[I,d.cell,List.getElem?_map,aBJ l aC];rfl
   have fz:=d.frozen (q*16+r);have t2:(m:Int) / 16=(q:Int):=by omega
   have t3:(m:Int) % 16=(r:Int):=by omega
   have t4:(q:Int)<(c:Int):=by omega
   have t5:(r:Int)<16:=by omega
   have t6:(0:Int)<=(q:Int):=by omega
   have t7:(0:Int)<=(r:Int):=by omega
   have aK:=hid I;clear J k0 d Z hq aU I;go_wp2;go_roundw
   case rel =>
    refine⟨m+1,by omega,by go_num,?_,z.out.setCell (by simp) _⟩;rw[<-HS.out,List.map_set,aK.out];exact O.out.set_ m _
   case measure=>simp[intOf];omega
  ·have aR:m=n:=by omega
   have t1:¬ ((m:Int)<(n:Int)):=by omega
   subst aR;go_wp2
   go_ret
   exact⟨w.heap.size,rfl,LE _,O.out,z.out⟩
end
section
open Go.RowKit
theorem aBl(l:List Int)(m:Nat):(l.take ((m+1)*16)).map (Value.int .i64)=(l.take (m*16)).map (Value.int .i64)++((l.drop (m*16)).take 16).map (.int .i64):=by
 rw[<-List.map_append,show (m+1)*16=m*16+16 by omega,List.take_add]
def l7(l:List Int)(n:Int):List Int:=l.take (max (min n (l.length:Int)) 0).toNat
theorem M7(l:List Int)(c:Nat)(A:Option Addr)(cap:Nat)(k:Int)(w:World)(hl:l.length=c*16)(hc:c<=1000000)(hr:Row w w.heap.size A (l.map (.int .i64))):
  Calls prog 165 #[.slice A c cap,.int .i64 k] w (Z6 w (l7 l k)):=by
 obtain⟨i0,hi,bE,bF,bG⟩:=aHx OH;have Hr:=hid hr;have V:=hid hl;have aK:l7 l k=l.take (max (min k ((c*16:Nat):Int)) 0).toNat:=by unfold l7;rw[hl]
 rw[aK];have aG:=hid bJ;clear hr hl aK;go_enter func165,ntmps165;go_wp2;go_loopw [5,10] (fun o i wr=>∃ (m:Nat) (I:Option Addr) (t:Nat),m<=c/\i=.int .i64 m/\o=.slice I (m*16) t/\t<=9223372036854775807/\wr.ownsRow w.heap.size 2 1 (.slice I (m*16) t) (m*16) ((l.take (m*16)).map (.int .i64))/\Below w.heap.size w wr) (fun _ i _=>c-(intOf i).toNat)
 case atStart=>exact⟨0,none,0,by omega,rfl,rfl,by omega,aHc _ _ _ _,aGj _ _⟩
 case round =>
  obtain⟨m,I,t,hm,rfl,rfl,aO,aC,aN⟩:=hrel;have J:=hid aC;have d:=hid aN;have a1:=hid (bO aC);have a0:=hid aO;clear aC aN aO
  by_cases bT:m<c
  ·have t3:(m:Int)<(c:Int):=by omega
   obtain⟨xs,F⟩:∃ xs,((l.drop (m*16)).take 16).map (Value.int .i64)=xs:=⟨_,rfl⟩;have U:xs.length=16:=by rw[<-F,aF7,aGB,aHV,V.out];omega
   have aF:∀ u∈xs,u.oneCell'=true:=by
    intro u hu;rw[<-F]at hu;obtain⟨y,_,rfl⟩:=aGq.1 hu
    rfl
   obtain⟨x0,aT⟩:=aE (k:=m*16) V.out (by omega);obtain⟨b,off,hA,hb,_⟩:=Hr.out (m*16) (.int .i64 x0) (by rw[aF5,aT];rfl);have HX:=hid (fun (j:Nat) (v:Value) (z:xs[j]? = some v)=>(show wr.cell? ⟨b,off+m*16+j,none⟩=some v by
    have hj:j<16:=by have:=(aGi.1 z).1;omega
    rw[<-F,aF5,aHe,FN hj,aHp]at z;obtain⟨b',bV,O,bQ,k0⟩:=Hr.out (m*16+j) v (by rw[aF5];exact z);rw[hA]at O;injection O with O
    injection O with e1 e2
    subst e1 e2;rw[aG4];exact (d.out.cell (p:=⟨b,off+(m*16+j),none⟩) hb).trans k0))
   subst hA;have HS:=hid (show (l.take ((m+1)*16)).map (Value.int .i64)=(l.take (m*16)).map (Value.int .i64)++xs by rw[aBl,F]);have aV:=hid (show (prog.info? 43).map (·.size)=some xs.length by rw[U];exact aG.out);have aW:=hid (show (prog.info? 43).map (·.size)=some xs.toArray.size by rw[aGH,U];exact aG.out);have aJ:=hid U;have a4:=hid aF;have a2:=hid (show xs.toArray.all (·.oneCell')=true by
    rw[aGY];intro v z;exact aF v (by simpa using z))
   clear aT F U aF;go_wp2_with (first|(refine aL rfl 43 (.tmp 12) rfl b (off+m*16) rfl xs _ HX.out underlying43 rfl aV.out ?_)|(refine aA rfl 43 (.tmp 7) (.tmp 13) rfl wr.heap.size rfl _ _ xs.toArray rfl (LT wr _) aW.out (by show (16:Nat)=_;rw[aGH,aJ.out]) a2.out ?_;rw[aGT])|(at_builtin;refine cF _ rfl (.tmp 14) (.tmp 15) 235 rfl w.heap.size 2 i0 (.int .i64 0) 1 8 underlying235 hi bE bF bG rfl (by omega) _ (m*16) _ rfl (J.out.alloc _) (wr.heap.size+1) (some ⟨wr.heap.size,0,none⟩) 16 16 xs rfl (by rw[aJ.out]) (Row.new wr _ xs) a4.out (by omega) (by omega) (by have:=d.out.size;simp;omega) ?_;intro A2 a5 w2 aD bA bP bS))
   go_roundw
   case rel =>
    have a8:Below w.heap.size w w2:=(d.out.alloc d.out.size _).grown bA (by have:=d.out.size;simp;omega) (fun g h=>a1.out g h);rw[<-HS.out,show m*16+16=(m+1)*16 by omega]at aD;exact⟨m+1,A2,a5,by omega,by go_num,by rw[show (m+1)*16=m*16+16 by omega],gK aD,aD,a8⟩
   case measure=>simp[intOf];omega
  ·have t3:¬ ((m:Int)<(c:Int)):=by omega
   have bC:m=c:=by omega
   subst bC;have a9:=oZ J.out;obtain⟨N,hN⟩:∃ N,m*16=N:=⟨_,rfl⟩;rw[hN]at J a9 ⊢;have a3:=hid J.out;have aH:=hid (show l.length=N by rw[V.out,hN]);have Z:0<=max (min k (N:Int)) 0:=by omega
   obtain⟨T,hT⟩:=aGF Z;have HT:=hid (show (max (min k (N:Int)) 0).toNat=T by rw[hT,Int.toNat_natCast]);have bN:T<=N:=by omega
   have bD:∀ W,(Builtin.min_ #[3,3] 3 #[.int .i64 k,.int .i64 (N:Int)]).run prog W=.ok (.int .i64 (min k (N:Int))) W:=fun W=>by
    have e:(if (N:Int)<k then (N:Int) else k)=min k (N:Int):=by split <;> omega
    simp[Builtin.min_,Builtin.min2,e]
   obtain⟨G,aP⟩:∃ G,min k (N:Int)=G:=⟨_,rfl⟩;rw[aP]at hT Z bD;have bU:∀ W,(Builtin.max_ #[3,3] 3 #[.int .i64 G,.int .i64 0]).run prog W=.ok (.int .i64 (T:Int)) W:=fun W=>by
    have e:(if G<0 then 0 else G)=(T:Int):=by rw[<-hT];split <;> omega
    simp[Builtin.max_,Builtin.max2,e]
   clear Z hT aP;have s1:(T:Int)<=(t:Int):=by omega
   have s2:(0:Int)<=(T:Int):=by omega
   go_wp2
   go_ret
   rw[HT.out];have aQ:(l.take T).length=T:=by rw[aGB,aH.out];omega
   refine⟨I,t,by rw[aQ];rfl,by rw[aQ];omega,a0.out,?_,d.out⟩;rw[aI2];have:=(Row.of_own a3.out).take T;rw[aGW (l:=l) (by rw[aH.out];exact LE _)]at this;exact this
end
section
open Go.RowKit
theorem I3{k:Nat}(hk:k<8):bH[k*2]? = some (.int .i64 (bD k).p)/\bH[k*2+1]? = some (.int .i64 (bD k).u):=by
 have d:k=0\/k=1\/k=2\/k=3\/k=4\/k=5\/k=6\/k=7:=by omega
 rcases d with rfl|rfl|rfl|rfl|rfl|rfl|rfl|rfl <;> exact⟨rfl,rfl⟩
def oL(xs d:List Int)(o k:Nat):List Int:=(List.range 8).map fun j=>if j<k then dQ (bgt xs j) (bgt d (o+j)) (bD j) else bgt xs j
def oM(xs d:List Int)(o k:Nat):List Int:=(List.range d.length).map fun j=>if o<=j/\j<o+k then eK (bgt xs (j-o)) (bgt d j) (bD (j-o)) else bgt d j
theorem U9{xs:List Int}(d:List Int)(o:Nat)(h:xs.length=8):oL xs d o 0=xs:=by
 refine aHH ?_ (dV h).symm;unfold oL;apply aGZ;intro j _;rw[sL (by omega)]
theorem VB(xs d:List Int)(o:Nat):oM xs d o 0=d:=by
 refine aHH ?_ (dV (n:=d.length) rfl).symm;unfold oM;apply aGZ;intro j _;rw[sL (by omega)]
theorem U8(xs d:List Int)(o:Nat){k:Nat}(hk:k<8):(oL xs d o k).set k (dQ (bgt xs k) (bgt d (o+k)) (bD k))=oL xs d o (k+1):=by
 refine cK _ (fun j=>if j<k+1 then dQ (bgt xs j) (bgt d (o+j)) (bD j) else bgt xs j) hk ?_ (fun i hi=>?_)
 ·rw[FN (by omega)]
 ·by_cases h:i<k
  ·rw[FN h,FN (by omega)]
  ·rw[sL h,sL (by omega)]
theorem VA(xs d:List Int)(o:Nat){k:Nat}(hk:o+k<d.length):(oM xs d o k).set (o+k) (eK (bgt xs k) (bgt d (o+k)) (bD k))=oM xs d o (k+1):=by
 refine cK _ (fun j=>if o<=j/\j<o+(k+1) then eK (bgt xs (j-o)) (bgt d j) (bD (j-o)) else bgt d j) hk ?_ (fun i hi=>?_)
 ·rw[FN (by omega),show o+k-o=k by omega]
 ·by_cases h:o<=i/\i<o+k
  ·rw[FN h,FN (by omega)]
  ·rw[sL h,sL (by omega)]
theorem ZR{xs:List Int}(h:List Int)(o:Nat){k:Nat}{x:Int}(hk:k<8)(d:xs[k]? = some x):(oL xs h o k)[k]? = some x:=by
 unfold oL;rw[aI _ hk,sL (by omega),aD d]
theorem ZS(xs:List Int){h:List Int}{o k:Nat}{x:Int}(d:h[o+k]? = some x):(oM xs h o k)[o+k]? = some x:=by
 have hk:=(aGi.1 d).1;unfold oM;rw[aI _ hk,sL (by omega),aD d]
def VX(W:World)(d h:Nat)(z F:TypeId)(xs t:List Int)(o:Nat)(e:Ending)(w':World):Prop :=
 e=.returned (.tuple #[])/\Blk w' d z ((oL xs t o 8).map (.int .i64))/\Blk w' h F ((oM xs t o 8).map (.int .i64))/\∀ B,B<=d->B<=h->B<=W.heap.size->Below B W w'
theorem JF(xs d:List Int)(h t o ca cb:Nat)(ta tb:TypeId)(w:World)(hx:xs.length=8)(hz:o+8<=d.length)(a2:h≠t)(ha:Blk w h ta (xs.map (.int .i64)))(hb:Blk w t tb (d.map (.int .i64)))
 (a4:∀ k,k<8->cI (bgt xs k))(a6:∀ k,k<8->cI (bgt d (o+k))):
  Calls prog 227 #[.agg bH,.slice (some ⟨h,0,none⟩) 8 ca,.slice (some ⟨t,o,none⟩) 8 cb] w (VX w h t ta tb xs d o):=by
 unfold VX;have Hx:=hid hx;have Hz:=hid hz;have bE:=hid a4;have bF:=hid a6;have bB:=hid (fun k (hk:k<8)=>I3 hk);have bX:=ha.lt;have bY:=hb.lt;have aU:=hid (ha.alloc (.cells bH 87));have aV:=hid (hb.alloc (.cells bH 87));generalize bH=tv at *
 have HM:=hid (LT w (.cells tv 87));have bZ:∀ W,(Builtin.min_ #[3,3,3] 3 #[.int .i64 8,.int .i64 8,.int .i64 8]).run prog W=.ok (.int .i64 8) W:=fun W=>by simp[Builtin.min_,Builtin.min2]
 clear hx hz a4 a6 ha hb;go_enter func227,ntmps227;go_wp2;go_loopw [12] (fun i wr=>∃ m:Nat,m<=8/\i=.int .i64 m/\Blk wr h ta ((oL xs d o m).map (.int .i64))/\Blk wr t tb ((oM xs d o m).map (.int .i64))/\wr.heap[w.heap.size]? = some (.cells tv 87 (0,0))/\∀ B,B<=h->B<=t->B<=w.heap.size->Below B w wr) (fun i _=>8-(intOf i).toNat)
 case atStart=>exact⟨0,by omega,rfl,by rw[U9 d o Hx.out];exact aU.out,by rw[VB];exact aV.out,HM.out,fun B _ _ F=>(aP w _).mono F⟩
 case round =>
  obtain⟨m,hm,rfl,hA,V,I,a1⟩:=hrel;have HA:=hid hA;have HB:=hid V;have bA:=hid I;have aI:=hid a1;clear aU aV HM a1
  by_cases G:m<8
  ·have t1:(m:Int)<8:=by omega
   obtain⟨x,O⟩:=aE (k:=m) Hx.out G;obtain⟨z,U⟩:=aE (k:=o+m) (b:=d) rfl (by have:=Hz.out;omega);have tx:=bE.out m G;have tz:=bF.out m G;rw[aD O]at tx;rw[aD U]at tz;have aX:=hid (show (oL xs d o m).set m (dQ x z (bD m))=oL xs d o (m+1) by rw[<-U8 xs d o G,aD O,aD U]);have aY:=hid (show (oM xs d o m).set (o+m) (eK x z (bD m))=oM xs d o (m+1) by rw[<-VA xs d o (by have:=Hz.out;omega),aD O,aD U]);have aN:((oL xs d o m).map (Value.int .i64))[m]? = some (.int .i64 x):=by rw[aF5,ZR d o G O];rfl
   have aO:((oM xs d o m).map (Value.int .i64))[o+m]? = some (.int .i64 z):=by rw[aF5,ZS xs U];rfl
   obtain⟨hp,hu⟩:=bB.out m G;have HT:=hid (fun W=>lJ x z (bD m) W (iO G) tx tz);generalize bD m=tk at *
   obtain⟨p,u⟩:=tk;simp only at hp hu HT;obtain⟨X,hX⟩:∃ X,dQ x z ⟨p,u⟩=X:=⟨_,rfl⟩;obtain⟨Z,hZ⟩:∃ Z,eK x z ⟨p,u⟩=Z:=⟨_,rfl⟩;rw[hX,hZ]at HT;rw[hX]at aX;rw[hZ]at aY;have x6:=(hA.cell m).trans aN;have z6:=(V.cell (o+m)).trans aO;have p6:=(aGo wr w.heap.size (m*2) _ _ _ I).trans hp;have u6:=(aGo wr w.heap.size (m*2+1) _ _ _ I).trans hu;have x5:=fun (v:GW wr)=>(iX hA v m).trans aN
   have z5:=fun (v:GW wr)=>(iX V v (o+m)).trans aO
   have p5:=fun (v:GW wr)=>(dR I v (m*2)).trans hp
   have u5:=fun (v:GW wr)=>(dR I v (m*2+1)).trans hu
   clear O U tx tz hp hu hX hZ hA V I;go_wp2_with fail
   go_region_with ((go_at_call 228;refine (HT.out _).mono ?_;rintro e w5 ⟨rfl,J⟩;have hA5:=HA.out.drew.below J HA.out.lt;have aK:=HB.out.drew.below J HB.out.lt;have a8:=hid hA5;have bS:=hid aK;have ce:w5.cell? ⟨h,m,none⟩=some (.int .i64 x):=(by rw[hA5.cell];exact aN);have fz:=hA5.frozen m;have S1:=hid (aK.far (p:=⟨h,m,none⟩) (aHr a2) (.int .i64 X));have bU:(w5.setCell ⟨h,m,none⟩ (.int .i64 X)).cell? ⟨t,o+m,none⟩=some (.int .i64 z):=(by rw[S1.out.cell];exact aO);have bW:=S1.out.frozen (o+m);have a9:=hid (aF (w:=wr.drew) (show wr.drew.heap[w.heap.size]? = _ from bA.out) J);have bC:=hid (fun B h1 h2 F=>(aI.out B h1 h2 F).trans ((show Below B wr wr.drew from aHY (aGj _ _) 1).trans (J.mono (aGE F ((aI.out B h1 h2 F).size)))));clear hA5 aK J))
   all_goals
    clear x5 z5 p5 u5 x6 z6 p6 u6;go_wp2;go_roundw
    case rel =>
     refine⟨m+1,by omega,by go_num,?_,?_,(aHm _ _ _ _ (by simp;omega)).trans ((aHm _ _ _ _ (by simp;omega)).trans a9.out),fun B h1 h2 F=>((bC.out B h1 h2 F).setCell (by simpa using h1) _).setCell (by simpa using h2) _⟩
     ·rw[<-aX.out,aG0];exact (a8.out.set_ m _).far (by simpa using a2) _
     ·rw[<-aY.out,aG0];exact S1.out.set_ (o+m) _
    case measure=>simp[intOf];omega
  ·have bJ:m=8:=by omega
   subst bJ;have t1:¬ (((8:Nat):Int)<8):=by omega
   go_wp2;refine aHN (v:=.tuple #[]) (aHJ results227 _ _ _) rfl ?_;exact⟨rfl,HA.out,HB.out,aI.out⟩
end
end Go.Proofs.YtbpgfkjhclpbdaaGreatDoor
