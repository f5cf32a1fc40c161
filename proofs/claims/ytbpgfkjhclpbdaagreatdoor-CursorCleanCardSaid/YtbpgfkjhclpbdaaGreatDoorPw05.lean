/- Arr, Heaps, NumB. Conditions: as each theorem states. -/
import Derived.Handy
import Derived.Laws.Rows
import Derived.Deep.RegionWith
import Derived.Test.YtbpgfkjhclpbdaaGreatDoorPw03
set_option maxHeartbeats 1000000
namespace Go.Proofs.YtbpgfkjhclpbdaaGreatDoor
open Tryz
open Go.RowKit
section
def aR(b:List Int):Value:=.agg (b.map (Value.int .i64)).toArray
def BigB(b:List Int):Prop:=∀ (k:Nat) (x:Int),b[k]? = some x->-4611686018427387904<=x/\x<=4611686018427387904
def bgt(b:List Int)(k:Nat):Int:=b.getD k 0
theorem aD{b:List Int}{k:Nat}{x:Int}(h:b[k]? = some x):bgt b k=x:=by unfold bgt;simp[List.getD,h]
theorem fG{b:List Int}{k:Nat}{x:Int}(h:b[k]? = some x):(b.map (Value.int .i64)).toArray[k]? = some (.int .i64 x):=by simp[h]
theorem aE{α:Type}{b:List α}{k n:Nat}(hb:b.length=n)(h:k<n):∃ x,b[k]? = some x:=⟨_,TT (by omega)⟩
theorem lC{B:Nat}{a b c:World}(h:Below B a b)(d:B<=a.heap.size)(k:Below b.heap.size b c):Below B a c:=h.trans (k.mono (aGE d h.size))
section
variable {P : Program} {ops : Array Oper} {rest : List Oper} {o : Oper} {a : Act} {w : World} {Q : Exit → Act → World → Prop}
theorem mL(t:Region.wanted o (yielded ops a.tmps)=true)(h:∀ K:Act->World->Prop,(∀ a w,wpList P ops Q rest a w->K a w)->o.wp P a w K Q):wpList P ops Q (o::rest) a w :=
 wpList_step fun K d=>by rw[FN t];exact h K d
theorem aB(J:Region.wanted o (yielded ops a.tmps)=true)(ty:TypeId)(x:Operand)(O:o.op=.load ty x)
 (g:Nat)(V:a.eval x=.pointer (some ⟨g,0,none⟩))(t:TypeId)(z:Array Value)(fr:Nat × Nat)(d:TypeDesc)(I:w.heap[g]? = some (.cells z t fr))
 (U:P.underlying ty=some d)(G:(match d with | .struct _ | .array _ _=>true|_=>false)=true)(hi:(P.info? ty).map (·.size)=some z.size)
 (h:wpList P ops Q rest (a.put o.dst (.agg z)) w):wpList P ops Q (o::rest) a w :=
 mL J fun _ F=>aIX ty x O g V t z fr d I U G hi (F _ _ h)
theorem aA(G:Region.wanted o (yielded ops a.tmps)=true)(ty:TypeId)(x y:Operand)(I:o.op=.store ty x y)
 (g:Nat)(O:a.eval x=.pointer (some ⟨g,0,none⟩))(t:TypeId)(old d:Array Value)(U:a.eval y=.agg d)(F:w.heap[g]? = some (.cells old t (0,0)))
 (hi:(P.info? ty).map (·.size)=some d.size)(J:old.size=d.size)(h1:d.all (·.oneCell')=true)
 (h:wpList P ops Q rest (a.put o.dst undef) (w.setRow g d)):wpList P ops Q (o::rest) a w :=
 mL G fun _ z=>by
  unfold Oper.wp execOp;simp only[I,O,U,Instr.storeAt,Instr.sureAddr,aHS,Sem.run_pure,Result.andThen_ok,run_storeVar_row w g t ty old d F hi J h1];exact z _ _ h
theorem bT{C:World->Prop}{K:Act->Prop}(ty:TypeId)(x:Operand)(I:o.op=.load ty x)
 (g:Nat)(U:a.eval x=.pointer (some ⟨g,0,none⟩))(t:TypeId)(z:Array Value)(fr:Nat × Nat)(d:TypeDesc)(G:∀ w,C w->w.heap[g]? = some (.cells z t fr))
 (J:P.underlying ty=some d)(F:(match d with | .struct _ | .array _ _=>true|_=>false)=true)(hi:(P.info? ty).map (·.size)=some z.size)
 (h:K (a.put o.dst (.agg z))):o.quiet P a C K:=by
 refine⟨_,fun w O=>?_,h⟩;unfold Oper.quietAt execOp;simp only[I,U,Instr.loadAt,Instr.sureAddr,aHS,Sem.run_pure,Result.andThen_ok,run_loadVar_row w g t ty z fr d (G w O) J F hi];exact⟨rfl,rfl⟩
end
theorem bA(w:World)(g:Nat)(t:TypeId)(old d:Array Value)(h:w.heap[g]? = some (.cells old t (0,0))):(w.setRow g d).heap[g]? = some (.cells d t (0,0)):=by
 simp[World.setRow,aIP,h]
theorem aO{B:Nat}{d w:World}(hb:Below B d w)(g:Nat)(t:B<=g)(h:Array Value):Below B d (w.setRow g h):=by
 refine hb.trans ⟨rfl,rfl,rfl,by simp[World.setRow],fun k hk=>?_⟩;simp only[World.setRow,aIP];rw[sL (by omega)]
theorem fE(b:List Int):((b.map (Value.int .i64)).toArray).all (·.oneCell')=true:=by
 rw[aGY];intro v d;simp at d;obtain⟨x,_,rfl⟩:=d
 rfl
theorem eW{W:World}{g:Nat}{t:TypeId}{d:Array Value}(h:W.heap[g]? = some (.cells d t (0,0))):∀ w',(∃ x:GW W,w'=x.1)->w'.heap[g]? = some (.cells d t (0,0)):=by
 rintro w' ⟨x,rfl⟩;have z:g<W.heap.size:=by
  rcases aGt g W.heap.size with h1|h1
  ·exact h1
  ·rw[aHl h1]at h;cases h
 exact (x.2.block g z).trans h
theorem dR{W:World}{g:Nat}{t:TypeId}{d:Array Value}(h:W.heap[g]? = some (.cells d t (0,0)))(x:GW W)(i:Nat):x.1.cell? ⟨g,i,none⟩=d[i]?:=aGo x.1 g i d t (0,0) (eW h x.1 ⟨x,rfl⟩)
theorem cA{P:Program}{t e:TypeId}{n:Nat}{d:Array Value}{k:Nat}{v:Value}(F:P.underlying t=some (.array n e))(hk:k<n)(z:∀ W,(Go.sizeOf e).run P W=.ok 1 W)(ha:∀ W,(isAgg e).run P W=.ok false W)(G:d[k]? = some v)(W:World):
  (Instr.index t (.agg d) (.int .i64 (k:Int))).run P W=.ok v W:=by
 have h1:(0:Int)<=(k:Int)/\(k:Int)<(n:Int):=by omega
 unfold Instr.index part;simp[Sem.run_bind,aIz F,asIntOf,h1,z,ha,G];intro h;omega
end
section
section
variable (w : World) (A B C D E : Obj)
theorem aFw:(w.alloc A).heap[w.heap.size]? = some A/\(w.alloc A).heap.size=w.heap.size+1/\Below w.heap.size w (w.alloc A):=⟨LT w A,aG5 _ _,aP _ _⟩
theorem yL:((w.alloc A).alloc B).heap[w.heap.size]? = some A/\((w.alloc A).alloc B).heap[w.heap.size+1]? = some B/\((w.alloc A).alloc B).heap.size=w.heap.size+2/\Below w.heap.size w ((w.alloc A).alloc B):=by
 obtain⟨a,s,b⟩:=aFw w A;refine⟨(aHg _ _ (by omega)).trans a,?_,by rw[aG5,s],b.alloc (by omega) _⟩;have:=LT (w.alloc A) B
 rwa [s]at this
theorem yM:(((w.alloc A).alloc B).alloc C).heap[w.heap.size]? = some A/\(((w.alloc A).alloc B).alloc C).heap[w.heap.size+1]? = some B/\(((w.alloc A).alloc B).alloc C).heap[w.heap.size+1+1]? = some C /\
  (((w.alloc A).alloc B).alloc C).heap.size=w.heap.size+3/\Below w.heap.size w (((w.alloc A).alloc B).alloc C):=by
 obtain⟨a,b,s,l⟩:=yL w A B;refine⟨(aHg _ _ (by omega)).trans a,(aHg _ _ (by omega)).trans b,?_,by rw[aG5,s],l.alloc (by omega) _⟩;have:=LT ((w.alloc A).alloc B) C
 rwa [s]at this
theorem aE8:((((w.alloc A).alloc B).alloc C).alloc D).heap[w.heap.size]? = some A/\((((w.alloc A).alloc B).alloc C).alloc D).heap[w.heap.size+1]? = some B/\((((w.alloc A).alloc B).alloc C).alloc D).heap[w.heap.size+1+1]? = some C /\
  ((((w.alloc A).alloc B).alloc C).alloc D).heap[w.heap.size+1+1+1]? = some D/\((((w.alloc A).alloc B).alloc C).alloc D).heap.size=w.heap.size+4/\Below w.heap.size w ((((w.alloc A).alloc B).alloc C).alloc D):=by
 obtain⟨a,b,c,s,l⟩:=yM w A B C;refine⟨(aHg _ _ (by omega)).trans a,(aHg _ _ (by omega)).trans b,(aHg _ _ (by omega)).trans c,?_,by rw[aG5,s],l.alloc (by omega) _⟩;have:=LT (((w.alloc A).alloc B).alloc C) D
 rwa [s]at this
end
theorem aF{w w':World}{g:Nat}{o:Obj}(h:w.heap[g]? = some o)(hb:Below w.heap.size w w'):w'.heap[g]? = some o:=by
 refine (hb.block g ?_).trans h;rcases aGt g w.heap.size with h1|h1
 ·exact h1
 ·rw[aHl h1]at h;cases h
theorem hlt{w:World}{g:Nat}{o:Obj}(h:w.heap[g]? = some o):g<w.heap.size:=by
 rcases aGt g w.heap.size with h1|h1
 ·exact h1
 ·rw[aHl h1]at h;cases h
end
section
open Go.Lib (hid)
open Go.RowKit
theorem aEG(v:Int)(h1:-9223372036854775808<=v)(h2:v<=9223372036854775807):bits .xor .i64 (-1) v = -v-1:=by
 have d:(BitVec.ofInt 64 (-1) ^^^ BitVec.ofInt 64 v).toNat=2 ^ 64-1-(v % ((2 ^ 64:Nat):Int)).toNat:=by
  rw[show BitVec.ofInt 64 (-1)=BitVec.allOnes 64 by decide,BitVec.allOnes_xor,BitVec.toNat_not,BitVec.toNat_ofInt]
 show IntKind.i64.wrap ((BitVec.ofInt 64 (-1) ^^^ BitVec.ofInt 64 v).toNat:Nat) = -v-1;rw[d,IntKind.wrap_i64];omega
theorem ZY(v:Int)(w:World)(hb:(v == 0)=false)(t:cG v=1+mO (mQ v))(hlt:mQ v<9223372036854775808)(h:(v<0/\bits .xor .i64 (-1) v=(mQ v:Int))\/(0<v/\v=(mQ v:Int))):
  Calls prog 208 #[.int .i64 v] w fun e w'=>e=.returned (.int .i64 (cG v))/\w=w':=by
 have I:=hid t;have F:=hid (xV (k:=63) hlt);have J:=hid hlt;clear t hlt;rcases h with ⟨h,h2⟩|⟨h,h2⟩
 all_goals
  have z:=hid h2;clear h2;go_enter func208,ntmps208;go_wp2
  go_loop [0,3] (fun x n=>∃ (y k:Nat),k+mO y=mO (mQ v)/\x=.int .i64 y/\n=.int .i64 (1+(k:Int))/\y<9223372036854775808) (fun x _=>(intOf x).toNat)
  case atStart=>exact⟨mQ v,0,by omega,jX z.out,rfl,J.out⟩
  case round =>
   obtain⟨y,k,hk,rfl,rfl,Z⟩:=hrel;have d:=hid hk;have W:k<=63:=by have:=F.out;omega
   clear hk
   by_cases O:0<y
   ·have V:(0:Int)<(y:Int):=by omega
    have G:=hid (rA O);go_wp2
    go_round
    case rel=>exact⟨y / 2,k+1,by have:=G.out;have:=d.out;omega,jX (by simp),jX (by omega),by omega⟩
    case measure=>simp[intOf];omega
   ·have V:¬ (0:Int)<(y:Int):=by omega
    have U:y=0:=by omega
    subst U;go_wp2
    go_ret
    exact⟨cL (by rw[I.out];have:=d.out;rw[WJ]at this;omega),rfl⟩
theorem zQ(v:Int)(w:World)(h1:-9223372036854775808<=v)(h2:v<=9223372036854775807):
  Calls prog 208 #[.int .i64 v] w fun e w'=>e=.returned (.int .i64 (cG v))/\w=w':=by
 by_cases d:v=0
 ·subst d;go_enter func208,ntmps208;go_wp2
  go_ret
  exact⟨rfl,rfl⟩
 ·refine ZY v w (aG8.2 d) (by unfold cG;rw[sL d]) (by unfold mQ;split <;> omega) ?_;rcases aIg v 0 with h|h
  ·exact .inl ⟨h,by rw[aEG v h1 h2];unfold mQ;rw[FN h];omega⟩
  ·exact .inr ⟨by omega,by unfold mQ;rw[sL (by omega)];omega⟩
theorem aAM(v:Int)(w:World)(h1:-4611686018427387904<=v)(h2:v<=4611686018427387904):
  Calls prog 257 #[.int .i64 v,.int .i64 0] w fun e w'=>e=.returned (.int .i64 (jI v 0))/\∃ n,w'=w.drewN n:=by
 have d:IntKind.i64.wrap (v.tdiv 1)=v:=by rw[Int.tdiv_one];exact aGl _ (by omega)
 have h:IntKind.i64.wrap (v.tmod 1)=0:=by rw[Int.tmod_one];rfl
 go_enter func257,ntmps257;go_wp2
 go_quiet (fail)
 go_wp2
 go_ret
 exact⟨rfl,_,rfl⟩
theorem aAL(v:Int)(k:Nat)(w:World)(h1:-4611686018427387904<=v)(h2:v<=4611686018427387904)(z:k<=60):
  Calls prog 257 #[.int .i64 v,.int .i64 (k+1:Nat)] w fun e w'=>e=.returned (.int .i64 (jI v (k+1)))/\∃ n,w'=w.drewN n:=by
 have d:=hid (show jI v (k+1)=if 2 ^ k<=v.tmod (2 ^ (k+1)) then v.tdiv (2 ^ (k+1))+1 else if v.tmod (2 ^ (k+1))<=-2 ^ k then v.tdiv (2 ^ (k+1))-1 else v.tdiv (2 ^ (k+1)) by
  unfold jI;rw[sL (by omega)];rfl)
 have hlt:(2:Nat) ^ k<=2 ^ 60:=aHR (by decide) z;have h:(0:Int)<2 ^ k:=aHP (by decide);have t:(2:Int) ^ k<=1152921504606846976:=by
  rw[show (2:Int) ^ k=((2 ^ k:Nat):Int) by rw[Int.natCast_pow];rfl];exact aID.2 hlt
 have e:(2:Int) ^ (k+1)=2*2 ^ k:=by rw[aI0];omega
 have F:=tdiv_between v ((2:Int) ^ (k+1)) (by omega);have aB:IntKind.i64.wrap (2 ^ (k+1))=2 ^ (k+1):=aGl _ (by omega);have aC:IntKind.i64.wrap (2 ^ k)=2 ^ k:=aGl _ (by omega);have aD:IntKind.i64.wrap (-2 ^ k) = -2 ^ k:=aGl _ (by omega);have W:IntKind.i64.wrap (v.tmod (2 ^ (k+1)))=v.tmod (2 ^ (k+1)):=by
  have I:=Int.lt_tmod_of_pos v (b:=(2:Int) ^ (k+1)) (by omega);have J:=Int.tmod_lt_of_pos v (b:=(2:Int) ^ (k+1)) (by omega);exact aGl _ (by omega)
 have U:IntKind.i64.wrap (v.tdiv (2 ^ (k+1)))=v.tdiv (2 ^ (k+1)):=aGl _ (by omega);have G:-4611686018427387904<=v.tdiv (2 ^ (k+1))/\v.tdiv (2 ^ (k+1))<=4611686018427387904:=by omega
 have hz:((2:Int) ^ (k+1))≠0:=by omega
 clear e F h t hlt;go_enter func257,ntmps257;go_wp2
 go_quiet (fail)
 generalize v.tdiv (2 ^ (k+1))=q at *
 generalize v.tmod (2 ^ (k+1))=r at *
 obtain⟨O,V⟩:=G;have Z:IntKind.i64.wrap (q+1)=q+1:=aGl _ (by omega);have aA:IntKind.i64.wrap (q-1)=q-1:=aGl _ (by omega);go_wp2
 all_goals
  go_ret
  refine⟨cL ?_,_,rfl⟩;rw[d.out]
  (repeat' split) <;> omega
theorem aCB(v:Int)(p:Nat)(w:World)(h1:-4611686018427387904<=v)(h2:v<=4611686018427387904)(d:p<=61):
  Calls prog 257 #[.int .i64 v,.int .i64 p] w fun e w'=>e=.returned (.int .i64 (jI v p))/\∃ n,w'=w.drewN n:=by
 cases p with
 | zero=>exact aAM v w h1 h2
 | succ k=>exact aAL v k w h1 h2 (by omega)
theorem xN(A:Option Addr)(cap:Nat)(l:List Int)(w:World)(W:l.length<=1000000000)(I:Row w w.heap.size A (l.map (.int .i64)))(hb:∀ x∈l,-9223372036854775808<=x/\x<=9223372036854775807):
  Calls prog 209 #[.slice A l.length cap] w fun e w'=>e=.returned (.int .i64 (dF l))/\w=w':=by
 have U:=hid I;have O:=hid hb;obtain⟨n,t⟩:∃ n,l.length=n:=⟨_,rfl⟩;rw[t]at W ⊢;have G:=hid t;clear I hb t;go_enter func209,ntmps209;go_wp2
 go_loop [3,8] (fun p i=>∃ (m:Nat),m<=n/\i=.int .i64 m/\p=.int .i64 (dF (l.take m))) (fun _ i=>n-(intOf i).toNat)
 case atStart=>exact⟨0,by omega,rfl,rfl⟩
 case round =>
  obtain⟨m,hm,rfl,rfl⟩:=hrel
  by_cases hlt:m<n
  ·have Z:(m:Int)<(n:Int):=by omega
   obtain⟨x,d⟩:=aE (k:=m) G.out hlt;obtain⟨b,off,hA,_,hc⟩:=U.out m (.int .i64 x) (by rw[aF5,d];rfl);have aB:=O.out x (aGh d);have F:=hid (show dF (l.take (m+1))=max (dF (l.take m)) (eS x) by
    obtain⟨hk,rfl⟩:=aGi.1 d;rw[aHG hk,YW])
   generalize dF (l.take m)=P at *
   subst hA;obtain⟨y,z⟩:∃ y,eS x=y:=⟨_,rfl⟩;rw[z]at F;have V:=hid z;clear d z;have h:P<y\/y<=P:=by omega
   rcases h with h|h
   all_goals
    go_wp2_with (go_at_call 229;refine (xK _ _ (by omega) (by omega)).mono ?_;rw[V.out];rintro e w' ⟨rfl,rfl⟩)
    go_round
    case rel=>exact⟨m+1,by omega,by go_num,jX (by rw[F.out];first|rfl|omega)⟩
    case measure=>simp[intOf];omega
  ·have Z:¬ ((m:Int)<(n:Int)):=by omega
   have J:=hid (show dF (l.take m)=dF l by rw[aGW (by rw[G.out];omega)]);go_wp2
   go_ret
   exact⟨cL J.out,rfl⟩
end
end Go.Proofs.YtbpgfkjhclpbdaaGreatDoor
