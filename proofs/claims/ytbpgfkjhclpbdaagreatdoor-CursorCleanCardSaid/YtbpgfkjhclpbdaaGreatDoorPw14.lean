/- Parts, LiftB, GainA, FitA, aGb, FitC, GainB, FitD. Conditions: as each theorem states. -/
import Derived.ChangeKeysEq
import Derived.Laws.Tables
import Derived.Test.YtbpgfkjhclpbdaaGreatDoorPw13
set_option maxRecDepth 100000
set_option maxHeartbeats 4000000
namespace Go.Proofs.YtbpgfkjhclpbdaaGreatDoor
open Tryz
open Go.Lib (hid)
section
open Go.RowKit
section
variable {P : Program} {ops : Array Oper} {rest : List Oper} {o : Oper} {a : Act} {w : World} {Q : Exit → Act → World → Prop}
theorem DM(g off j:Nat):(⟨g,off,none⟩:Addr).add j=⟨g,off+j,none⟩:=by
 unfold Addr.add;split
 ·rename_i h;simp_all
 ·rfl
theorem mI(w:World)(g off:Nat)(ty:TypeId)(xs:List Value)(d:TypeDesc)(h:∀ j v,xs[j]? = some v->w.cell? ⟨g,off+j,none⟩=some v)
 (I:P.underlying ty=some d)(O:(match d with | .struct _ | .array _ _=>true|_=>false)=true)(hi:(P.info? ty).map (·.size)=some xs.length):
  (loadVar ty ⟨g,off,none⟩).run P w=.ok (.agg xs.toArray) w:=by
 have F:(loadCells ⟨g,off,none⟩ xs.length).run P w=.ok xs.toArray w :=
  run_loadCells_list (P:=P) w ⟨g,off,none⟩ xs (fun j v J=>by rw[DM];exact h j v J)
 cases t:P.info? ty with
 | none=>simp[t]at hi
 | some i =>
  have G:i.size=xs.length:=by simpa[t] using hi
  have z:(isAgg ty).run P w=.ok true w:=by
   unfold isAgg;rw[aHS,aIz I w];cases d <;> simp_all
  simp[loadVar,Sem.run_bind,z,sizeOf,typeInfo,t,G,F]
theorem aL(F:Region.wanted o (yielded ops a.tmps)=true)(ty:TypeId)(x:Operand)(G:o.op=.load ty x)
 (g off:Nat)(J:a.eval x=.pointer (some ⟨g,off,none⟩))(xs:List Value)(d:TypeDesc)(h:∀ j v,xs[j]? = some v->w.cell? ⟨g,off+j,none⟩=some v)
 (I:P.underlying ty=some d)(z:(match d with | .struct _ | .array _ _=>true|_=>false)=true)(hi:(P.info? ty).map (·.size)=some xs.length)
 (hk:wpList P ops Q rest (a.put o.dst (.agg xs.toArray)) w):wpList P ops Q (o::rest) a w :=
 mL F fun _ t=>by
  unfold Oper.wp execOp;simp only[G,J,Instr.loadAt,Instr.sureAddr,aHS,Sem.run_pure,Result.andThen_ok,mI w g off ty xs d h I z hi];exact t _ _ hk
theorem aY{C:World->Prop}{K:Act->Prop}(ty:TypeId)(x:Operand)(z:o.op=.load ty x)
 (g off:Nat)(I:a.eval x=.pointer (some ⟨g,off,none⟩))(xs:List Value)(d:TypeDesc)(h:∀ w,C w->∀ j v,xs[j]? = some v->w.cell? ⟨g,off+j,none⟩=some v)
 (F:P.underlying ty=some d)(t:(match d with | .struct _ | .array _ _=>true|_=>false)=true)(hi:(P.info? ty).map (·.size)=some xs.length)
 (hk:K (a.put o.dst (.agg xs.toArray))):o.quiet P a C K:=by
 refine⟨_,fun w G=>?_,hk⟩;unfold Oper.quietAt execOp;simp only[z,I,Instr.loadAt,Instr.sureAddr,aHS,Sem.run_pure,Result.andThen_ok,mI w g off ty xs d (h w G) F t hi];exact⟨rfl,rfl⟩
theorem dP(F:o.guard=none)(t:TypeId)(d:Array (Nat × Operand))(G:o.op=.build t d)(z:Array Value)
 (hb:P.built t (d.map fun (i,x)=>(i,a.eval x)).toList=some z)(h:wpList P ops Q rest (a.put o.dst (.agg z)) w):wpList P ops Q (o::rest) a w :=
 wpList_build F t d G (by rw[hb];rfl) (by rw[hb];exact h)
end
theorem LD:(prog.info? 2).map (·.size)=some 1:=by kernel_rfl
theorem nN:prog.arrayLen 43=16:=by kernel_rfl
theorem zT:prog.underlying 43=some (.array (prog.arrayLen 43) (prog.elem 43)):=by kernel_rfl
theorem wC(W:World):(sizeOf (prog.elem 43)).run prog W=.ok 1 W:=by kernel_rfl
theorem pA(g off:Nat)(l h:Int)(x y:Nat)(d:l=x)(hh:h=y)(h1:x<=y)(h2:y<=16)(t:x<16)(W:World):
  (Instr.sliceAt 43 (.pointer (some ⟨g,off,none⟩)) (some (.int .i64 l)) (some (.int .i64 h)) none).run prog W=.ok (.slice (some ⟨g,off+x,none⟩) (y-x) (16-x)) W:=by
 subst d hh;rw[run_sliceAt_array_lh W 43 ⟨g,off,none⟩ zT .i64 .i64 x y (by omega) (by omega) (by rw[nN];omega),wC W];simp only[Result.andThen_ok,slicedAt,nN,Int.toNat_natCast,Nat.mul_one];rw[sL (by omega),DM]
/-! Frames. -/
def aFJ.cells(f:aFJ)(tv:Value):List Value:=f.gains.map (Value.int .i64)++(tv::(f.scale.map (Value.int .i64)++(f.width.map (Value.int .i64)++f.q.map (Value.int .i64))))
structure aFJ.Len(f:aFJ):Prop where
 g:f.gains.length=4
 s:f.scale.length=4
 w:f.width.length=4
 q:f.q.length=16
theorem aFJ.cells_len{f:aFJ}(h:f.Len)(tv:Value):(f.cells tv).length=29:=by
 unfold aFJ.cells;simp[h.g,h.s,h.w,h.q]
theorem bZ:(prog.info? 45).map (·.size)=some 29:=by kernel_rfl
theorem uF{l:List Int}(h:l.length=4):∃ a b c d,l=[a,b,c,d]:=by
 match l,h with
 | [a,b,c,d],_=>exact⟨a,b,c,d,rfl⟩
theorem xB{l:List Int}(h:l.length=16):∃ a0 d t z F G I J O U V W Z b3 b4 b5,l=[a0,d,t,z,F,G,I,J,O,U,V,W,Z,b3,b4,b5]:=by
 match l,h with
 | [a0,d,t,z,F,G,I,J,O,U,V,W,Z,b3,b4,b5],_=>exact⟨a0,d,t,z,F,G,I,J,O,U,V,W,Z,b3,b4,b5,rfl⟩
theorem SH(f:aFJ)(h:f.Len)(A:Option Addr)(n c:Nat):
  prog.built 45 [(0,aR f.gains),(1,.slice A n c),(2,aR f.scale),(3,aR f.width),(4,aR f.q)]=some (f.cells (.slice A n c)).toArray:=by
 obtain⟨g,ts,s,wd,q⟩:=f;obtain⟨d,z,F,t⟩:=h;simp only at d z F t;obtain⟨g0,g1,g2,g3,rfl⟩:=uF d;obtain⟨s0,s1,s2,s3,rfl⟩:=uF z;obtain⟨w0,w1,w2,w3,rfl⟩:=uF F;obtain⟨a0,G,I,J,O,U,V,W,Z,a9,b0,b1,b2,b3,b4,b5,rfl⟩:=xB t
 kernel_rfl
end
section
open Go.RowKit
def jV(m:Nat):List Value:=((List.range 8).map fun k=>if k<m then (bD k).cells else [.int .i64 0,.int .i64 0]).flatten
def bH:Array Value:=(jV 8).toArray
theorem C0(m:Nat):(jV m).length=16:=by
 unfold jV;simp[List.range,List.range.loop]
 repeat' split
 all_goals rfl
theorem VD{m:Nat}(hm:m<8):((jV m).set (m*2) (.int .i64 (bD m).p)).set (m*2+1) (.int .i64 (bD m).u)=jV (m+1):=by
 have d:m=0\/m=1\/m=2\/m=3\/m=4\/m=5\/m=6\/m=7:=by omega
 rcases d with rfl|rfl|rfl|rfl|rfl|rfl|rfl|rfl <;> rfl
theorem VC{m:Nat}(hm:m<8):(jV m)[m*2]? = some (.int .i64 0)/\(jV m)[m*2+1]? = some (.int .i64 0):=by
 have d:m=0\/m=1\/m=2\/m=3\/m=4\/m=5\/m=6\/m=7:=by omega
 rcases d with rfl|rfl|rfl|rfl|rfl|rfl|rfl|rfl <;> exact⟨rfl,rfl⟩
theorem DA(m:Nat):(jV m).toArray.all (·.oneCell')=true:=by
 rw[aGY];intro v d;rw[List.mem_toArray]at d;unfold jV at d;obtain⟨l,h,d⟩:=aIs.1 d;obtain⟨k,_,rfl⟩:=aGq.1 h;split at d
 ·simp[aF1.cells]at d;rcases d with rfl|rfl <;> rfl
 ·simp at d;subst d;rfl
theorem LF:(prog.info? 85).map (·.size)=some 16:=by kernel_rfl
theorem AE:(prog.info? 87).map (·.size)=some 16:=by kernel_rfl
theorem DS:(prog.info? 89).map (·.size)=some 16:=by kernel_rfl
theorem rK:(prog.info? 91).map (·.size)=some 32:=by kernel_rfl
theorem KC(w:World):Calls prog 119 #[] w fun e w'=>e=.returned (.agg bH)/\Below w.heap.size w w':=by
 have d:=hid (yL w (.cells (List.replicate 16 (Value.int .i64 0)).toArray 85) (.cells (List.replicate 16 (Value.int .i64 0)).toArray 85));go_enter func119,ntmps119;go_wp2;go_loopw [3] (fun i wr=>∃ m:Nat,m<=8/\i=.int .i64 m/\Blk wr (w.heap.size+1) 85 (jV m)/\Blk wr w.heap.size 85 (List.replicate 16 (.int .i64 0))/\Below w.heap.size w wr) (fun i _=>8-(intOf i).toNat)
 case atStart=>exact⟨0,by omega,rfl,d.out.2.1,d.out.1,d.out.2.2.2⟩
 case round =>
  obtain⟨m,hm,rfl,hB,hZ,aK⟩:=hrel;have F:=hid hB;have I:=hid hZ;have aF:=hid aK;clear hB hZ aK d
  by_cases O:m<8
  ·have t1:(m:Int)<8:=by omega
   have HS:=hid (VD O);have Z:=hid (VC O);have HT:=hid (fun W=>vL m W O);generalize bD m=tk at *
   obtain⟨p,u⟩:=tk;simp only at HS HT;go_wp2_with (go_at_call 123;fail)
   refine (HT.out _).mono ?_;rintro e w1 ⟨rfl,h⟩;have z:=hid (F.out.below h F.out.lt);have Z1:=hid (I.out.below h I.out.lt);have L1:=hid (aC aF.out h);have aU:w1.cell? ⟨w.heap.size+1,m*2,none⟩=some (.int .i64 0):=(z.out.cell _).trans Z.out.1;have aW:=z.out.frozen (m*2);have J:=hid (z.out.set_ (m*2) (.int .i64 p));have aV:(w1.setCell ⟨w.heap.size+1,m*2,none⟩ (.int .i64 p)).cell? ⟨w.heap.size+1,m*2+1,none⟩=some (.int .i64 0):=by
    rw[J.out.cell,aHu,sL (by omega)];exact Z.out.2
   have aX:=J.out.frozen (m*2+1);clear h;go_wp2;go_roundw
   case rel =>
    refine⟨m+1,by omega,by go_num,?_,(Z1.out.far (by simp) _).far (by simp) _,(L1.out.setCell (by simp) _).setCell (by simp) _⟩;rw[<-HS.out];exact J.out.set_ _ _
   case measure=>simp[intOf];omega
  ·have aR:m=8:=by omega
   subst aR;have t1:¬ (((8:Nat):Int)<8):=by omega
   have hH:=hid (show wr.heap[w.heap.size+1]? = some (.cells (jV 8).toArray 85 (0,0)) from F.out);have aI:=hid (show wr.heap[w.heap.size]? = some (.cells (List.replicate 16 (Value.int .i64 0)).toArray 85 (0,0)) from I.out);have V:=hid (DA 8);have t:(jV 8).toArray.size=16:=by simp[C0]
   obtain⟨xs,U⟩:∃ xs,(jV 8).toArray=xs:=⟨_,rfl⟩;rw[U]at hH V t;have HE:=hid U;clear U;have G:=hid (show (prog.info? 85).map (·.size)=some xs.size by rw[t];exact LF);have aN:=hid t;clear t;go_wp2_with (first|(refine aB rfl 85 (.tmp 1) rfl (w.heap.size+1) rfl _ xs _ _ hH.out underlying85 rfl G.out ?_)|(refine aA rfl 85 (.tmp 0) (.tmp 11) rfl w.heap.size rfl _ _ xs rfl aI.out G.out (by rw[aN.out];simp) V.out ?_))
   refine aGk (v:=.agg xs) (aG9 results119 _ _ w.heap.size 85 xs (0,0) _ rfl (bA wr _ _ _ xs aI.out) underlying85 rfl G.out) rfl ?_;exact⟨by rw[<-HE.out];rfl,aO aF.out _ (by omega) _⟩
theorem b7:bH.size=16:=by simp[bH,C0]
theorem xH:bH.all (·.oneCell')=true:=DA 8
def dS:Array Value:=bH++bH
theorem fL:dS.size=32:=by simp[dS,b7]
theorem aDs:dS.all (·.oneCell')=true:=by
 unfold dS;rw[Array.all_append,xH];rfl
theorem QS:prog.built 87 [(0,.agg bH)]=some bH:=by kernel_rfl
theorem aA3:prog.built 89 [(0,.agg bH)]=some bH:=by kernel_rfl
theorem aA2:prog.built 91 [(0,.agg bH),(1,.agg bH)]=some dS:=by kernel_rfl
theorem TJ(w:World):Calls prog 118 #[.agg bH] w fun e w'=>e=.returned (.agg bH)/\Below w.heap.size w w':=by
 have F:=hid QS;have z:=hid (show (prog.info? 85).map (·.size)=some bH.size by rw[b7];exact LF);have h:=hid (show (prog.info? 87).map (·.size)=some bH.size by rw[b7];exact AE);have t:=hid xH;have G:=hid (show (List.replicate 16 (Value.int .i64 0)).toArray.size=bH.size by rw[b7];rfl);generalize bH=tv at *
 have d:=hid (yL w (.cells tv 85) (.cells (List.replicate 16 (Value.int .i64 0)).toArray 87));go_enter func118,ntmps118;go_wp2_with (refine aB rfl 85 (.tmp 1) rfl w.heap.size rfl _ tv _ _ d.out.1 underlying85 rfl z.out ?_;refine dP rfl 87 _ rfl tv (by simpa[Act.eval,Act.put] using F.out) ?_;refine aA rfl 87 (.tmp 2) (.tmp 4) rfl (w.heap.size+1) rfl _ _ tv rfl d.out.2.1 h.out G.out t.out ?_)
 refine aGk (v:=.agg tv) (aG9 results118 _ _ (w.heap.size+1) 87 tv (0,0) _ rfl (bA _ _ _ _ tv d.out.2.1) underlying87 rfl h.out) rfl ?_;exact⟨rfl,aO d.out.2.2.2 _ (by omega) _⟩
theorem YK(w:World):Calls prog 120 #[] w fun e w'=>e=.returned (.agg bH)/\Below w.heap.size w w':=by
 have I:=hid aA3;have J:=hid KC;have h:=hid (show (prog.info? 89).map (·.size)=some bH.size by rw[b7];exact DS);have F:=hid xH;have O:=hid (show (List.replicate 16 (Value.int .i64 0)).toArray.size=bH.size by rw[b7];rfl);generalize bH=tv at *
 have G:=hid (LT w (.cells (List.replicate 16 (Value.int .i64 0)).toArray 89));go_enter func120,ntmps120;go_wp2_with (go_at_call 119;fail)
 refine (J.out _).mono ?_;rintro e U ⟨rfl,d⟩;have t:=hid (aF G.out d);have z:=hid (aC (aP w _) d);clear d;go_wp2_with (first|(refine dP rfl 89 _ rfl tv (by simpa[Act.eval] using I.out) ?_)|(refine aA rfl 89 (.tmp 0) (.tmp 2) rfl w.heap.size rfl _ _ tv rfl t.out h.out O.out F.out ?_))
 refine aGk (v:=.agg tv) (aG9 results120 _ _ w.heap.size 89 tv (0,0) _ rfl (bA _ _ _ _ tv t.out) underlying89 rfl h.out) rfl ?_;exact⟨rfl,aO z.out _ (by omega) _⟩
theorem GQ(w:World):Calls prog 72 #[] w fun e w'=>e=.returned (.agg dS)/\Below w.heap.size w w':=by
 have HT:=hid aA2;have aD:=hid KC;have V:=hid TJ;have Z:=hid YK;have F:=hid (show (prog.info? 91).map (·.size)=some dS.size by rw[fL];exact rK);have U:=hid aDs;have Hs:=hid (show (List.replicate 32 (Value.int .i64 0)).toArray.size=dS.size by rw[fL];rfl);generalize dS=d at *
 generalize bH=tv at *
 have W:=hid (LT w (.cells (List.replicate 32 (Value.int .i64 0)).toArray 91));go_enter func72,ntmps72;go_wp2_with (go_at_call 119;fail)
 refine (aD.out _).mono ?_;rintro e w1 ⟨rfl,h⟩;have M1:=hid (aF W.out h);have I:=hid (aC (aP w _) h);clear h;go_wp2_with (go_at_call 118;fail)
 refine (V.out _).mono ?_;rintro e w2 ⟨rfl,t⟩;have M2:=hid (aF M1.out t);have J:=hid (aC I.out t);clear t;go_wp2_with (go_at_call 120;fail)
 refine (Z.out _).mono ?_;rintro e w3 ⟨rfl,z⟩;have G:=hid (aF M2.out z);have O:=hid (aC J.out z);clear z;go_wp2_with (first|(refine dP rfl 91 _ rfl d (by simpa[Act.eval] using HT.out) ?_)|(refine aA rfl 91 (.tmp 0) (.tmp 4) rfl w.heap.size rfl _ _ d rfl G.out F.out Hs.out U.out ?_))
 refine aGk (v:=.agg d) (aG9 results72 _ _ w.heap.size 91 d (0,0) _ rfl (bA _ _ _ _ d G.out) underlying91 rfl F.out) rfl ?_;exact⟨rfl,aO O.out _ (by omega) _⟩
end
section
open Go.RowKit
def GainB(g:List Int):Prop:=g.length=4/\iW g=true
theorem GainB.get{g:List Int}(h:GainB g){q:Nat}{x:Int}(d:g[q]? = some x):0<=x/\x<=3:=by
 have:=aGD.1 h.2 x (aGh d);unfold inB at this;simpa using this
theorem MV(g:List Int)(i:Nat)(w:World)(d:GainB g)(hi:i<16):
  Calls prog 126 #[aR g,.int .i64 i] w fun e w'=>e=.returned (.int .i64 (bgt g (i / 4)))/\Below w.heap.size w w':=by
 have G:=hid (fun W=>pG g W d.1);rw[d.2]at G;obtain⟨q,O⟩:∃ q,i / 4=q:=⟨_,rfl⟩;obtain⟨x,z⟩:=aE (k:=q) d.1 (by omega);rw[O,aD z];have aL:(i:Int) / 4=(q:Int):=by omega
 have aK:(q:Int)<4:=by omega
 have aJ:(0:Int)<=(q:Int):=by omega
 have e1:decide ((i:Int)<0)=false:=aGm (by omega);have e2:decide ((16:Int)<=(i:Int))=false:=aGm (by omega);have I:=fG z;have J:(g.map (Value.int .i64)).toArray.size=4:=by simp[d.1]
 unfold aR at *
 generalize (g.map (Value.int .i64)).toArray=h at *
 have Z:=hid (show (prog.info? 40).map (·.size)=some h.size by rw[J];exact b9);have F:=hid (LT w (.cells h 40));have aA:=hid I;clear J d z O hi I;go_enter func126,ntmps126;go_wp2_with (first|(go_at_call 154;fail)|(refine aB rfl 40 (.tmp 2) rfl w.heap.size rfl _ h _ _ F.out underlying40 rfl Z.out ?_))
 refine (G.out _).mono ?_;rintro e U ⟨rfl,t⟩;have ce:U.cell? ⟨w.heap.size,q,none⟩=some (.int .i64 x):=(aGo U w.heap.size q _ _ _ (aF F.out t)).trans aA.out;have V:=hid (aC (aP w _) t);clear t;go_wp2
 go_ret
 exact⟨rfl,V.out⟩
theorem PK{x:Int}{k:Nat}(h:-1099511627776<=x/\x<=1099511627776)(hk:k<=3):IntKind.i64.wrap (x*2 ^ k)=x*2 ^ k:=by
 have d:k=0\/k=1\/k=2\/k=3:=by omega
 rcases d with rfl|rfl|rfl|rfl
 ·rw[show (2:Int) ^ 0=1 by decide];exact aGl _ (by omega)
 ·rw[show (2:Int) ^ 1=2 by decide];exact aGl _ (by omega)
 ·rw[show (2:Int) ^ 2=4 by decide];exact aGl _ (by omega)
 ·rw[show (2:Int) ^ 3=8 by decide];exact aGl _ (by omega)
def TurnB(b:List Int):Prop:=∀ (k:Nat) (x:Int),b[k]? = some x->-1099511627776<=x/\x<=1099511627776
theorem aFc(b g:List Int)(w:World)(hb:b.length=16)(hr:TurnB b)(z:GainB g):
  Calls prog 205 #[aR b,aR g] w fun e w'=>e=.returned (aR (bN b g 16))/\Below w.heap.size w w':=by
 have HA:=hid (fun i W (hi:i<16)=>MV g i W z hi);have HG:=hid (fun q x (d:g[q]? = some x)=>z.get d);have bG:=hid z.1;have Hb:=hid hb;have Hr:=hid hr;have aZ:(g.map (Value.int .i64)).toArray.size=4:=by simp[z.1]
 unfold aR at *
 generalize (g.map (Value.int .i64)).toArray=F at *
 have a8:=hid (show (prog.info? 40).map (·.size)=some F.size by rw[aZ];exact b9);have h:=hid (yM w (.cells (b.map (Value.int .i64)).toArray 43) (.cells F 40) (.cells (List.replicate 16 (Value.int .i64 0)).toArray 43));generalize aY:b.map (Value.int .i64)=bv at *
 have bF:=hid aY;clear aZ z hb hr aY;go_enter func205,ntmps205;go_wp2_with fail
 go_loopw [6] (fun i wr=>∃ (m:Nat),m<=16/\i=.int .i64 m/\Blk wr w.heap.size 43 ((bN b g m).map (Value.int .i64))/\wr.heap[w.heap.size+1]? = some (.cells F 40 (0,0))/\Blk wr (w.heap.size+1+1) 43 (List.replicate 16 (.int .i64 0))/\Below w.heap.size w wr) (fun i _=>16-(intOf i).toNat)
 case atStart=>exact⟨0,by omega,rfl,by rw[vP g Hb.out,bF.out];exact h.out.1,h.out.2.1,h.out.2.2.1,h.out.2.2.2.2⟩
 case round =>
  obtain⟨m,hm,rfl,G,J,hZ,aX⟩:=hrel;have Z:=hid G;have bC:=hid J;have HZ:=hid hZ;have aT:=hid aX;clear h
  by_cases O:m<16
  ·have t1:(m:Int)<16:=by omega
   obtain⟨x,d⟩:=aE (k:=m) Hb.out O;obtain⟨q,hq⟩:∃ q,m / 4=q:=⟨_,rfl⟩;obtain⟨y,V⟩:=aE (k:=q) bG.out (by omega);obtain⟨y0,y1⟩:=HG.out q y V;obtain⟨p,rfl⟩:=aGF y0;have aN:=hid (fun W=>HA.out m W O);rw[hq,aD V]at aN;have bO:=PK (Hr.out m x d) (k:=p) (by omega);have aP:=hid (show (bN b g m).set m (x*2 ^ p)=bN b g (m+1) by
    rw[<-vO b g O,aD d,hq,aD V,Int.toNat_natCast])
   have bK:((bN b g m).map (Value.int .i64))[m]? = some (.int .i64 x):=by rw[aF5,zI b g O (LE m) d];rfl
   have x5:=iX G;have P1:=eW J;have t2:(0:Int)<=(p:Int):=by omega
   have t3:(p:Int)<=64:=by omega
   obtain⟨s2,bM⟩:∃ s2:Int,x*2 ^ p=s2:=⟨_,rfl⟩;rw[bM]at aP bO;clear d V hq G J hZ aX y0 y1;go_wp2_with fail
   refine aJ 8 (by kernel_rfl) (by kernel_rfl) ?_;simp only[List.take_succ_cons,List.take_zero,aGO,aGR]
   repeat (first|(go_big_quiet_want;refine bT 40 (.tmp 3) rfl (w.heap.size+1) rfl _ F _ _ P1 underlying40 rfl a8.out ?_;go_simp;go_big_quiet_on)|go_big_quiet_step ((go_at_call 126;exact bY (aN.out _))))
   refine aGv ?_;intro w5 a1;have t:=aQ a1;have I:=Z.out.below t Z.out.lt;have a6:=hid I;have bD:=hid (HZ.out.below t HZ.out.lt);have bB:=hid (aF bC.out t);have bE:=hid (aC aT.out t);have ce:w5.cell? ⟨w.heap.size,m,none⟩=some (.int .i64 x):=by rw[I.cell];exact bK
   have fz:=I.frozen m;clear a1 t x5 P1 I;go_wp2;go_roundw
   case rel =>
    refine⟨m+1,by omega,by go_num,?_,(aHm w5 _ _ _ (by simp)).trans bB.out,bD.out.far (by simp;omega) _,bE.out.setCell (by simp) _⟩;rw[<-aP.out,aG0];exact a6.out.set_ m _
   case measure=>simp[intOf];omega
  ·have bL:m=16:=by omega
   subst bL;have t1:¬ (((16:Nat):Int)<16):=by omega
   have hH:=hid (show wr.heap[w.heap.size]? = some (.cells ((bN b g 16).map (Value.int .i64)).toArray 43 (0,0)) from Z.out);have aW:=hid (show wr.heap[w.heap.size+1+1]? = some (.cells (List.replicate 16 (Value.int .i64 0)).toArray 43 (0,0)) from HZ.out);have H1:=hid (fE (bN b g 16));have U:((bN b g 16).map (Value.int .i64)).toArray.size=16:=by simp[lT]
   obtain⟨xs,aL⟩:∃ xs,((bN b g 16).map (Value.int .i64)).toArray=xs:=⟨_,rfl⟩;rw[aL]at hH H1 U;have HE:=hid aL;clear aL;have aG:=hid (show (prog.info? 43).map (·.size)=some xs.size by rw[U];exact bJ);have bI:=hid U;clear U G J hZ;go_wp2_with (first|(refine aB rfl 43 (.tmp 2) rfl w.heap.size rfl _ xs _ _ hH.out underlying43 rfl aG.out ?_)|(refine aA rfl 43 (.tmp 4) (.tmp 18) rfl (w.heap.size+1+1) rfl _ _ xs rfl aW.out aG.out (by rw[bI.out];simp) H1.out ?_))
   refine aGk (v:=.agg xs) (aG9 results205 _ _ (w.heap.size+1+1) 43 xs (0,0) _ rfl (bA wr _ _ _ xs aW.out) underlying43 rfl aG.out) rfl ?_;exact⟨by rw[<-HE.out],aO aT.out _ (by omega) _⟩
end
section
open Go.RowKit
structure aF8(b:List Int)(ts:List aFP):Prop where
 len:ts.length<=1000
 big:∀ m,m<=ts.length->BigB (dH b (ts.take m))
 each:∀ t∈ts,t.big
theorem aF8.out{b:List Int}{ts:List aFP}(h:aF8 b ts):BigB (dH b ts):=by
 have:=h.big ts.length (LE _)
 rwa [List.take_length]at this
theorem aD2(b g s:List Int)(ts:List aFP)(A:Option Addr)(cap:Nat)(w:World)(hb:b.length=16)(I:g.length=4)(G:ScB s)(ht:aF8 b ts)(hr:Row w w.heap.size A (aV ts)):
  Calls prog 233 #[aR b,aR g,aR s,.slice A ts.length cap] w fun e w'=>e=.returned (.agg ((dK b g s ts).cells (.slice A ts.length cap)).toArray)/\Below w.heap.size w w':=by
 have HO:=hid (fun W (hW:Below w.heap.size w W)=>CY b ts A cap W hb (by have:=ht.len;omega) (hr.later hW) ht.big ht.each);have aT:(dH b ts).length=16:=by rw[tO,hb]
 have b5:=hid (fun W=>aAQ (dH b ts) s W aT G.1 ht.out G.ok);have bR:BigB (cM (dH b ts) s 16):=by
  intro k x hx;have hk:k<16:=by
   have:=(aGi.1 hx).1
   rwa [kX]at this
  have h1:=pC (dH b ts) s (m:=16) hk;rw[aD hx,FN hk]at h1;obtain⟨y,hy⟩:=aE aT hk;have bW:=ht.out k y hy;rw[aD hy]at h1;have:=OL bW.1 bW.2 (bgt s (k / 4)).toNat;omega
 have HW:=hid (fun W=>WA (cM (dH b ts) s 16) W (kX _ _ _) bR);have hT:dK b g s ts=⟨g,ts,s,kG (cM (dH b ts) s 16),cM (dH b ts) s 16⟩:=by unfold dK fC;rw[FN G.ok]
 have V:=hid (SH (dK b g s ts) ⟨by rw[hT];exact I,by rw[hT];exact G.1,by rw[hT];exact iH _ _,by rw[hT];exact kX _ _ _⟩ A ts.length cap);rw[hT]at V ⊢;have HL:=hid (aFJ.cells_len (f:=⟨g,ts,s,kG (cM (dH b ts) s 16),cM (dH b ts) s 16⟩) ⟨I,G.1,iH _ _,kX _ _ _⟩ (.slice A ts.length cap));have aM:((cM (dH b ts) s 16).map (Value.int .i64)).toArray.size=16:=by simp[kX]
 have bO:=fE (cM (dH b ts) s 16);simp only at V;unfold aR at *
 generalize aP:(aFJ.cells ⟨g,ts,s,kG (cM (dH b ts) s 16),cM (dH b ts) s 16⟩ (.slice A ts.length cap)).toArray=h at *
 have aS:h.size=29:=by rw[<-aP];simpa using HL.out
 have bP:h.all (·.oneCell')=true:=by
  rw[<-aP,aGY];intro v U;simp[aFJ.cells]at U;rcases U with ⟨x,_,rfl⟩|rfl|⟨x,_,rfl⟩|⟨x,_,rfl⟩|⟨x,_,rfl⟩ <;> rfl
 have b8:=hid aS;have b7:=hid bP;have a7:=hid (show (prog.info? 45).map (·.size)=some h.size by rw[aS];exact bZ);clear aS bP aP HL hT;have bX:(b.map (Value.int .i64)).toArray.size=16:=by simp[hb]
 have b0:(g.map (Value.int .i64)).toArray.size=4:=by simp[I]
 have b1:(s.map (Value.int .i64)).toArray.size=4:=by simp[G.1]
 generalize ((cM (dH b ts) s 16).map (Value.int .i64)).toArray=d at *
 generalize ((dH b ts).map (Value.int .i64)).toArray=ov at *
 generalize (b.map (Value.int .i64)).toArray=bv at *
 generalize (g.map (Value.int .i64)).toArray=gv at *
 generalize (s.map (Value.int .i64)).toArray=O at *
 have b2:=hid (show (prog.info? 43).map (·.size)=some bv.size by rw[bX];exact bJ);have a8:=hid (show (prog.info? 43).map (·.size)=some d.size by rw[aM];exact bJ);have b3:=hid (show (prog.info? 40).map (·.size)=some gv.size by rw[b0];exact b9);have a6:=hid (show (prog.info? 263).map (·.size)=some O.size by rw[b1];exact n6);have cA:=hid bO;have cB:=hid aM;have H4:=hid (aE8 w (.cells bv 43) (.cells gv 40) (.cells O 263) (.cells #[.int .i64 0,.int .i64 0,.int .i64 0,.int .i64 0,.slice none 0 0,.int .i64 0,.int .i64 0,.int .i64 0,.int .i64 0,.int .i64 0,.int .i64 0,.int .i64 0,.int .i64 0,.int .i64 0,.int .i64 0,.int .i64 0,.int .i64 0,.int .i64 0,.int .i64 0,.int .i64 0,.int .i64 0,.int .i64 0,.int .i64 0,.int .i64 0,.int .i64 0,.int .i64 0,.int .i64 0,.int .i64 0,.int .i64 0] 45));clear bX b0 b1 bO aM hb I G ht hr aT bR;go_enter func233,ntmps233;go_wp2_with fail
 obtain⟨H0,H1,H2,H3,Hz,HB⟩:=H4.out;have Z:=hid H0;have K1:=hid H1;have K2:=hid H2;have K3:=hid H3;have KB:=hid HB;have Kz:=hid Hz;clear H0 H1 H2 H3 Hz HB H4;refine qU 6 (AM (w.heap.size+4) 5 (List.replicate 16 (Value.int .i64 0)).toArray 43) (by kernel_rfl) (by kernel_rfl) (vI _ _ _ _) ?_;refine BN 0 5 1 (by decide) (by intro j hj;unfold AM;rw[sL (by omega)]) (fun W hW=>?_);simp only[List.take_succ_cons,List.take_zero,aGO,aGR];have a4:=lC KB.out (by omega) hW;have bB:=hid (fun (x:GW W)=>HO.out x.1 (aC a4 x.2));have G0:=eW (aF Z.out hW);have G2:=eW (aF K2.out hW)
 repeat (first|(go_big_quiet_want;refine bT 43 (.tmp 4) rfl w.heap.size rfl _ bv _ _ G0 underlying43 rfl b2.out ?_;go_simp;go_big_quiet_on)|(go_big_quiet_want;refine bT 263 (.tmp 6) rfl (w.heap.size+1+1) rfl _ O _ _ G2 underlying263 rfl a6.out ?_;go_simp;go_big_quiet_on)|go_big_quiet_step ((first|(go_at_call 232;exact bY (bB.out _))|(go_at_call 246;exact bY (b5.out _)))))
 refine aGv ?_;clear a4 bB G0 G2 hW;refine BM 5 0 _ (w.heap.size+4) _ 43 rfl rfl (by rw[Kz.out];omega) rfl (fun W=>rfl) (fun v=>?_);refine FI (fun z F hG=>?_);obtain⟨_,t,U,cO,aU⟩:=hG;subst U;have a5:=hid (lC KB.out (by omega) F);have L0:=hid (aF Z.out F);have L1:=hid (aF K1.out F);have L2:=hid (aF K2.out F);have L3:=hid (aF K3.out F);have L5:=hid aU;have l5:=hlt aU;have hz:=aGE (aIw Kz.out.symm) F.size;clear F aU W Z K1 K2 K3 KB Kz;simp only[Act.put,aGK,List.set_cons_zero,List.set_cons_succ];go_wp2_with (refine aA rfl 43 (.tmp 9) (.tmp 14) rfl t rfl _ (List.replicate 16 (Value.int .i64 0)).toArray d rfl L5.out a8.out (by rw[cB.out];rfl) cA.out ?_)
 simp only[Act.put];have cF:=hid (bA z t _ _ d L5.out);have J:∀ g,g<w.heap.size+4->∀ o,z.heap[g]? = some o->(z.setRow t d).heap[g]? = some o:=fun g I o ho=>((aO (B:=w.heap.size+4) (aGj _ z) t (by omega) d).block g I).trans ho
 have cL:=hid (J _ (by omega) _ L0.out);have cC:=hid (J _ (by omega) _ L1.out);have cD:=hid (J _ (by omega) _ L2.out);have cE:=hid (J _ (by omega) _ L3.out);have cG:=hid (aO a5.out t (by omega) d);have cR:(z.setRow t d).heap.size=z.heap.size:=size_setRow _ _ _;clear L0 L1 L2 L3 L5 a5 J;generalize z.setRow t d=W6 at *
 have P1:=eW cC.out;have P2:=eW cD.out;have P5:=eW cF.out;refine aJ 6 (by kernel_rfl) (by kernel_rfl) ?_;simp only[List.take_succ_cons,List.take_zero,aGO,aGR]
 repeat (first|(go_big_quiet_want;refine bT 40 (.tmp 5) rfl (w.heap.size+1) rfl _ gv _ _ P1 underlying40 rfl b3.out ?_;go_simp;go_big_quiet_on)|(go_big_quiet_want;refine bT 263 (.tmp 6) rfl (w.heap.size+1+1) rfl _ O _ _ P2 underlying263 rfl a6.out ?_;go_simp;go_big_quiet_on)|(go_big_quiet_want;refine bT 43 (.tmp 9) rfl t rfl _ d _ _ P5 underlying43 rfl a8.out ?_;go_simp;go_big_quiet_on)|go_big_quiet_step ((go_at_call 247;exact bY (HW.out _))))
 refine aGv ?_;intro w7 bS;have aN:=aQ bS;have M3:=hid ((aN.block (w.heap.size+1+1+1) (by omega)).trans cE.out);have MB:=hid (aC cG.out aN);clear bS aN P1 P2 P5;go_wp2_with (first|(refine dP rfl 45 _ rfl h (by simpa[Act.eval] using V.out) ?_)|(refine aA rfl 45 (.tmp 8) (.tmp 21) rfl (w.heap.size+1+1+1) rfl _ _ h rfl M3.out a7.out (by rw[b8.out];rfl) b7.out ?_))
 refine aGk (v:=.agg h) (aG9 results233 _ _ (w.heap.size+1+1+1) 45 h (0,0) _ rfl (bA w7 _ _ _ h M3.out) underlying45 rfl a7.out) rfl ?_;exact⟨rfl,aO MB.out _ (by omega) _⟩
end
section
open Go.RowKit
def aZ(f:aFJ)(tv:Value):Array Value:=(f.cells tv).toArray
theorem fX{f:aFJ}(h:f.Len)(tv:Value):(aZ f tv).size=29:=by unfold aZ;simpa using aFJ.cells_len h tv
theorem yG{f:aFJ}(h:f.Len)(tv:Value):(aZ f tv)[4]? = some tv:=by
 unfold aZ aFJ.cells;simp[h.g]
theorem tD{f:aFJ}(h:f.Len)(tv:Value){j:Nat}{v:Value}(d:(f.gains.map (Value.int .i64))[j]? = some v):(aZ f tv)[0+j]? = some v:=by
 have t:j<4:=by have:=(aGi.1 d).1;simpa[h.g] using this
 unfold aZ aFJ.cells;rw[aHL,aGn,aGU (by simp[h.g,t])];exact d
theorem yF{f:aFJ}(h:f.Len)(tv:Value){j:Nat}{v:Value}(d:(f.scale.map (Value.int .i64))[j]? = some v):(aZ f tv)[5+j]? = some v:=by
 have t:j<4:=by have:=(aGi.1 d).1;simpa[h.s] using this
 unfold aZ aFJ.cells;rw[aHL,aGP (by simp[h.g] <;> omega),aF7,h.g,show 5+j-4=j+1 by omega,List.getElem?_cons_succ,aGU (by simp[h.s,t])];exact d
theorem rE{f:aFJ}(h:f.Len)(tv:Value){j:Nat}{v:Value}(d:(f.width.map (Value.int .i64))[j]? = some v):(aZ f tv)[9+j]? = some v:=by
 have t:j<4:=by have:=(aGi.1 d).1;simpa[h.w] using this
 unfold aZ aFJ.cells;rw[aHL,aGP (by simp[h.g] <;> omega),aF7,h.g,show 9+j-4=(j+4)+1 by omega,List.getElem?_cons_succ,aGP (by simp[h.s]),aF7,h.s,
  show j+4-4=j by omega,aGU (by simp[h.w,t])]
 exact d
theorem aC9{f:aFJ}(h:f.Len)(tv:Value){j:Nat}{v:Value}(d:(f.q.map (Value.int .i64))[j]? = some v):(aZ f tv)[13+j]? = some v:=by
 have t:j<16:=by have:=(aGi.1 d).1;simpa[h.q] using this
 unfold aZ aFJ.cells;rw[aHL,aGP (by simp[h.g] <;> omega),aF7,h.g,show 13+j-4=(j+8)+1 by omega,List.getElem?_cons_succ,aGP (by simp[h.s] <;> omega),aF7,h.s,
  show j+8-4=j+4 by omega,aGP (by simp[h.w]),aF7,h.w,show j+4-4=j by omega]
 exact d
theorem l8(f:aFJ){tv:Value}(ht:tv.oneCell'=true):(aZ f tv).all (·.oneCell')=true:=by
 unfold aZ;rw[aGY];intro v d;simp[aFJ.cells]at d;rcases d with ⟨x,_,rfl⟩|rfl|⟨x,_,rfl⟩|⟨x,_,rfl⟩|⟨x,_,rfl⟩ <;> first|rfl|exact ht
theorem aCo(f:aFJ)(A:Option Addr)(c:Nat)(w:World)(h:f.Len)(ht:f.tones.length<=1000)(t:∀ (k:Nat) (x:Int),f.width[k]? = some x->0<=x/\x<=1000):
  Calls prog 234 #[.agg (aZ f (.slice A f.tones.length c))] w fun e w'=>e=.returned (.int .i64 (gH f))/\Below w.heap.size w w':=by
 have I:=aGC (fun W=>aCr f.width W h.w t);have aK:0<=bgt f.width 0+bgt f.width 1+bgt f.width 2+bgt f.width 3/\bgt f.width 0+bgt f.width 1+bgt f.width 2+bgt f.width 3<=4000:=by
  obtain⟨a,ha⟩:=aE (k:=0) h.w (by omega);obtain⟨b,hb⟩:=aE (k:=1) h.w (by omega);obtain⟨d,U⟩:=aE (k:=2) h.w (by omega);obtain⟨e,he⟩:=aE (k:=3) h.w (by omega);rw[aD ha,aD hb,aD U,aD he];have:=t 0 a ha;have:=t 1 b hb;have:=t 2 d U;have:=t 3 e he;omega
 have HB:=aGC (show gH f=52+28*(f.tones.length:Int)+4*(bgt f.width 0+bgt f.width 1+bgt f.width 2+bgt f.width 3) from rfl);have aM:=yG h (.slice A f.tones.length c);have aJ:=aGC (fun j v (F:(f.width.map (Value.int .i64))[j]? = some v)=>rE h (.slice A f.tones.length c) F);have Z:(f.width.map (Value.int .i64)).length=4:=by simp[h.w]
 have aG:=aGC (show (prog.info? 40).map (·.size)=some (f.width.map (Value.int .i64)).length by rw[Z];exact b9);unfold aR at I;generalize aZ f (.slice A f.tones.length c)=O at *
 generalize bgt f.width 0+bgt f.width 1+bgt f.width 2+bgt f.width 3=sm at *
 generalize f.width.map (Value.int .i64)=wv at *
 generalize f.tones.length=z at *
 have J:=aGC (LT w (.cells O 45));obtain⟨aN,aO⟩:=aK;have aS:IntKind.i64.wrap (28*(z:Int))=28*(z:Int):=aGl _ (by omega);have aT:IntKind.i64.wrap (52+28*(z:Int))=52+28*(z:Int):=aGl _ (by omega);have aV:IntKind.i64.wrap (52+28*(z:Int)+4*sm)=52+28*(z:Int)+4*sm:=aGl _ (by omega);clear t Z h ht;go_enter func234,ntmps234;go_wp2_with fail
 have aL:=dR J.out;have G:=aGC (fun w' (hC:∃ x:GW (w.alloc (.cells O 45)),w'=x.1) j v (F:wv[j]? = some v)=>(show w'.cell? ⟨w.heap.size,9+j,none⟩=some v by
  obtain⟨x,rfl⟩:=hC;rw[dR J.out x (9+j)];exact aJ.out j v F))
 refine aU (by kernel_rfl) (by kernel_rfl) ?_
 repeat (first|(go_big_quiet_want;refine aY 40 (.tmp 8) rfl w.heap.size 9 rfl wv _ G.out underlying40 rfl aG.out ?_;go_simp;go_big_quiet_on)|go_big_quiet_step ((go_at_call 248;exact bY (I.out _))))
 refine aGv ?_;intro w5 V;have aI:=aQ V;clear aL G V;go_wp2
 go_ret
 exact⟨cL (by rw[HB.out]),aC (aP _ _) aI⟩
theorem OV{P:Program}(ts:Array TypeId)(t:TypeId)(a b c d:Int)(w:World):(Builtin.min_ ts t #[.int .i64 a,.int .i64 b,.int .i64 c,.int .i64 d]).run P w=.ok (.int .i64 (min (min (min a b) c) d)) w:=by
 have e:(if d<(if c<(if b<a then b else a) then c else (if b<a then b else a)) then d else (if c<(if b<a then b else a) then c else (if b<a then b else a)))=min (min (min a b) c) d:=by (repeat' split) <;> omega
 simp[Builtin.min_,Builtin.min2,e]
theorem OU{P:Program}(ts:Array TypeId)(t:TypeId)(a b c d:Int)(w:World):(Builtin.max_ ts t #[.int .i64 a,.int .i64 b,.int .i64 c,.int .i64 d]).run P w=.ok (.int .i64 (max (max (max a b) c) d)) w:=by
 have e:(if (if (if a<b then b else a)<c then c else (if a<b then b else a))<d then d else (if (if a<b then b else a)<c then c else (if a<b then b else a)))=max (max (max a b) c) d:=by (repeat' split) <;> omega
 simp[Builtin.max_,Builtin.max2,e]
theorem GC(g:List Int)(w:World)(F:g.length=4):
  Calls prog 210 #[aR g] w fun e w'=>e=.returned (.bool (iW g))/\Below w.heap.size w w':=by
 obtain⟨a,b,c,d,rfl⟩:=uF F;unfold aR;have z:iW [a,b,c,d]=(decide (0<=min (min (min a b) c) d)&&decide (max (max (max a b) c) d<=3)):=by
  unfold iW inB;rw[aH9];simp;omega
 have I:=fun W=>OV (P:=prog) #[3,3,3,3] 3 a b c d W
 have G:=fun W=>OU (P:=prog) #[3,3,3,3] 3 a b c d W
 generalize min (min (min a b) c) d=lo at *
 generalize max (max (max a b) c) d=hi at *
 have t:=aGC z;clear z F
 by_cases h1:0<=lo
 ·have h:decide (0<=lo)=true:=aGs h1;go_enter func210,ntmps210;go_wp2
  go_ret
  exact⟨dU (by rw[t.out,h];simp),aP _ _⟩
 ·have h:decide (0<=lo)=false:=aGm h1;go_enter func210,ntmps210;go_wp2
  go_ret
  exact⟨dU (by rw[t.out,h];simp),aP _ _⟩
end
section
open Go.RowKit
def fM(b:List Int)(m:Nat):List Int:=(List.range 4).map fun i=>if i<m then (cG (dF ((b.drop (i*4)).take 4)):Int) else 0
theorem GV(b:List Int):fM b 4=mY b:=by
 unfold fM mY;refine aGZ fun i hi=>?_
 rw[FN (aGA.1 hi)]
theorem GZ(b:List Int){m:Nat}(hm:m<4):(fM b m).set m (cG (dF ((b.drop (m*4)).take 4)):Int)=fM b (m+1):=by
 refine cK _ (fun i=>if i<m+1 then (cG (dF ((b.drop (i*4)).take 4)):Int) else 0) hm ?_ (fun i hi=>?_)
 ·rw[FN (by omega)]
 ·by_cases h:i<m
  ·rw[FN h,FN (by omega)]
  ·rw[sL h,sL (by omega)]
theorem JX(b:List Int)(m:Nat):(fM b m).length=4:=by simp[fM]
theorem JW(b:List Int){m k:Nat}(hk:k<4)(hm:m<=k):(fM b m)[k]? = some 0:=by
 unfold fM;rw[aI _ hk,sL (by omega)]
theorem xU{b:List Int}(h:BigB b){l:List Int}(d:∀ x∈l,x∈b):0<=dF l/\dF l<=4611686018427387904 :=
 ⟨UI l,IK (by omega) l fun x t=>by
  obtain⟨k,hk,rfl⟩:=aHz.1 (d x t);have:=h k _ (TT hk);exact aAc (by omega) (by omega) (by omega)⟩
theorem jO{b:List Int}{i n:Nat}:∀ x∈(b.drop i).take n,x∈b:=fun _ d=>aJU (aIJ d)
theorem aCz(b:List Int)(w:World)(hb:b.length=16)(hr:BigB b):
  Calls prog 231 #[aR b] w fun e w'=>e=.returned (aR (mY b))/\Below w.heap.size w w':=by
 unfold aR;have Hb:=hid hb;have Hr:=hid hr;have h:=hid (Blk.new w 43 (b.map (Value.int .i64)));have d:=hid (yM w (.cells (b.map (Value.int .i64)).toArray 43) (.cells (List.replicate 4 (.int .i64 0)).toArray 40) (.cells (List.replicate 4 (.int .i64 0)).toArray 40));generalize aH:b.map (Value.int .i64)=bv at *
 have aQ:=hid aH;clear hb hr aH h;go_enter func231,ntmps231;go_wp2_with fail
 go_loopw [5] (fun i wr=>∃ (m:Nat),m<=4/\i=.int .i64 m/\Blk wr w.heap.size 43 bv/\Blk wr (w.heap.size+1) 40 (List.replicate 4 (.int .i64 0))/\Blk wr (w.heap.size+1+1) 40 ((fM b m).map (Value.int .i64))/\Below w.heap.size w wr) (fun i _=>4-(intOf i).toNat)
 case atStart=>exact⟨0,by omega,rfl,d.out.1,d.out.2.1,d.out.2.2.1,d.out.2.2.2.2⟩
 case round =>
  obtain⟨m,hm,rfl,I,J,t,aG⟩:=hrel;have h:=hid I;have Z:=hid J;have V:=hid t;have aC:=hid aG;clear d
  by_cases hlt:m<4
  ·have t1:(m:Int)<4:=by omega
   have aI:((b.drop (m*4)).take 4).length=4:=by rw[aGB,aHV,Hb.out];omega
   have a1:=xU Hr.out (l:=(b.drop (m*4)).take 4) jO;have HP:=hid (show ∀ cap,Calls prog 209 #[.slice (some ⟨w.heap.size,m*4,none⟩) 4 cap] wr fun e w'=>e=.returned (.int .i64 (dF ((b.drop (m*4)).take 4)))/\wr=w' from fun cap=>by
    have:=xN (some ⟨w.heap.size,m*4,none⟩) cap ((b.drop (m*4)).take 4) wr (by omega) (fun i v z=>⟨_,m*4,rfl,h.out.lt,by
     rw[h.out.cell,<-aQ.out];rw[aI2,List.map_drop,aHe]at z;split at z
     ·rw[aHp]at z;exact z
     ·cases z⟩) (fun x hx=>by
     obtain⟨k,hk,rfl⟩:=aHz.1 (jO x hx);have:=Hr.out k _ (TT hk);omega)
    rw[aI]at this;exact this)
   have aM:=hid (GZ b hlt);generalize dF ((b.drop (m*4)).take 4)=P at *
   have aN:=hid (fun W=>zQ P W (by omega) (by omega));have ce:wr.cell? ⟨w.heap.size+1+1,m,none⟩=some (.int .i64 0):=by rw[t.cell,aF5,JW b hlt (LE m)];rfl
   have fz:=t.frozen m;have aV:=pA w.heap.size 0 ((m:Int)*4) (((m:Int)+1)*4) (m*4) (m*4+4) (by omega) (by omega) (by omega) (by omega) (by omega);rw[aGn,show m*4+4-m*4=4 by omega]at aV;clear I J t aG aI;go_wp2_with (first|(go_at_call 209;refine (HP.out _).mono ?_;rintro e w1 ⟨rfl,rfl⟩)|(go_at_call 208;refine (aN.out _).mono ?_;rintro e w1 ⟨rfl,rfl⟩))
   go_roundw
   case rel =>
    refine⟨m+1,by omega,by go_num,h.out.far (by simp;omega) _,Z.out.far (by simp) _,?_,aC.out.setCell (by simp;omega) _⟩;rw[<-aM.out,aG0];exact V.out.set_ m _
   case measure=>simp[intOf];omega
  ·have aU:m=4:=by omega
   subst aU;have t1:¬ (((4:Nat):Int)<4):=by omega
   have hH:=hid (show wr.heap[w.heap.size+1+1]? = some (.cells ((fM b 4).map (Value.int .i64)).toArray 40 (0,0)) from V.out);have aF:=hid (show wr.heap[w.heap.size+1]? = some (.cells (List.replicate 4 (Value.int .i64 0)).toArray 40 (0,0)) from Z.out);have U:=hid (fE (fM b 4));have F:((fM b 4).map (Value.int .i64)).toArray.size=4:=by simp[JX]
   obtain⟨xs,O⟩:∃ xs,((fM b 4).map (Value.int .i64)).toArray=xs:=⟨_,rfl⟩;rw[O]at hH U F;have HE:=hid O;clear O;have G:=hid (show (prog.info? 40).map (·.size)=some xs.size by rw[F];exact b9);have aS:=hid F;clear F I J t;go_wp2_with (first|(refine aB rfl 40 (.tmp 3) rfl (w.heap.size+1+1) rfl _ xs _ _ hH.out underlying40 rfl G.out ?_)|(refine aA rfl 40 (.tmp 2) (.tmp 19) rfl (w.heap.size+1) rfl _ _ xs rfl aF.out G.out (by rw[aS.out];simp) U.out ?_))
   refine aGk (v:=.agg xs) (aG9 results231 _ _ (w.heap.size+1) 40 xs (0,0) _ rfl (bA wr _ _ _ xs aF.out) underlying40 rfl G.out) rfl ?_;exact⟨by rw[<-HE.out,GV],aO aC.out _ (by omega) _⟩
end
section
open Go.RowKit
def gE(b s:List Int)(m:Nat):List Int:=(List.range 16).map fun k=>if k<m then jP (bgt b k) (bgt s (k / 4)).toNat else bgt b k
theorem RO{b:List Int}(s:List Int)(hb:b.length=16):gE b s 0=b:=by
 rw[dV hb];unfold gE;apply aGZ;intro k hk;have:=aGA.1 hk;rw[sL (by omega),<-dV hb]
theorem RN(b s:List Int){m:Nat}(hm:m<16):(gE b s m).set m (jP (bgt b m) (bgt s (m / 4)).toNat)=gE b s (m+1):=by
 refine cK _ (fun k=>if k<m+1 then jP (bgt b k) (bgt s (k / 4)).toNat else bgt b k) hm ?_ (fun i hi=>?_)
 ·rw[FN (by omega)]
 ·by_cases h:i<m
  ·rw[FN h,FN (by omega)]
  ·rw[sL h,sL (by omega)]
theorem wH(b s:List Int)(m:Nat):(gE b s m).length=16:=by simp[gE]
theorem WW(b s:List Int){m k:Nat}(hk:k<16)(hm:m<=k){x:Int}(d:b[k]? = some x):(gE b s m)[k]? = some x:=by
 unfold gE;rw[aI _ hk,sL (by omega),aD d]
theorem sV(v:Int)(p:Nat)(w:World)(h1:-9223372036854775808<=v)(h2:v<=9223372036854775807)(h:p<=62):
  Calls prog 125 #[.int .i64 v,.int .i64 p] w fun e w'=>e=.returned (.int .i64 (jP v p))/\Below w.heap.size w w' :=
 (J8 v p w h1 h2 (by omega) (by omega)).mono fun e w' ⟨he,n,d⟩=>⟨by rw[Int.toNat_natCast]at he;exact he,by rw[d];exact aHY (aGj _ _) n⟩
theorem aCs(b g:List Int)(w:World)(hb:b.length=16)(hr:TurnB b)(z:GainB g):
  Calls prog 164 #[aR b,aR g] w fun e w'=>e=.returned (aR (gE b g 16))/\Below w.heap.size w w':=by
 have HA:=hid (fun i W (hi:i<16)=>MV g i W z hi);have HG:=hid (fun q x (d:g[q]? = some x)=>z.get d);have bH:=hid z.1;have Hb:=hid hb;have Hr:=hid hr;have a0:(g.map (Value.int .i64)).toArray.size=4:=by simp[z.1]
 unfold aR at *
 generalize (g.map (Value.int .i64)).toArray=F at *
 have a9:=hid (show (prog.info? 40).map (·.size)=some F.size by rw[a0];exact b9);have h:=hid (yM w (.cells (b.map (Value.int .i64)).toArray 43) (.cells F 40) (.cells (List.replicate 16 (Value.int .i64 0)).toArray 43));generalize aZ:b.map (Value.int .i64)=bv at *
 have bG:=hid aZ;clear a0 z hb hr aZ;go_enter func164,ntmps164;go_wp2_with fail
 go_loopw [6] (fun i wr=>∃ (m:Nat),m<=16/\i=.int .i64 m/\Blk wr w.heap.size 43 ((gE b g m).map (Value.int .i64))/\wr.heap[w.heap.size+1]? = some (.cells F 40 (0,0))/\Blk wr (w.heap.size+1+1) 43 (List.replicate 16 (.int .i64 0))/\Below w.heap.size w wr) (fun i _=>16-(intOf i).toNat)
 case atStart=>exact⟨0,by omega,rfl,by rw[RO g Hb.out,bG.out];exact h.out.1,h.out.2.1,h.out.2.2.1,h.out.2.2.2.2⟩
 case round =>
  obtain⟨m,hm,rfl,G,J,hZ,aY⟩:=hrel;have Z:=hid G;have bD:=hid J;have HZ:=hid hZ;have aU:=hid aY;clear h
  by_cases O:m<16
  ·have t1:(m:Int)<16:=by omega
   obtain⟨x,d⟩:=aE (k:=m) Hb.out O;obtain⟨q,hq⟩:∃ q,m / 4=q:=⟨_,rfl⟩;obtain⟨y,V⟩:=aE (k:=q) bH.out (by omega);obtain⟨y0,y1⟩:=HG.out q y V;obtain⟨p,rfl⟩:=aGF y0;have aN:=hid (fun W=>HA.out m W O);rw[hq,aD V]at aN;have bO:=Hr.out m x d;have aP:=hid (fun W=>sV x p W (by omega) (by omega) (by omega));have aS:=hid (show (gE b g m).set m (jP x p)=gE b g (m+1) by
    rw[<-RN b g O,aD d,hq,aD V,Int.toNat_natCast])
   have bL:((gE b g m).map (Value.int .i64))[m]? = some (.int .i64 x):=by rw[aF5,WW b g O (LE m) d];rfl
   have x5:=iX G;have P1:=eW J;have t2:(0:Int)<=(p:Int):=by omega
   have t3:(p:Int)<=64:=by omega
   obtain⟨s2,bN⟩:∃ s2:Int,jP x p=s2:=⟨_,rfl⟩;rw[bN]at aS aP;clear d V hq G J hZ aY y0 y1 bO;go_wp2_with fail
   refine aJ 9 (by kernel_rfl) (by kernel_rfl) ?_;simp only[List.take_succ_cons,List.take_zero,aGO,aGR]
   repeat (first|(go_big_quiet_want;refine bT 40 (.tmp 3) rfl (w.heap.size+1) rfl _ F _ _ P1 underlying40 rfl a9.out ?_;go_simp;go_big_quiet_on)|go_big_quiet_step ((first|(go_at_call 126;exact bY (aN.out _))|(go_at_call 125;exact bY (aP.out _)))))
   refine aGv ?_;intro w5 a2;have t:=aQ a2;have I:=Z.out.below t Z.out.lt;have a7:=hid I;have bE:=hid (HZ.out.below t HZ.out.lt);have bC:=hid (aF bD.out t);have bF:=hid (aC aU.out t);have ce:w5.cell? ⟨w.heap.size,m,none⟩=some (.int .i64 x):=by rw[I.cell];exact bL
   have fz:=I.frozen m;clear a2 t x5 P1 I;go_wp2;go_roundw
   case rel =>
    refine⟨m+1,by omega,by go_num,?_,(aHm w5 _ _ _ (by simp)).trans bC.out,bE.out.far (by simp;omega) _,bF.out.setCell (by simp) _⟩;rw[<-aS.out,aG0];exact a7.out.set_ m _
   case measure=>simp[intOf];omega
  ·have bM:m=16:=by omega
   subst bM;have t1:¬ (((16:Nat):Int)<16):=by omega
   have hH:=hid (show wr.heap[w.heap.size]? = some (.cells ((gE b g 16).map (Value.int .i64)).toArray 43 (0,0)) from Z.out);have aX:=hid (show wr.heap[w.heap.size+1+1]? = some (.cells (List.replicate 16 (Value.int .i64 0)).toArray 43 (0,0)) from HZ.out);have H1:=hid (fE (gE b g 16));have U:((gE b g 16).map (Value.int .i64)).toArray.size=16:=by simp[wH]
   obtain⟨xs,aL⟩:∃ xs,((gE b g 16).map (Value.int .i64)).toArray=xs:=⟨_,rfl⟩;rw[aL]at hH H1 U;have HE:=hid aL;clear aL;have aG:=hid (show (prog.info? 43).map (·.size)=some xs.size by rw[U];exact bJ);have bK:=hid U;clear U G J hZ;go_wp2_with (first|(refine aB rfl 43 (.tmp 2) rfl w.heap.size rfl _ xs _ _ hH.out underlying43 rfl aG.out ?_)|(refine aA rfl 43 (.tmp 4) (.tmp 19) rfl (w.heap.size+1+1) rfl _ _ xs rfl aX.out aG.out (by rw[bK.out];simp) H1.out ?_))
   refine aGk (v:=.agg xs) (aG9 results164 _ _ (w.heap.size+1+1) 43 xs (0,0) _ rfl (bA wr _ _ _ xs aX.out) underlying43 rfl aG.out) rfl ?_;exact⟨by rw[<-HE.out],aO aU.out _ (by omega) _⟩
def ofC(p d:Int):Nat->Nat->Nat
 | 0,c=>c
 | f+1,c=>if 0<p/\p*2 ^ (c+1)<=d then ofC p d f (c+1) else c
def ofN(p d:Int):Nat:=ofC p d 3 0
theorem aDG(p d:Int):∀ f c,ofC p d f c<=c+f
 | 0,c=>LE _
 | f+1,c=>by
  unfold ofC;split
  ·have:=aDG p d f (c+1);omega
  ·omega
def rN(b:List Int)(m:Nat):List Int:=(List.range 4).map fun i=>if i<m then (ofN (dF ((b.drop (i*4)).take 4)) (dF b):Int) else 0
def ofZ(b:List Int):List Int:=rN b 4
theorem m9(b:List Int)(m:Nat):(rN b m).length=4:=by simp[rN]
theorem aBA(b:List Int){m:Nat}(hm:m<4):(rN b m).set m (ofN (dF ((b.drop (m*4)).take 4)) (dF b):Int)=rN b (m+1):=by
 refine cK _ (fun i=>if i<m+1 then (ofN (dF ((b.drop (i*4)).take 4)) (dF b):Int) else 0) hm ?_ (fun i hi=>?_)
 ·rw[FN (by omega)]
 ·by_cases h:i<m
  ·rw[FN h,FN (by omega)]
  ·rw[sL h,sL (by omega)]
theorem aDH(b:List Int){m k:Nat}(hk:k<4)(hm:m<=k):(rN b m)[k]? = some 0:=by
 unfold rN;rw[aI _ hk,sL (by omega)]
theorem aDI(b:List Int):GainB (ofZ b):=by
 refine⟨m9 b 4,?_⟩;unfold iW;rw[aGD];intro x d;unfold ofZ rN at d;obtain⟨i,hi,rfl⟩:=aGq.1 d;rw[FN (aGA.1 hi)];have:ofN (dF ((b.drop (i*4)).take 4)) (dF b)<=0+3:=aDG _ _ 3 0;unfold inB;rw[aGs (by omega),aGs (by omega)];rfl
theorem aFb(b:List Int)(w:World)(hb:b.length=16)(hr:TurnB b):
  Calls prog 204 #[aR b] w fun e w'=>e=.returned (aR (ofZ b))/\Below w.heap.size w w':=by
 unfold aR;have Hb:=hid hb;have Hr:=hid hr;have a5:BigB b:=fun k x G=>by have:=hr k x G;omega
 have bH:=hid (fun m=>xU a5 (l:=(b.drop (m*4)).take 4) jO);have bC:∀ m,dF ((b.drop (m*4)).take 4)<=1099511627776:=fun m=>IK (by omega) _ fun x G=>by
  obtain⟨k,hk,rfl⟩:=aHz.1 (jO x G);have:=hr k _ (TT hk);exact aAc (by omega) (by omega) (by omega)
 have bN:=hid bC;have aV:=hid (show ∀ W:World,W.heap[w.heap.size]? = some (.cells (b.map (Value.int .i64)).toArray 43 (0,0))->Calls prog 209 #[.slice (some ⟨w.heap.size,0,none⟩) 16 16] W fun e w'=>e=.returned (.int .i64 (dF b))/\W=w' from fun W hW=>by
  have:=xN (some ⟨w.heap.size,0,none⟩) 16 b W (by omega) (fun i v F=>⟨_,0,rfl,hlt hW,by rw[aGo _ _ _ _ _ _ hW,aGn];simpa using F⟩) (fun x G=>by
   obtain⟨k,hk,rfl⟩:=aHz.1 G;have:=hr k _ (TT hk);omega)
  rw[hb]at this;exact this)
 have Z:=hid (yM w (.cells (b.map (Value.int .i64)).toArray 43) (.cells (List.replicate 4 (.int .i64 0)).toArray 40) (.cells (List.replicate 4 (.int .i64 0)).toArray 40));have aU:=hid (aV.out _ (yL w (.cells (b.map (Value.int .i64)).toArray 43) (.cells (List.replicate 4 (.int .i64 0)).toArray 40)).1);have bP:=hid (fun m (hm:m<4)=>aBA b hm);generalize a6:b.map (Value.int .i64)=bv at *
 have bL:=hid a6;generalize dF b=t at *
 clear hb hr a5 bC a6 aV;go_enter func204,ntmps204;go_wp2_with (go_at_call 209;refine aU.out.mono ?_;rintro e w1 ⟨rfl,rfl⟩)
 go_loopw [9] (fun i wr=>∃ (m:Nat),m<=4/\i=.int .i64 m/\Blk wr w.heap.size 43 bv/\Blk wr (w.heap.size+1) 40 (List.replicate 4 (.int .i64 0))/\Blk wr (w.heap.size+1+1) 40 ((rN b m).map (Value.int .i64))/\Below w.heap.size w wr) (fun i _=>4-(intOf i).toNat)
 case atStart=>exact⟨0,by omega,rfl,Z.out.1,Z.out.2.1,Z.out.2.2.1,Z.out.2.2.2.2⟩
 case round =>
  obtain⟨m,hm,rfl,O,U,z,aE⟩:=hrel;have I:=hid O;have HZ:=hid U;have J:=hid z;have aD:=hid aE;clear Z aU
  by_cases aF:m<4
  ·have t1:(m:Int)<4:=by omega
   have bD:((b.drop (m*4)).take 4).length=4:=by rw[aGB,aHV,Hb.out];omega
   have b5:=bH.out m;have b6:=bN.out m;have HP:=hid (show ∀ cap,Calls prog 209 #[.slice (some ⟨w.heap.size,m*4,none⟩) 4 cap] wr fun e w'=>e=.returned (.int .i64 (dF ((b.drop (m*4)).take 4)))/\wr=w' from fun cap=>by
    have:=xN (some ⟨w.heap.size,m*4,none⟩) cap ((b.drop (m*4)).take 4) wr (by omega) (fun i v F=>⟨_,m*4,rfl,I.out.lt,by
     rw[I.out.cell,<-bL.out];rw[aI2,List.map_drop,aHe]at F;split at F
     ·rw[aHp]at F;exact F
     ·cases F⟩) (fun x G=>by
     obtain⟨k,hk,rfl⟩:=aHz.1 (jO x G);have:=Hr.out k _ (TT hk);omega)
    rw[bD]at this;exact this)
   have bJ:=hid (bP.out m aF);generalize dF ((b.drop (m*4)).take 4)=p at *
   have bX:=pA w.heap.size 0 ((m:Int)*4) (((m:Int)+1)*4) (m*4) (m*4+4) (by omega) (by omega) (by omega) (by omega) (by omega);rw[aGn,show m*4+4-m*4=4 by omega]at bX;have bF:=hid (show (rN b m).set m 0=rN b m from by
    apply aGL;intro j;rw[aHu]
    by_cases hj:m=j
    ·subst hj;rw[FN rfl,FN (by rw[m9];exact aF),aDH b aF (LE m)]
    ·rw[sL hj])
   clear O U z aE bD;go_wp2_with (go_at_call 209;refine (HP.out _).mono ?_;rintro e w1 ⟨rfl,rfl⟩)
   go_loopw [19] (fun _ V=>∃ (c:Nat),c<=3/\ofC p t (3-c) c=ofN p t/\Blk V w.heap.size 43 bv/\Blk V (w.heap.size+1) 40 (List.replicate 4 (.int .i64 0))/\Blk V (w.heap.size+1+1) 40 (((rN b m).set m (c:Int)).map (Value.int .i64))/\Below w.heap.size w V) (fun _ V=>3-(intOf ((V.cell? ⟨w.heap.size+1+1,m,none⟩).getD (.int .i64 0))).toNat)
   case atStart=>exact⟨0,by omega,rfl,I.out,HZ.out,by rw[show (((0:Nat):Int))=0 from rfl,bF.out];exact J.out,aD.out⟩
   case round =>
    obtain⟨c,hc,bB,O,U,z,aE⟩:=hrel;have I:=hid O;have HZ:=hid U;have J:=hid z;have aD:=hid aE;have a8:(((rN b m).set m (c:Int)).map (Value.int .i64))[m]? = some (.int .i64 (c:Int)):=by rw[aF5,aIF (by rw[m9];exact aF)];rfl
    have ce:wr.cell? ⟨w.heap.size+1+1,m,none⟩=some (.int .i64 (c:Int)):=by rw[z.cell];exact a8
    have fz:=z.frozen m;have bI:=hid (show ∀ x:Int,(((rN b m).set m (c:Int)).map (Value.int .i64)).set m (.int .i64 x)=((rN b m).set m x).map (Value.int .i64) from fun x=>by rw[<-List.map_set,List.set_set]);have aX:=hid bB;clear O U z aE bB a8;obtain⟨d,hd⟩:∃ d,c+1=d:=⟨_,rfl⟩;have e4:(c:Int)+1=(d:Int):=by omega
    have e6:(0:Int)<=(d:Int):=by omega
    have e7:(d:Int)<=64:=by omega
    have aT:=hid (fun (a7:c<3)=>(show ofC p t (3-c) c=if 0<p/\p*2 ^ d<=t then ofC p t (3-d) d else c by
     subst hd;rw[show 3-c=(3-(c+1))+1 by omega];rfl))
    by_cases aH:0<p/\c<3/\p*2 ^ d<=t
    ·obtain⟨g1,g2,g3⟩:=aH;have e1:decide (0<p)=true:=aGs g1;have e2:decide ((c:Int)<3)=true:=aGs (by omega);have e5:IntKind.i64.wrap (p*2 ^ d)=p*2 ^ d:=PK ⟨by omega,by omega⟩ (by omega);have e3:decide (p*2 ^ d<=t)=true:=aGs g3;have HN:=hid (show ofC p t (3-d) d=ofN p t by rw[<-aX.out,aT.out g2,FN ⟨g1,g3⟩]);obtain⟨P2,bV⟩:∃ P2:Int,p*2 ^ d=P2:=⟨_,rfl⟩;rw[bV]at e5 e3;have Hd:=hid hd;have bM:=hid (show (wr.setCell ⟨w.heap.size+1+1,m,none⟩ (.int .i64 (d:Int))).cell? ⟨w.heap.size+1+1,m,none⟩=some (.int .i64 (d:Int)) by
      rw[(J.out.set_ m (.int .i64 (d:Int))).cell,aIF (by rw[aF7,aIr,m9];exact aF)])
     clear g1 g3 hd;go_wp2;go_roundw
     case rel =>
      refine⟨d,by have:=Hd.out;omega,HN.out,I.out.far (by simp;omega) _,HZ.out.far (by simp) _,?_,aD.out.setCell (by simp;omega) _⟩;rw[<-bI.out];exact J.out.set_ m _
     case measure=>have:=Hd.out;rw[bM.out,ce];simp[intOf];omega
    ·have HN:=hid (show c=ofN p t by
      rw[<-aX.out]
      by_cases a7:c=3
      ·subst a7;rfl
      ·rw[aT.out (by omega),sL (fun h=>aH ⟨h.1,by omega,h.2⟩)])
     have bR:decide (0<p)=false\/(decide (0<p)=true/\decide ((c:Int)<3)=false)\/(decide (0<p)=true/\decide ((c:Int)<3)=true/\decide (p*2 ^ d<=t)=false/\IntKind.i64.wrap (p*2 ^ d)=p*2 ^ d):=by
      by_cases h1:0<p
      ·by_cases h2:c<3
       ·exact .inr (.inr ⟨aGs h1,aGs (by omega),aGm (fun h3=>aH ⟨h1,h2,h3⟩),PK ⟨by omega,by omega⟩ (by omega)⟩)
       ·exact .inr (.inl ⟨aGs h1,aGm (by omega)⟩)
      ·exact .inl (aGm h1)
     clear aH;rcases bR with e1|⟨e1,e2⟩|⟨e1,e2,e3,e5⟩
     all_goals
      go_wp2;go_roundw
      case rel=>exact⟨m+1,by omega,by go_num,I.out,HZ.out,by rw[<-bJ.out,<-HN.out];exact J.out,aD.out⟩
      case measure=>simp[intOf];omega
  ·have bW:m=4:=by omega
   subst bW;have t1:¬ (((4:Nat):Int)<4):=by omega
   have hH:=hid (show wr.heap[w.heap.size+1+1]? = some (.cells ((rN b 4).map (Value.int .i64)).toArray 40 (0,0)) from J.out);have a4:=hid (show wr.heap[w.heap.size+1]? = some (.cells (List.replicate 4 (Value.int .i64 0)).toArray 40 (0,0)) from HZ.out);have H1:=hid (fE (rN b 4));have aI:((rN b 4).map (Value.int .i64)).toArray.size=4:=by simp[m9]
   obtain⟨xs,aQ⟩:∃ xs,((rN b 4).map (Value.int .i64)).toArray=xs:=⟨_,rfl⟩;rw[aQ]at hH H1 aI;have HE:=hid aQ;clear aQ;have aJ:=hid (show (prog.info? 40).map (·.size)=some xs.size by rw[aI];exact b9);have bQ:=hid aI;clear aI O U z;go_wp2_with (first|(refine aB rfl 40 (.tmp 4) rfl (w.heap.size+1+1) rfl _ xs _ _ hH.out underlying40 rfl aJ.out ?_)|(refine aA rfl 40 (.tmp 2) (.tmp 43) rfl (w.heap.size+1) rfl _ _ xs rfl a4.out aJ.out (by rw[bQ.out];simp) H1.out ?_))
   refine aGk (v:=.agg xs) (aG9 results204 _ _ (w.heap.size+1) 40 xs (0,0) _ rfl (bA wr _ _ _ xs a4.out) underlying40 rfl aJ.out) rfl ?_;exact⟨by rw[<-HE.out];rfl,aO aD.out _ (by omega) _⟩
end
section
open Go.RowKit
theorem TY(w s m:List Int)(k:Nat):cX w s m (k+1)=if 0<bgt w k/\bgt s k<23/\(cX w s m k<0\/bgt m (cX w s m k).toNat-bgt s (cX w s m k).toNat<bgt m k-bgt s k) then (k:Int) else cX w s m k:=rfl
def Mid(l:List Int):Prop:=∀ (k:Nat) (x:Int),l[k]? = some x->-1000000000<=x/\x<=1000000000
theorem aDB(f:aFJ)(tv:Value)(mk:List Int)(w:World)(h:f.Len)(hm:mk.length=4)(hs:ScB f.scale)(hw:∀ (k:Nat) (x:Int),f.width[k]? = some x->0<=x)(bE:Mid mk):
  Calls prog 235 #[.agg (aZ f tv),aR mk] w fun e w'=>e=.returned (.int .i64 (cX f.width f.scale mk 4))/\Below w.heap.size w w':=by
 obtain⟨g,ts,s,d,q⟩:=f;have HS:=hid (fun (j:Nat) (x:Int) (hx:s[j]? = some x)=>yF h tv (f:=⟨g,ts,s,d,q⟩) (j:=j) (v:=.int .i64 x) (by rw[aF5];show Option.map _ s[j]? = _;rw[hx];rfl));have bL:=hid (fun (j:Nat) (v:Value) (hv:(d.map (Value.int .i64))[j]? = some v)=>rE h tv (f:=⟨g,ts,s,d,q⟩) hv);obtain⟨_,aX,aT,_⟩:=h;simp only at aX aT hs hw ⊢;have HL:=hid aX;have bK:=hid aT;have a6:=hid hm;have Hs:=hid hs;have Hw:=hid hw;have a9:=hid bE;have bJ:=hid (show (prog.info? 40).map (·.size)=some (d.map (Value.int .i64)).length by rw[aF7,aT];exact b9);unfold aR;have a4:=hid (fun (k:Nat) (x:Int) (h:mk[k]? = some x)=>fG h);have bI:=hid (fun (k:Nat) (x:Int) (h:d[k]? = some x)=>fG h);generalize (mk.map (Value.int .i64)).toArray=mv at *
 generalize bW:d.map (Value.int .i64)=wv at *
 generalize aZ ⟨g,ts,s,d,q⟩ tv=Z at *
 have H2:=hid (yL w (.cells Z 45) (.cells mv 40));clear aX aT hm hs hw bE bW;have HP:=hid (fun j v (hv:wv[j]? = some v)=>(show ((w.alloc (.cells Z 45)).alloc (.cells mv 40)).cell? ⟨w.heap.size,9+j,none⟩=some v by
  rw[aGo _ _ _ Z 45 (0,0) H2.out.1];exact bL.out j v hv))
 go_enter func235,ntmps235;go_wp2_with (refine aL rfl 40 (.tmp 8) rfl w.heap.size 9 rfl wv _ HP.out underlying40 rfl bJ.out ?_)
 go_loopw [5,10] (fun b i wr=>∃ (m:Nat),m<=4/\i=.int .i64 m/\b=.int .i64 (cX d s mk m)/\wr.heap[w.heap.size]? = some (.cells Z 45 (0,0))/\wr.heap[w.heap.size+1]? = some (.cells mv 40 (0,0))/\Below w.heap.size w wr) (fun _ i _=>4-(intOf i).toNat)
 case atStart=>exact⟨0,by omega,rfl,rfl,H2.out.1,H2.out.2.1,H2.out.2.2.2⟩
 case round =>
  obtain⟨m,b7,rfl,rfl,hF,hM,bC⟩:=hrel;have J:=hid hF;have U:=hid hM;have V:=hid bC;have bT:=nQ d s mk m;have G:=hid (TY d s mk m);obtain⟨B,aV⟩:∃ B,cX d s mk m=B:=⟨_,rfl⟩;rw[aV]at bT G ⊢;have bH:=hid aV;clear hF hM bC H2 HP aV
  by_cases hlt:m<4
  ·have t1:(m:Int)<4:=by omega
   obtain⟨W,hW⟩:=aE (k:=m) bK.out hlt;obtain⟨S,hS⟩:=aE (k:=m) HL.out hlt;obtain⟨M,aO⟩:=aE (k:=m) a6.out hlt;have b1:=Hw.out m W hW;have bR:=Hs.out.2 m hlt;have bZ:=a9.out m M aO;have bU:=HS.out _ _ hS;have b2:=a4.out m M aO;have b6:=cA (P:=prog) underlying40 hlt (fun W=>by kernel_rfl) (fun W=>by kernel_rfl) (bI.out m W hW);rw[aD hS]at bR;rw[aD hW,aD hS,aD aO]at G;have aJ:=dR J.out;have bD:∀ j,wr.cell? ⟨w.heap.size,j,none⟩=Z[j]?:=fun j=>aGo wr w.heap.size j Z 45 (0,0) J.out
   have b5:wr.cell? ⟨w.heap.size,5+m,none⟩=some (.int .i64 S):=(bD _).trans bU;clear hW hS aO bD
   by_cases F:W=0
   ·have e0:(W == 0)=true:=aIl.2 F;have z:=hid (show cX d s mk (m+1)=B by rw[G.out,sL (by omega)]);have H0:=hid F;clear F aJ;go_wp2;go_roundw
    case rel=>exact⟨m+1,by omega,by go_num,jX z.out.symm,J.out,U.out,V.out⟩
    case measure=>simp[intOf];omega
   ·have e0:(W == 0)=false:=aG8.2 F
    by_cases h1:23<=S
    ·have e1:decide (23<=S)=true:=aGs h1;have z:=hid (show cX d s mk (m+1)=B by rw[G.out,sL (by omega)]);have H0:=hid F;clear F aJ;go_wp2;go_roundw
     case rel=>exact⟨m+1,by omega,by go_num,jX z.out.symm,J.out,U.out,V.out⟩
     case measure=>simp[intOf];omega
    ·have e1:decide (23<=S)=false:=aGm h1;have b8:IntKind.i64.wrap (M-S)=M-S:=aGl _ (by omega);have a2:=dR U.out
     by_cases h2:B<0
     ·have e2:decide (B<0)=true:=aGs h2;have z:=hid (show cX d s mk (m+1)=(m:Int) by rw[G.out,FN ⟨by omega,by omega,.inl h2⟩]);have H0:=hid F;clear F;go_wp2;refine aU (by kernel_rfl) (by kernel_rfl) ?_
      repeat (go_big_quiet_step (fail))
      refine aGv ?_;intro w5 I;have t:=aQ I;have F5:=hid (aF J.out t);have M5:=hid (aF U.out t);have B5:=hid (aC V.out t);clear I t aJ a2;go_wp2;go_roundw
      case rel=>exact⟨m+1,by omega,by go_num,jX z.out.symm,F5.out,M5.out,B5.out⟩
      case measure=>simp[intOf];omega
     ·obtain⟨b,hb⟩:=aGF (show 0<=B by omega);subst hb;have aW:b<4:=by omega
      obtain⟨Sb,aS⟩:=aE (k:=b) HL.out aW;obtain⟨O,aN⟩:=aE (k:=b) a6.out aW;have bS:=Hs.out.2 b aW;rw[aD aS]at bS;have b0:=a9.out b O aN;have b4:=HS.out _ _ aS;have b3:=a4.out b O aN;have cB:IntKind.i64.wrap (O-Sb)=O-Sb:=aGl _ (by omega);have e2:decide ((b:Int)<0)=false:=aGm h2;have tb:(b:Int)<4:=by omega
      rw[Int.toNat_natCast,aD aS,aD aN]at G;have H0:=hid (show 0<W by omega);clear F aS aN
      by_cases h3:O-Sb<M-S
      ·have z:=hid (show cX d s mk (m+1)=(m:Int) by rw[G.out,FN ⟨H0.out,by omega,.inr h3⟩]);have e3:decide (O-Sb<M-S)=true:=aGs h3;go_wp2;refine aU (by kernel_rfl) (by kernel_rfl) ?_
       repeat (go_big_quiet_step (fail))
       refine aGv ?_;intro w5 I;have t:=aQ I;have F5:=hid (aF J.out t);have M5:=hid (aF U.out t);have B5:=hid (aC V.out t);clear I t aJ a2;go_wp2;go_roundw
       case rel=>exact⟨m+1,by omega,by go_num,jX z.out.symm,F5.out,M5.out,B5.out⟩
       case measure=>simp[intOf];omega
      ·have z:=hid (show cX d s mk (m+1)=(b:Int) by rw[G.out,sL (fun hh=>by rcases hh.2.2 with x|x;exact h2 x;exact h3 x)]);have e3:decide (O-Sb<M-S)=false:=aGm h3;go_wp2;refine aU (by kernel_rfl) (by kernel_rfl) ?_
       repeat (go_big_quiet_step (fail))
       refine aGv ?_;intro w5 I;have t:=aQ I;have F5:=hid (aF J.out t);have M5:=hid (aF U.out t);have B5:=hid (aC V.out t);clear I t aJ a2;go_wp2;go_roundw
       case rel=>exact⟨m+1,by omega,by go_num,jX z.out.symm,F5.out,M5.out,B5.out⟩
       case measure=>simp[intOf];omega
  ·have bV:m=4:=by omega
   subst bV;have t1:¬ (((4:Nat):Int)<4):=by omega
   go_wp2
   go_ret
   exact⟨cL bH.out.symm,V.out⟩
end
end Go.Proofs.YtbpgfkjhclpbdaaGreatDoor
