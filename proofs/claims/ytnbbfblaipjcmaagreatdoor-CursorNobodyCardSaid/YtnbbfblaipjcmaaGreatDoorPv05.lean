/- Arr, Heaps, NumB. Conditions: as each theorem states. -/
import Derived.Handy
import Derived.Laws.Rows
import Derived.Deep.RegionWith
import Derived.Test.YtnbbfblaipjcmaaGreatDoorPv01
import Derived.Test.YtnbbfblaipjcmaaGreatDoorPv03
set_option maxHeartbeats 1000000
namespace Go.Proofs.YtnbbfblaipjcmaaGreatDoor
section
open Go.RowKit
def aT (b:List Int):Value:=.agg (b.map (Value.int .i64)).toArray
def BigB (b:List Int):Prop:=∀ (k:Nat) (x:Int),b[k]? = some x->-4611686018427387904<=x/\x<=4611686018427387904
def bgt (b:List Int) (k:Nat):Int:=b.getD k 0
theorem aD {b:List Int} {k:Nat} {x:Int} (h:b[k]? = some x):bgt b k=x:=by unfold bgt; simp [List.getD,h]
theorem eP {b:List Int} {k:Nat} {x:Int} (h:b[k]? = some x):(b.map (Value.int .i64)).toArray[k]? = some (.int .i64 x):=by simp [h]
theorem aE {α:Type} {b:List α} {k n:Nat} (hb:b.length=n) (h:k < n):∃ x,b[k]? = some x:=⟨_,List.getElem?_eq_getElem (by omega)⟩
theorem kC {B:Nat} {a b c:World} (h:Below B a b) (hB:B<=a.heap.size) (k:Below b.heap.size b c):Below B a c:=h.trans (k.mono (Nat.le_trans hB h.size))
section
variable {P : Program} {ops : Array Oper} {rest : List Oper} {o : Oper} {a : Act} {w : World} {Q : Exit → Act → World → Prop}
theorem lS (hw:Region.wanted o (yielded ops a.tmps)=true) (h:∀ K:Act->World->Prop,(∀ a w,wpList P ops Q rest a w->K a w)->o.wp P a w K Q):wpList P ops Q (o :: rest) a w :=
 wpList_step fun K hK=>by rw [if_pos hw]; exact h K hK
theorem aB (hgd:Region.wanted o (yielded ops a.tmps)=true) (ty:TypeId) (x:Operand) (ho:o.op=.load ty x)
  (g:Nat) (hx:a.eval x=.pointer (some ⟨g,0,none⟩)) (t:TypeId) (cs:Array Value) (fr:Nat × Nat) (d:TypeDesc) (hg:w.heap[g]? = some (.cells cs t fr))
  (hu:P.underlying ty=some d) (hd:(match d with | .struct _ | .array _ _=>true | _=>false)=true) (hi:(P.info? ty).map (·.size)=some cs.size)
  (h:wpList P ops Q rest (a.put o.dst (.agg cs)) w):wpList P ops Q (o :: rest) a w :=
 lS hgd fun _ hK=>wp_load_row ty x ho g hx t cs fr d hg hu hd hi (hK _ _ h)
theorem aA (hgd:Region.wanted o (yielded ops a.tmps)=true) (ty:TypeId) (x y:Operand) (ho:o.op=.store ty x y)
  (g:Nat) (hx:a.eval x=.pointer (some ⟨g,0,none⟩)) (t:TypeId) (old cs:Array Value) (hy:a.eval y=.agg cs) (hg:w.heap[g]? = some (.cells old t (0,0)))
  (hi:(P.info? ty).map (·.size)=some cs.size) (hsz:old.size=cs.size) (h1:cs.all (·.oneCell')=true)
  (h:wpList P ops Q rest (a.put o.dst undef) (w.setRow g cs)):wpList P ops Q (o :: rest) a w :=
 lS hgd fun _ hK=>by
  unfold Oper.wp execOp
  simp only [ho,hx,hy,Instr.storeAt,Instr.sureAddr,Sem.run_bind,Sem.run_pure,Result.andThen_ok,run_storeVar_row w g t ty old cs hg hi hsz h1]
  exact hK _ _ h
theorem bO {C:World->Prop} {K:Act->Prop} (ty:TypeId) (x:Operand) (ho:o.op=.load ty x)
  (g:Nat) (hx:a.eval x=.pointer (some ⟨g,0,none⟩)) (t:TypeId) (cs:Array Value) (fr:Nat × Nat) (d:TypeDesc) (hg:∀ w,C w->w.heap[g]? = some (.cells cs t fr))
  (hu:P.underlying ty=some d) (hd:(match d with | .struct _ | .array _ _=>true | _=>false)=true) (hi:(P.info? ty).map (·.size)=some cs.size)
  (h:K (a.put o.dst (.agg cs))):o.quiet P a C K:=by
 refine ⟨_,fun w hw=>?_,h⟩
 unfold Oper.quietAt execOp
 simp only [ho,hx,Instr.loadAt,Instr.sureAddr,Sem.run_bind,Sem.run_pure,Result.andThen_ok,run_loadVar_row w g t ty cs fr d (hg w hw) hu hd hi]
 exact ⟨rfl,rfl⟩
end
theorem bB (w:World) (g:Nat) (t:TypeId) (old cs:Array Value) (hg:w.heap[g]? = some (.cells old t (0,0))):(w.setRow g cs).heap[g]? = some (.cells cs t (0,0)):=by
 simp [World.setRow,Array.getElem?_modify,hg]
theorem aO {B:Nat} {w0 w:World} (hb:Below B w0 w) (g:Nat) (hB:B<=g) (cs:Array Value):Below B w0 (w.setRow g cs):=by
 refine hb.trans ⟨rfl,rfl,rfl,by simp [World.setRow],fun k hk=>?_⟩
 simp only [World.setRow,Array.getElem?_modify]
 rw [if_neg (by omega)]
theorem e9 (b:List Int):((b.map (Value.int .i64)).toArray).all (·.oneCell')=true:=by
 rw [Array.all_eq_true_iff_forall_mem]
 intro v hv
 simp at hv
 obtain ⟨x,_,rfl⟩:=hv
 rfl
theorem fC {W:World} {g:Nat} {t:TypeId} {cs:Array Value} (h:W.heap[g]? = some (.cells cs t (0,0))):∀ w',(∃ x:GW W,w'=x.1)->w'.heap[g]? = some (.cells cs t (0,0)):=by
 rintro w' ⟨x,rfl⟩
 have hl:g < W.heap.size:=by
  rcases Nat.lt_or_ge g W.heap.size with h1 | h1
  ·exact h1
  ·rw [Array.getElem?_eq_none h1] at h; cases h
 exact (x.2.block g hl).trans h
theorem dW {W:World} {g:Nat} {t:TypeId} {cs:Array Value} (h:W.heap[g]? = some (.cells cs t (0,0))) (x:GW W) (i:Nat):x.1.cell? ⟨g,i,none⟩=cs[i]?:=cell_of_row x.1 g i cs t (0,0) (fC h x.1 ⟨x,rfl⟩)
theorem bR {P:Program} {t e:TypeId} {n:Nat} {cs:Array Value} {k:Nat} {v:Value} (hu:P.underlying t=some (.array n e)) (hk:k < n) (hs:∀ W,(Go.sizeOf e).run P W=.ok 1 W) (ha:∀ W,(isAgg e).run P W=.ok false W) (hv:cs[k]? = some v) (W:World) :
  (Instr.index t (.agg cs) (.int .i64 (k:Int))).run P W=.ok v W:=by
 have h1:(0:Int)<=(k:Int)/\(k:Int) < (n:Int):=by omega
 unfold Instr.index part
 simp [Sem.run_bind,run_underlying hu,asIntOf,h1,hs,ha,hv]
 intro h; omega
end
section
open Go.RowKit
section
variable (w : World) (A B C D E : Obj)
theorem aDO:(w.alloc A).heap[w.heap.size]? = some A/\(w.alloc A).heap.size=w.heap.size+1/\Below w.heap.size w (w.alloc A):=⟨heap_alloc_new w A,World.size_alloc _ _,aL _ _⟩
theorem wF:((w.alloc A).alloc B).heap[w.heap.size]? = some A/\((w.alloc A).alloc B).heap[w.heap.size+1]? = some B/\((w.alloc A).alloc B).heap.size=w.heap.size+2/\Below w.heap.size w ((w.alloc A).alloc B):=by
 obtain ⟨a,s,b⟩:=aDO w A
 refine ⟨(heap_alloc_old _ _ (by omega)).trans a,?_,by rw [World.size_alloc,s],b.alloc (by omega) _⟩
 have:=heap_alloc_new (w.alloc A) B
 rwa [s] at this
theorem zU:(((w.alloc A).alloc B).alloc C).heap[w.heap.size]? = some A/\(((w.alloc A).alloc B).alloc C).heap[w.heap.size+1]? = some B/\(((w.alloc A).alloc B).alloc C).heap[w.heap.size+1+1]? = some C /\
  (((w.alloc A).alloc B).alloc C).heap.size=w.heap.size+3/\Below w.heap.size w (((w.alloc A).alloc B).alloc C):=by
 obtain ⟨a,b,s,l⟩:=wF w A B
 refine ⟨(heap_alloc_old _ _ (by omega)).trans a,(heap_alloc_old _ _ (by omega)).trans b,?_,by rw [World.size_alloc,s],l.alloc (by omega) _⟩
 have:=heap_alloc_new ((w.alloc A).alloc B) C
 rwa [s] at this
theorem aDs:((((w.alloc A).alloc B).alloc C).alloc D).heap[w.heap.size]? = some A/\((((w.alloc A).alloc B).alloc C).alloc D).heap[w.heap.size+1]? = some B/\((((w.alloc A).alloc B).alloc C).alloc D).heap[w.heap.size+1+1]? = some C /\
  ((((w.alloc A).alloc B).alloc C).alloc D).heap[w.heap.size+1+1+1]? = some D/\((((w.alloc A).alloc B).alloc C).alloc D).heap.size=w.heap.size+4/\Below w.heap.size w ((((w.alloc A).alloc B).alloc C).alloc D):=by
 obtain ⟨a,b,c,s,l⟩:=zU w A B C
 refine ⟨(heap_alloc_old _ _ (by omega)).trans a,(heap_alloc_old _ _ (by omega)).trans b,(heap_alloc_old _ _ (by omega)).trans c,?_,by rw [World.size_alloc,s],l.alloc (by omega) _⟩
 have:=heap_alloc_new (((w.alloc A).alloc B).alloc C) D
 rwa [s] at this
end
theorem aF {w w':World} {g:Nat} {o:Obj} (h:w.heap[g]? = some o) (hb:Below w.heap.size w w'):w'.heap[g]? = some o:=by
 refine (hb.block g ?_).trans h
 rcases Nat.lt_or_ge g w.heap.size with h1 | h1
 ·exact h1
 ·rw [Array.getElem?_eq_none h1] at h; cases h
theorem hlt {w:World} {g:Nat} {o:Obj} (h:w.heap[g]? = some o):g < w.heap.size:=by
 rcases Nat.lt_or_ge g w.heap.size with h1 | h1
 ·exact h1
 ·rw [Array.getElem?_eq_none h1] at h; cases h
end
section
open Go.Lib (hid)
open Go.RowKit
theorem aCX (v:Int) (h1:-9223372036854775808<=v) (h2:v<=9223372036854775807):bits .xor .i64 (-1) v = -v - 1:=by
 have key:(BitVec.ofInt 64 (-1) ^^^ BitVec.ofInt 64 v).toNat=2 ^ 64 - 1 - (v % ((2 ^ 64:Nat):Int)).toNat:=by
  rw [show BitVec.ofInt 64 (-1)=BitVec.allOnes 64 by decide,BitVec.allOnes_xor,BitVec.toNat_not,BitVec.toNat_ofInt]
 show IntKind.i64.wrap ((BitVec.ofInt 64 (-1) ^^^ BitVec.ofInt 64 v).toNat:Nat) = -v - 1
 rw [key,IntKind.wrap_i64]
 omega
theorem WK (v:Int) (w:World) (hb:(v == 0)=false) (hw:cB v=1+lV (lX v)) (hlt:lX v < 9223372036854775808) (h:(v < 0/\bits .xor .i64 (-1) v=(lX v:Int))\/(0 < v/\v=(lX v:Int))) :
  Calls Tryz.prog 237 #[.int .i64 v] w fun e w'=>e=.returned (.int .i64 (cB v))/\w=w':=by
 have HW:=hid hw
 have HL:=hid (vT (k:=63) hlt)
 have Hlt:=hid hlt
 clear hw hlt
 rcases h with ⟨h,h2⟩ | ⟨h,h2⟩
 all_goals
  have H2:=hid h2
  clear h2
  go_enter Tryz.func237,Tryz.ntmps237
  go_wp2
  go_loop [0,3] (fun x n=>∃ (y k:Nat),k+lV y=lV (lX v)/\x=.int .i64 y/\n=.int .i64 (1+(k:Int))/\y < 9223372036854775808) (fun x _=>(intOf x).toNat)
  case atStart=>exact ⟨lX v,0,by omega,jB H2.out,rfl,Hlt.out⟩
  case round =>
   obtain ⟨y,k,hk,rfl,rfl,hy⟩:=hrel
   have Hk:=hid hk
   have hkb:k<=63:=by have:=HL.out; omega
   clear hk
   by_cases hy0:0 < y
   ·have t1:(0:Int) < (y:Int):=by omega
    have HS:=hid (pV hy0)
    go_wp2
    go_round
    case rel=>exact ⟨y / 2,k+1,by have:=HS.out; have:=Hk.out; omega,jB (by simp),jB (by omega),by omega⟩
    case measure=>simp [intOf]; omega
   ·have t1:¬ (0:Int) < (y:Int):=by omega
    have hy1:y=0:=by omega
    subst hy1
    go_wp2
    go_ret
    exact ⟨cE (by rw [HW.out]; have:=Hk.out; rw [TC] at this; omega),rfl⟩
theorem xL (v:Int) (w:World) (h1:-9223372036854775808<=v) (h2:v<=9223372036854775807) :
  Calls Tryz.prog 237 #[.int .i64 v] w fun e w'=>e=.returned (.int .i64 (cB v))/\w=w':=by
 by_cases h0:v=0
 ·subst h0
  go_enter Tryz.func237,Tryz.ntmps237
  go_wp2
  go_ret
  exact ⟨rfl,rfl⟩
 ·refine WK v w (beq_eq_false_iff_ne.2 h0) (by unfold cB; rw [if_neg h0]) (by unfold lX; split <;> omega) ?_
  rcases Int.lt_or_le v 0 with h | h
  ·exact .inl ⟨h,by rw [aCX v h1 h2]; unfold lX; rw [if_pos h]; omega⟩
  ·exact .inr ⟨by omega,by unfold lX; rw [if_neg (by omega)]; omega⟩
theorem XW (v:Int) (w:World) (h1:-4611686018427387904<=v) (h2:v<=4611686018427387904) :
  Calls Tryz.prog 288 #[.int .i64 v,.int .i64 0] w fun e w'=>e=.returned (.int .i64 (iJ v 0))/\∃ n,w'=w.drewN n:=by
 have e1:IntKind.i64.wrap (v.tdiv 1)=v:=by rw [Int.tdiv_one]; exact IntWalk.i64_in _ (by omega)
 have e2:IntKind.i64.wrap (v.tmod 1)=0:=by rw [Int.tmod_one]; rfl
 go_enter Tryz.func288,Tryz.ntmps288
 go_wp2
 go_quiet (fail)
 go_wp2
 go_ret
 exact ⟨rfl,_,rfl⟩
theorem XV (v:Int) (k:Nat) (w:World) (h1:-4611686018427387904<=v) (h2:v<=4611686018427387904) (hp:k<=60) :
  Calls Tryz.prog 288 #[.int .i64 v,.int .i64 (k+1:Nat)] w fun e w'=>e=.returned (.int .i64 (iJ v (k+1)))/\∃ n,w'=w.drewN n:=by
 have HN:=hid (show iJ v (k+1)=if 2 ^ k<=v.tmod (2 ^ (k+1)) then v.tdiv (2 ^ (k+1))+1 else if v.tmod (2 ^ (k+1))<=-2 ^ k then v.tdiv (2 ^ (k+1)) - 1 else v.tdiv (2 ^ (k+1)) by
  unfold iJ; rw [if_neg (by omega)]; rfl)
 have hlt:(2:Nat) ^ k<=2 ^ 60:=Nat.pow_le_pow_right (by decide) hp
 have hd0:(0:Int) < 2 ^ k:=Int.pow_pos (by decide)
 have hd1:(2:Int) ^ k<=1152921504606846976:=by
  rw [show (2:Int) ^ k=((2 ^ k:Nat):Int) by rw [Int.natCast_pow]; rfl]
  exact Int.ofNat_le.2 hlt
 have e:(2:Int) ^ (k+1)=2*2 ^ k:=by rw [Int.pow_succ]; omega
 have hq:=tdiv_between v ((2:Int) ^ (k+1)) (by omega)
 have hx1:IntKind.i64.wrap (2 ^ (k+1))=2 ^ (k+1):=IntWalk.i64_in _ (by omega)
 have hx2:IntKind.i64.wrap (2 ^ k)=2 ^ k:=IntWalk.i64_in _ (by omega)
 have hx3:IntKind.i64.wrap (-2 ^ k) = -2 ^ k:=IntWalk.i64_in _ (by omega)
 have hr1:IntKind.i64.wrap (v.tmod (2 ^ (k+1)))=v.tmod (2 ^ (k+1)):=by
  have a1:=Int.lt_tmod_of_pos v (b:=(2:Int) ^ (k+1)) (by omega)
  have a2:=Int.tmod_lt_of_pos v (b:=(2:Int) ^ (k+1)) (by omega)
  exact IntWalk.i64_in _ (by omega)
 have hq1:IntKind.i64.wrap (v.tdiv (2 ^ (k+1)))=v.tdiv (2 ^ (k+1)):=IntWalk.i64_in _ (by omega)
 have hqb:-4611686018427387904<=v.tdiv (2 ^ (k+1))/\v.tdiv (2 ^ (k+1))<=4611686018427387904:=by omega
 have hz:((2:Int) ^ (k+1)) ≠ 0:=by omega
 clear e hq hd0 hd1 hlt
 go_enter Tryz.func288,Tryz.ntmps288
 go_wp2
 go_quiet (fail)
 generalize v.tdiv (2 ^ (k+1))=q at *
 generalize v.tmod (2 ^ (k+1))=r at *
 obtain ⟨hq0,hq2⟩:=hqb
 have hw1:IntKind.i64.wrap (q+1)=q+1:=IntWalk.i64_in _ (by omega)
 have hw2:IntKind.i64.wrap (q - 1)=q - 1:=IntWalk.i64_in _ (by omega)
 go_wp2
 all_goals
  go_ret
  refine ⟨cE ?_,_,rfl⟩
  rw [HN.out]
  (repeat' split) <;> omega
theorem aAU (v:Int) (p:Nat) (w:World) (h1:-4611686018427387904<=v) (h2:v<=4611686018427387904) (hp:p<=61) :
  Calls Tryz.prog 288 #[.int .i64 v,.int .i64 p] w fun e w'=>e=.returned (.int .i64 (iJ v p))/\∃ n,w'=w.drewN n:=by
 cases p with
 | zero=>exact XW v w h1 h2
 | succ k=>exact XV v k w h1 h2 (by omega)
theorem vO (A:Option Addr) (cap:Nat) (l:List Int) (w:World) (hl:l.length<=1000000000) (hr:Row w w.heap.size A (l.map (.int .i64))) (hb:∀ x ∈ l,-9223372036854775808<=x/\x<=9223372036854775807) :
  Calls Tryz.prog 238 #[.slice A l.length cap] w fun e w'=>e=.returned (.int .i64 (cW l))/\w=w':=by
 have Hr:=hid hr
 have Hb:=hid hb
 obtain ⟨n,hn⟩:∃ n,l.length=n:=⟨_,rfl⟩
 rw [hn] at hl ⊢
 have Hn:=hid hn
 clear hr hb hn
 go_enter Tryz.func238,Tryz.ntmps238
 go_wp2
 go_loop [3,8] (fun p i=>∃ (m:Nat),m<=n/\i=.int .i64 m/\p=.int .i64 (cW (l.take m))) (fun _ i=>n - (intOf i).toNat)
 case atStart=>exact ⟨0,by omega,rfl,rfl⟩
 case round =>
  obtain ⟨m,hm,rfl,rfl⟩:=hrel
  by_cases hlt:m < n
  ·have t1:(m:Int) < (n:Int):=by omega
   obtain ⟨x,hx⟩:=aE (k:=m) Hn.out hlt
   obtain ⟨b,off,hA,_,hc⟩:=Hr.out m (.int .i64 x) (by rw [List.getElem?_map,hx]; rfl)
   have hxb:=Hb.out x (List.mem_of_getElem? hx)
   have HP:=hid (show cW (l.take (m+1))=max (cW (l.take m)) (eA x) by
    obtain ⟨hk,rfl⟩:=List.getElem?_eq_some_iff.1 hx
    rw [List.take_succ_eq_append_getElem hk,VJ])
   generalize cW (l.take m)=P at *
   subst hA
   obtain ⟨y,hy⟩:∃ y,eA x=y:=⟨_,rfl⟩
   rw [hy] at HP
   have Hy:=hid hy
   clear hx hy
   have hmx:P < y\/y<=P:=by omega
   rcases hmx with hmx | hmx
   all_goals
    go_wp2_with (go_at_call 260; refine (vL _ _ (by omega) (by omega)).mono ?_; rw [Hy.out]; rintro e w' ⟨rfl,rfl⟩)
    go_round
    case rel=>exact ⟨m+1,by omega,by go_num,jB (by rw [HP.out]; first | rfl | omega)⟩
    case measure=>simp [intOf]; omega
  ·have t1:¬ ((m:Int) < (n:Int)):=by omega
   have HE:=hid (show cW (l.take m)=cW l by rw [List.take_of_length_le (by rw [Hn.out]; omega)])
   go_wp2
   go_ret
   exact ⟨cE HE.out,rfl⟩
end
end Go.Proofs.YtnbbfblaipjcmaaGreatDoor
