/- Mem, WaveB. Conditions: as each theorem states. -/
import Derived.Deep.AppendLies
import Derived.Maps.AppendAt
import Derived.Test.YtnbbfblaipjcmaaGreatDoorPv01
import Derived.Test.YtnbbfblaipjcmaaGreatDoorPv02
set_option maxHeartbeats 2000000
namespace Go.Proofs.YtnbbfblaipjcmaaGreatDoor
section
open Go.RowKit
def Row (w:World) (B:Nat) (a:Option Addr) (vs:List Value):Prop :=
 ∀ i v,vs[i]? = some v->∃ b off,a=some ⟨b,off,none⟩/\b < B/\w.cell? ⟨b,off+i,none⟩=some v
theorem aCB {w:World} {a:Addr} {v:Value} (h:w.cell? a=some v):a.block < w.heap.size:=by
 unfold World.cell? at h
 rcases Nat.lt_or_ge a.block w.heap.size with h1 | h1
 ·exact h1
 ·rw [Array.getElem?_eq_none h1] at h; cases h
theorem bP {w:World} {p:Addr} {v:Value} (h:w.cell? p=some v) (o:Obj):(w.alloc o).cell? p=some v:=by
 have hl:=aCB h
 rw [World.cell?_of_block (w:=w) (Below.heap_alloc w o p.block hl)]; exact h
theorem Row.none_ (w:World) (B:Nat) (a:Option Addr):Row w B a []:=fun i v h=>by simp at h
theorem Row.keep {w w':World} {B:Nat} {a:Option Addr} {vs:List Value} (h:Row w B a vs) (hk:∀ p:Addr,p.block < B->w'.cell? p=w.cell? p):Row w' B a vs :=
 fun i v hv=>by obtain ⟨b,off,ha,hb,hc⟩:=h i v hv; exact ⟨b,off,ha,hb,(hk _ hb).trans hc⟩
theorem Row.below {w w':World} {B:Nat} {a:Option Addr} {vs:List Value} (h:Row w B a vs) (hb:Below B w w'):Row w' B a vs:=h.keep fun _ hp=>hb.cell hp
theorem Row.more {w:World} {B B':Nat} {a:Option Addr} {vs:List Value} (h:Row w B a vs) (hB:B<=B'):Row w B' a vs :=
 fun i v hv=>by obtain ⟨b,off,ha,hb,hc⟩:=h i v hv; exact ⟨b,off,ha,by omega,hc⟩
theorem Row.later {w w':World} {a:Option Addr} {vs:List Value} (h:Row w w.heap.size a vs) (hb:Below w.heap.size w w'):Row w' w'.heap.size a vs:=(h.below hb).more hb.size
theorem Row.take {w:World} {B:Nat} {a:Option Addr} {vs:List Value} (h:Row w B a vs) (k:Nat):Row w B a (vs.take k) :=
 fun i v hv=>h i v (by rw [List.getElem?_take] at hv; split at hv <;> simp_all)
theorem Row.of_own {w:World} {base:Nat} {e:TypeId} {size n c:Nat} {A:Option Addr} {xs:List Value} (h:w.ownsRow base e size (.slice A n c) n xs):Row w w.heap.size A xs:=by
 intro i v hv
 have hl:0 < xs.length:=by have:=(List.getElem?_eq_some_iff.1 hv).1; omega
 have hn:0 < n:=by
  rcases Nat.eq_zero_or_pos n with h0 | h0
  ·have:=h.1; rw [h0,Nat.zero_mul] at this; omega
  ·exact h0
 obtain ⟨g,cap,hv',_,hlt⟩:=h.form hn
 injection hv' with hA
 subst hA
 have hc:=h.cells (g:=g) rfl i v hv
 exact ⟨g,0,rfl,hlt,by unfold Addr.add at hc; split at hc <;> simp_all⟩
theorem iL {w:World} {base:Nat} {e:TypeId} {size n:Nat} {v:Value} {xs:List Value} (h:w.ownsRow base e size v n xs):∃ A c,v=.slice A n c/\n<=c/\(A=none->n=0/\c=0):=by
 rcases h.2 with ⟨rfl,h0⟩ | ⟨g,cap,cur,rfl,_,_,hnc,_⟩
 ·subst h0; exact ⟨none,0,rfl,Nat.le_refl _,fun _=>⟨rfl,rfl⟩⟩
 ·exact ⟨_,cap,rfl,hnc,nofun⟩
theorem iY {w:World} {base:Nat} {e:TypeId} {size n c:Nat} {A:Option Addr} {xs:List Value} (h:w.ownsRow base e size (.slice A n c) n xs):c<=9223372036854775807:=by
 rcases h.2 with ⟨h1,_⟩ | ⟨g,cap,cur,h1,_,_,_,hm,_⟩
 ·injection h1 with _ _ h3; omega
 ·injection h1 with _ _ h3; simp only [maxLen] at hm; omega
def Blk (w:World) (g:Nat) (t:TypeId) (cs:List Value):Prop:=w.heap[g]? = some (.cells cs.toArray t (0,0))
theorem Blk.lt {w:World} {g:Nat} {t:TypeId} {cs:List Value} (h:Blk w g t cs):g < w.heap.size:=by
 rcases Nat.lt_or_ge g w.heap.size with h1 | h1
 ·exact h1
 ·unfold Blk at h; rw [Array.getElem?_eq_none h1] at h; cases h
theorem Blk.cell {w:World} {g:Nat} {t:TypeId} {cs:List Value} (h:Blk w g t cs) (i:Nat):w.cell? ⟨g,i,none⟩=cs[i]?:=by
 unfold Blk at h; simp [World.cell?,h]
theorem Blk.frozen {w:World} {g:Nat} {t:TypeId} {cs:List Value} (h:Blk w g t cs) (i:Nat):w.frozen? ⟨g,i,none⟩=false:=by
 unfold Blk at h; simp [World.frozen?,h]
theorem Blk.new (w:World) (t:TypeId) (cs:List Value):Blk (w.alloc (.cells cs.toArray t)) w.heap.size t cs:=heap_alloc_new w _
theorem Blk.new2 (w:World) (o:Obj) (t:TypeId) (cs:List Value):Blk ((w.alloc o).alloc (.cells cs.toArray t)) (w.heap.size+1) t cs:=by
 have h:=Blk.new (w.alloc o) t cs
 simpa using h
theorem Blk.below {w w':World} {B g:Nat} {t:TypeId} {cs:List Value} (h:Blk w g t cs) (hb:Below B w w') (hg:g < B):Blk w' g t cs:=(hb.block g hg).trans h
theorem Blk.alloc {w:World} {g:Nat} {t:TypeId} {cs:List Value} (h:Blk w g t cs) (o:Obj):Blk (w.alloc o) g t cs:=(Below.heap_alloc w o g h.lt).trans h
theorem Blk.set_ {w:World} {g:Nat} {t:TypeId} {cs:List Value} (h:Blk w g t cs) (i:Nat) (u:Value):Blk (w.setCell ⟨g,i,none⟩ u) g t (cs.set i u):=by
 unfold Blk at h ⊢
 simp [World.setCell,Array.getElem?_modify,h]
theorem Blk.far {w:World} {g:Nat} {t:TypeId} {cs:List Value} (h:Blk w g t cs) {p:Addr} (hp:g ≠ p.block) (u:Value):Blk (w.setCell p u) g t cs:=(Below.heap_setCell w p u g hp).trans h
theorem Blk.grown {w w':World} {g:Nat} {t:TypeId} {cs:List Value} {row:Option Nat} (h:Blk w g t cs) (hb:w.grownBy w' row) (hg:some g ≠ row):Blk w' g t cs:=(hb.block g h.lt hg).trans h
theorem Blk.drew {w:World} {g:Nat} {t:TypeId} {cs:List Value} (h:Blk w g t cs):Blk w.drew g t cs:=h
def IntsAt (w:World) (B:Nat) (v:Value) (xs:List Int):Prop :=
 ∃ a cap,v=.slice a xs.length cap/\xs.length<=cap/\cap<=9223372036854775807/\Row w B a (xs.map (.int .i64))
theorem IntsAt.later {w w':World} {v:Value} {xs:List Int} (h:IntsAt w w.heap.size v xs) (hb:Below w.heap.size w w'):IntsAt w' w'.heap.size v xs:=by
 obtain ⟨a,c,h1,h2,h3,h4⟩:=h; exact ⟨a,c,h1,h2,h3,h4.later hb⟩
theorem IntsAt.below {w w':World} {B:Nat} {v:Value} {xs:List Int} (h:IntsAt w B v xs) (hb:Below B w w'):IntsAt w' B v xs:=by
 obtain ⟨a,c,h1,h2,h3,h4⟩:=h; exact ⟨a,c,h1,h2,h3,h4.below hb⟩
theorem IntsAt.more {w:World} {B B':Nat} {v:Value} {xs:List Int} (h:IntsAt w B v xs) (hb:B<=B'):IntsAt w B' v xs:=by
 obtain ⟨a,c,h1,h2,h3,h4⟩:=h; exact ⟨a,c,h1,h2,h3,h4.more hb⟩
def RowsAt (w:World) (B:Nat) (vs:List Value) (rows:List (List Int)):Prop :=
 vs.length=rows.length/\∀ (i:Nat) (v:Value) (xs:List Int),vs[i]? = some v->rows[i]? = some xs->IntsAt w B v xs
theorem RowsAt.later {w w':World} {vs:List Value} {rows:List (List Int)} (h:RowsAt w w.heap.size vs rows) (hb:Below w.heap.size w w'):RowsAt w' w'.heap.size vs rows :=
 ⟨h.1,fun i v xs hv hx=>(h.2 i v xs hv hx).later hb⟩
theorem RowsAt.below {w w':World} {B:Nat} {vs:List Value} {rows:List (List Int)} (h:RowsAt w B vs rows) (hb:Below B w w'):RowsAt w' B vs rows:=⟨h.1,fun i v xs hv hx=>(h.2 i v xs hv hx).below hb⟩
theorem RowsAt.more {w:World} {B B':Nat} {vs:List Value} {rows:List (List Int)} (h:RowsAt w B vs rows) (hb:B<=B'):RowsAt w B' vs rows:=⟨h.1,fun i v xs hv hx=>(h.2 i v xs hv hx).more hb⟩
theorem Row.new (w:World) (t:TypeId) (vs:List Value):Row (w.alloc (.cells vs.toArray t)) (w.heap.size+1) (some ⟨w.heap.size,0,none⟩) vs :=
 fun i v hv=>⟨w.heap.size,0,rfl,by omega,by rw [(Blk.new w t vs).cell,Nat.zero_add]; exact hv⟩
theorem RowsAt.snoc {w:World} {B:Nat} {vs:List Value} {rows:List (List Int)} {v:Value} {xs:List Int} (h:RowsAt w B vs rows) (hv:IntsAt w B v xs):RowsAt w B (vs ++ [v]) (rows ++ [xs]):=by
 refine ⟨by simp [h.1],fun i u ys hu hy=>?_⟩
 rcases Nat.lt_or_ge i vs.length with h1 | h1
 ·rw [List.getElem?_append_left h1] at hu
  rw [List.getElem?_append_left (by rw [<-h.1]; exact h1)] at hy
  exact h.2 i u ys hu hy
 ·rw [List.getElem?_append_right h1] at hu
  rw [List.getElem?_append_right (by rw [<-h.1]; exact h1),<-h.1] at hy
  rcases Nat.eq_zero_or_pos (i - vs.length) with h2 | h2
  ·rw [h2] at hu hy; simp at hu hy; subst hu hy; exact hv
  ·rw [List.getElem?_eq_none (by simp; omega)] at hu; cases hu
/-! From what an argument looks like to rows. -/
theorem mX (sz:Nat):∀ (css:List (List Value)),(∀ cs ∈ css,cs.length=sz)->∀ i j,j < sz->css.flatten[i*sz+j]? = css[i]?.bind (·[j]?)
 | [],_,i,j,_=>by simp
 | cs :: r,h,i,j,hj=>by
  have hl:cs.length=sz:=h cs (by simp)
  cases i with
  | zero=>simp [List.flatten_cons,List.getElem?_append,hl,hj]
  | succ i =>
   have ih:=mX sz r (fun c hc=>h c (by simp [hc])) i j hj
   rw [List.flatten_cons,List.getElem?_append_right (by rw [hl,Nat.add_mul]; omega),hl,show (i+1)*sz+j - sz=i*sz+j by rw [Nat.add_mul]; omega,ih]
   simp
theorem DK (sz:Nat):∀ (css:List (List Value)),(∀ cs ∈ css,cs.length=sz)->css.flatten.length=css.length*sz
 | [],_=>by simp
 | cs :: r,h=>by
  rw [List.flatten_cons,List.length_append,DK sz r (fun c hc=>h c (by simp [hc])),h cs (by simp),List.length_cons,Nat.add_mul]; omega
/-! Worlds that grew out of one: the class over which a statement that draws its order is walked once. -/
def GW (W:World):Type:={ w':World // Below W.heap.size W w' }
instance gwNonempty (W:World):Nonempty (GW W):=⟨⟨W,Below.refl _ _⟩⟩
theorem bZ {P:Program} {f:FuncId} {args:Array Value} {W:World} {x:GW W} {v:Value} (h:Calls P f args x.1 fun e w'=>e=.returned v/\Below x.1.heap.size x.1 w') :
  Calls P f args x.1 fun e w''=>e=.returned v/\∃ y:GW W,w''=y.1 :=
 h.mono fun _ w' ⟨he,hb⟩=>⟨he,⟨w',aC x.2 hb⟩,rfl⟩
theorem cR {P:Program} {f:FuncId} {args:Array Value} {W:World} {x:GW W} {v:Value} (h:Calls P f args x.1 fun e w'=>e=.returned v/\x.1=w') :
  Calls P f args x.1 fun e w''=>e=.returned v/\∃ y:GW W,w''=y.1 :=
 h.mono fun _ _ ⟨he,hb⟩=>⟨he,x,hb.symm⟩
theorem BC {W:World} (x:GW W) {p:Addr} (h:p.block < W.heap.size):x.1.cell? p=W.cell? p:=x.2.cell h
theorem aR {P:Program} {id:Nat} {Q:Exit->Act->World->Prop} {a:Act} {w:World} {l:List Oper} (hm:P.follows .mixedOrders=true) (hB:Region.lexB .any l.toArray=true)
  (h:wpQuiet P l.toArray (fun w'=>∃ x:GW w,w'=x.1) (fun a'=>∀ w',(∃ x:GW w,w'=x.1)->Q .normal a' w') l a):(Code.region id l.toArray true).wp P Q a w :=
 wp_region_quiet (C:=fun w'=>∃ x:GW w,w'=x.1) hm hB ⟨⟨_,(Below.refl w.heap.size w).drew⟩,rfl⟩ (by simpa using h)
/-! append onto a row of the call's own, whatever the source (nil, empty, or not). -/
section
variable {P : Program} (w : World)
theorem vC (base:Nat) (t ty e:TypeId) (i:TypeInfo) (size:Nat) (ht:P.underlying t=some (.slice e)) (hi:P.info? e=some i)
  (v:Value) (n:Nat) (xs:List Value) (hown:w.ownsRow base e size v n xs) (c:Nat):(Builtin.append_ #[t,t] ty #[v,.slice none 0 c]).run P w=.ok v w:=by
 rcases hown.2 with ⟨rfl,rfl⟩ | ⟨g,cap,cur,rfl,_,_,hnc,_⟩
 ·simp [Builtin.append_,run_underlying ht,sizeOf,typeInfo,hi,Builtin.lenOf,Builtin.firstCells]
 ·simp [Builtin.append_,run_underlying ht,sizeOf,typeInfo,hi,Builtin.lenOf,Builtin.firstCells,hnc,storeCells]
theorem LU (base:Nat) (t ty e:TypeId) (i:TypeInfo) (z:Value) (size bytes:Nat) (ht:P.underlying t=some (.slice e)) (hi:P.info? e=some i) (hz:i.zero=some z)
  (hsize:i.size=size) (hby:i.bytes=bytes) (hzs:z.cells.size=size) (hsz:0 < size)
  (v:Value) (n:Nat) (xs:List Value) (hown:w.ownsRow base e size v n xs)
  (B:Nat) (A:Option Addr) (m c:Nat) (news:List Value) (hl:news.length=m*size) (hr:Row w B A news) (h1:∀ u ∈ news,u.oneCell'=true)
  (h63:n+m<=9223372036854775807) (hbytes:(n+m)*bytes<=140737488355328) (hbase:base<=w.heap.size) :
  ∃ A' c' w',(Builtin.append_ #[t,t] ty #[v,.slice A m c]).run P w=.ok (.slice A' (n+m) c') w'/\w'.ownsRow base e size (.slice A' (n+m) c') (n+m) (xs ++ news)/\w.grownBy w' v.ownBlock /\
   ((Value.slice A' (n+m) c').ownBlock=v.ownBlock\/(Value.slice A' (n+m) c').ownBlock=some w.heap.size)/\n+m<=c':=by
 rcases A with _ | ad
 ·have hn:news=[]:=by
   cases news with
   | nil=>rfl
   | cons x r=>obtain ⟨b,off,h,_⟩:=hr 0 x rfl; cases h
  subst hn
  have hm:m=0:=by
   rcases Nat.eq_zero_or_pos m with h0 | h0
   ·exact h0
   ·have:=Nat.mul_pos h0 hsz; simp at hl; omega
  subst hm
  obtain ⟨A',c',rfl,hc,_⟩:=iL hown
  exact ⟨A',c',w,vC w base t ty e i size ht hi _ n xs hown c,by simpa using hown,⟨rfl,rfl,rfl,Nat.le_refl _,fun _ _ _=>rfl⟩,.inl rfl,hc⟩
 ·have hcells:∀ j u,news[j]? = some u->w.cell? (ad.add j)=some u:=by
   intro j u hu
   obtain ⟨b,off,h,_,hc⟩:=hr j u hu
   injection h with h
   subst h
   unfold Addr.add
   by_cases hj:j=0
   ·subst hj; simpa using hc
   ·simp [hj]; exact hc
  obtain ⟨v',w',hrun,h2,h3,_,h5⟩:=run_append_own_at (P:=P) w base t ty e i z size bytes ht hi hz hsize hby hzs hsz v n xs hown ad m c news hl hcells h1 h63 hbytes hbase
  obtain ⟨A',c',rfl,hc,_⟩:=iL h2
  exact ⟨A',c',w',hrun,h2,h3,h5,hc⟩
theorem c9 {ops:Array Oper} {rest:List Oper} {o:Oper} {a:Act} {Q:Exit->Act->World->Prop} (hgd:o.guard=none) (s x:Operand) (t:TypeId)
  (ho:o.op=.call { callee:=.builtin .append,args:=#[s,x],argTypes:=#[t,t] })
  (base:Nat) (e:TypeId) (i:TypeInfo) (z:Value) (size bytes:Nat) (ht:P.underlying t=some (.slice e)) (hi:P.info? e=some i) (hz:i.zero=some z)
  (hsize:i.size=size) (hby:i.bytes=bytes) (hzs:z.cells.size=size) (hsz:0 < size)
  (v:Value) (n:Nat) (xs:List Value) (hs:a.eval s=v) (hown:w.ownsRow base e size v n xs)
  (B:Nat) (A:Option Addr) (m c:Nat) (news:List Value) (hx:a.eval x=.slice A m c) (hl:news.length=m*size) (hr:Row w B A news) (h1:∀ u ∈ news,u.oneCell'=true)
  (h63:n+m<=9223372036854775807) (hbytes:(n+m)*bytes<=140737488355328) (hbase:base<=w.heap.size)
  (h:∀ A' c' w',w'.ownsRow base e size (.slice A' (n+m) c') (n+m) (xs ++ news)->w.grownBy w' v.ownBlock ->
   ((Value.slice A' (n+m) c').ownBlock=v.ownBlock\/(Value.slice A' (n+m) c').ownBlock=some w.heap.size)->n+m<=c'->wpList P ops Q rest (a.put o.dst (.slice A' (n+m) c')) w') :
  wpList P ops Q (o :: rest) a w:=by
 refine wpList_plain hgd fun K hK=>?_
 obtain ⟨A',c',w',hrun,h2,h3,h4,h5⟩:=LU (P:=P) w base t o.type e i z size bytes ht hi hz hsize hby hzs hsz v n xs hown B A m c news hl hr h1 h63 hbytes hbase
 unfold Oper.wp execOp
 simp only [ho,resolve,invoke,builtin,Sem.run_bind,Sem.run_pure,Result.andThen_ok,List.map_toArray,List.map_cons,List.map_nil,hs,hx,hrun]
 exact hK _ _ (h A' c' w' h2 h3 h4 h5)
end
theorem OT {B:Nat} {a w w':World} {v:Value} (h:Below B a w) (hg:w.grownBy w' v.ownBlock) (hB:B<=w.heap.size) (hv:∀ k,v.ownBlock=some k->B<=k):Below B a w':=h.grown hg hB hv
theorem bJ {w:World} {base:Nat} {e:TypeId} {size n:Nat} {v:Value} {xs:List Value} (h:w.ownsRow base e size v n xs):∀ k,v.ownBlock=some k->base<=k:=by
 intro k hk
 rcases h.2 with ⟨rfl,_⟩ | ⟨g,cap,cur,rfl,hb,_⟩
 ·simp [Value.ownBlock] at hk
 ·have:g=k:=by simpa [Value.ownBlock] using hk
  omega
end
section
open Go.Lib (hid)
open Go.RowKit
def dV:List (List Int)->Nat
 | []=>0
 | r :: _=>r.length
def inS (x:Int):Bool:=decide (-32768<=x) && decide (x<=32767)
def tR (n:Nat) (r:List Int):Bool:=decide (r.length=n)
def CO (r:List Int):Bool:=r.all inS
def jE (nm:ByteArray) (rate:Int) (lp:Bool) (f t:Int) (rows:List (List Int)):Int :=
 if dK nm=false then 10 else if rate < 1\/192000 < rate then 14
 else if rows.length < 1\/2 < rows.length\/dV rows < 1\/1048576 < dV rows then 12
 else if kM lp f t (dV rows)=false then 13
 else if rows.all (tR (dV rows))=false then 12
 else if rows.all CO=false then 5 else 0
theorem oR {w:World} {B:Nat} {a:Option Addr} {vs:List Value} {rows:List (List Int)} (hr:Row w B a vs) (hm:RowsAt w B vs rows) {k:Nat} {xs:List Int} (hk:rows[k]? = some xs) :
  ∃ b off a' c',a=some ⟨b,off,none⟩/\b < B/\w.cell? ⟨b,off+k,none⟩=some (.slice a' xs.length c')/\xs.length<=c'/\c'<=9223372036854775807/\Row w B a' (xs.map (.int .i64)):=by
 have hl:=(List.getElem?_eq_some_iff.1 hk).1
 obtain ⟨v,hv⟩:∃ v,vs[k]? = some v:=⟨_,List.getElem?_eq_getElem (by rw [hm.1]; exact hl)⟩
 obtain ⟨a',c',rfl,h1,h2,h3⟩:=hm.2 k v xs hv hk
 obtain ⟨b,off,ha,hb,hc⟩:=hr k _ hv
 exact ⟨b,off,a',c',ha,hb,hc,h1,h2,h3⟩
theorem uG (nm:ByteArray) (rate:Int) (lp:Bool) (f t:Int) (a:Option Addr) (cap:Nat) (vs:List Value) (rows:List (List Int)) (w:World) (R:Nat) (hR:rows.length=R) (hr:Row w w.heap.size a vs) (hm:RowsAt w w.heap.size vs rows) :
  Calls Tryz.prog 121 #[.agg #[.string nm,.int .i64 rate,.bool lp,.int .i64 f,.int .i64 t,.slice a R cap]] w
   fun e w'=>e=.returned (.int .i64 (dV rows))/\Below w.heap.size w w':=by
 subst hR
 cases rows with
 | nil =>
  go_enter Tryz.func121,Tryz.ntmps121
  go_wp2
  go_ret
  exact ⟨rfl,aL _ _⟩
 | cons r rs =>
  obtain ⟨b,off,a',c',rfl,hb,hc,_,_,_⟩:=oR hr hm (k:=0) (xs:=r) rfl
  rw [Nat.add_zero] at hc
  have hne:=World.new_ne w _ hc
  have h1:((rs.length+1:Nat):Int) ≠ 0:=by omega
  have h2:(((r :: rs).length:Int) == 0)=false:=beq_eq_false_iff_ne.2 (by rw [List.length_cons]; omega)
  have h3:(0:Int) < ((r :: rs).length:Int):=by rw [List.length_cons]; omega
  clear hr hm
  generalize (r :: rs).length=R at *
  go_enter Tryz.func121,Tryz.ntmps121
  go_wp2
  go_ret
  exact ⟨rfl,aL _ _⟩
theorem KS {nm:ByteArray} {rate:Int} {lp:Bool} {f t:Int} {rows:List (List Int)}
  (h:¬ (dK nm=true/\1<=rate/\rate<=192000/\1<=rows.length/\rows.length<=2/\1<=dV rows/\dV rows<=1048576/\kM lp f t (dV rows)=true)) :
  (dK nm=false/\jE nm rate lp f t rows=10)\/(dK nm=true/\(rate < 1\/192000 < rate)/\jE nm rate lp f t rows=14) \/
  (dK nm=true/\1<=rate/\rate<=192000/\(rows.length < 1\/2 < rows.length\/dV rows < 1\/1048576 < dV rows)/\jE nm rate lp f t rows=12) \/
  (dK nm=true/\1<=rate/\rate<=192000/\1<=rows.length/\rows.length<=2/\1<=dV rows/\dV rows<=1048576/\kM lp f t (dV rows)=false/\jE nm rate lp f t rows=13):=by
 unfold jE
 cases h1:dK nm
 ·simp
 ·by_cases h2:rate < 1\/192000 < rate
  ·simp [h2]
  ·by_cases h3:rows.length < 1\/2 < rows.length\/dV rows < 1\/1048576 < dV rows
   ·rw [if_neg (by simp),if_neg h2,if_pos h3]
    exact .inr (.inr (.inl ⟨rfl,by omega,by omega,h3,rfl⟩))
   ·cases h4:kM lp f t (dV rows)
    ·rw [if_neg (by simp),if_neg h2,if_neg h3,if_pos rfl]
     exact .inr (.inr (.inr ⟨rfl,by omega,by omega,by omega,by omega,by omega,by omega,rfl,rfl⟩))
    ·exact absurd ⟨h1,by omega,by omega,by omega,by omega,by omega,by omega,h4⟩ h
theorem NQ {nm:ByteArray} {rate:Int} {lp:Bool} {f t:Int} {rows:List (List Int)}
  (h:dK nm=true/\1<=rate/\rate<=192000/\1<=rows.length/\rows.length<=2/\1<=dV rows/\dV rows<=1048576/\kM lp f t (dV rows)=true) :
  jE nm rate lp f t rows=if rows.all (tR (dV rows))=false then 12 else if rows.all CO=false then 5 else 0:=by
 obtain ⟨h1,h2,h3,h4,h5,h6,h7,h8⟩:=h
 unfold jE
 rw [h1,h8,if_neg (by simp),if_neg (by omega),if_neg (by omega),if_neg (by simp)]
theorem XP (nm:ByteArray) (rate:Int) (lp:Bool) (f t:Int) (a:Option Addr) (cap:Nat) (vs:List Value) (rows:List (List Int)) (w:World) (hr:Row w w.heap.size a vs) (hm:RowsAt w w.heap.size vs rows) (hcap:rows.length<=9223372036854775807)  :
  Calls Tryz.prog 167 #[.agg #[.string nm,.int .i64 rate,.bool lp,.int .i64 f,.int .i64 t,.slice a rows.length cap]] w
   fun e w'=>e=.returned (.int .i64 (jE nm rate lp f t rows))/\Below w.heap.size w w':=by
 by_cases hall:dK nm=true/\1<=rate/\rate<=192000/\1<=rows.length/\rows.length<=2/\1<=dV rows/\dV rows<=1048576/\kM lp f t (dV rows)=true
 ·have HZ:=hid (NQ hall)
  obtain ⟨h1,h2,h3,h4,h5,h6,h7,h8⟩:=hall
  have H1:=hid h1
  have H8:=hid h8
  clear h1 h8
  generalize jE nm rate lp f t rows=z at *
  obtain ⟨N,hN⟩:∃ N,dV rows=N:=⟨_,rfl⟩
  have HN:=hid hN; clear hN
  obtain ⟨R,hR⟩:∃ R,rows.length=R:=⟨_,rfl⟩
  rw [HN.out] at h6 h7 H8
  rw [hR] at h4 h5 ⊢
  have HR:=hid hR; have hq:=hcap; clear hR hcap hq
  go_enter Tryz.func167,Tryz.ntmps167
  go_wp2_with (first | (go_at_call 121; refine (uG _ _ _ _ _ _ _ vs rows _ R HR.out (hr.later (aL _ _)) (hm.later (aL _ _))).mono ?_; rintro e w1 ⟨rfl,hb⟩; rw [HN.out]; have c0:=hb.cell (p:=⟨w.heap.size,0,none⟩) (by simp); have c1:=hb.cell (p:=⟨w.heap.size,1,none⟩) (by simp); have c2:=hb.cell (p:=⟨w.heap.size,2,none⟩) (by simp); have c3:=hb.cell (p:=⟨w.heap.size,3,none⟩) (by simp); have c4:=hb.cell (p:=⟨w.heap.size,4,none⟩) (by simp); have c5:=hb.cell (p:=⟨w.heap.size,5,none⟩) (by simp)) | (go_at_call 194; refine (uF _ _).mono ?_; rintro e w' ⟨rfl,rfl⟩; rw [H1.out]) | (go_at_call 195; refine (qU _ _ _ _ _).mono ?_; rintro e w' ⟨rfl,rfl⟩; rw [H8.out]))
  have hr1:=(hr.later (aL _ (.cells #[.string nm,.int .i64 rate,.bool lp,.int .i64 f,.int .i64 t,.slice a R cap] 138))).later hb
  have hm1:=(hm.later (aL _ (.cells #[.string nm,.int .i64 rate,.bool lp,.int .i64 f,.int .i64 t,.slice a R cap] 138))).later hb
  have hB:=hid (aC (aL w (.cells #[.string nm,.int .i64 rate,.bool lp,.int .i64 f,.int .i64 t,.slice a R cap] 138)) hb)
  clear hr hm hb
  have Hr:=hid hr1
  have Hm:=hid hm1
  clear hr1 hm1
  go_loop [58] (fun i=>∃ k:Nat,k<=R/\i=.int .i64 k/\(rows.take k).all (tR N)=true) (fun i=>R - (intOf i).toNat)
  case atStart=>exact ⟨0,Nat.zero_le _,rfl,by simp⟩
  case round =>
   obtain ⟨k,hk,rfl,hpre⟩:=hrel
   have Hpre:=hid hpre
   clear hpre
   by_cases hlt:k < R
   ·obtain ⟨xs,hxs⟩:∃ xs,rows[k]? = some xs:=⟨_,List.getElem?_eq_getElem (by rw [HR.out]; exact hlt)⟩
    obtain ⟨b,off,a',c',rfl,_,hc,hl1,hl2,_⟩:=oR Hr.out Hm.out hxs
    have Hxs:=hid hxs
    clear hxs
    by_cases hn:xs.length=N
    ·have hb1:((xs.length:Int) != (N:Int))=false:=by simp [hn]
     have Hn:=hid hn
     clear hn
     go_wp2
     go_round
     case rel=>exact ⟨k+1,by omega,by go_num,by rw [fS _ Hxs.out,Hpre.out]; simp [tR,Hn.out]⟩
     case measure=>simp [intOf]; omega
    ·have hb1:((xs.length:Int) != (N:Int))=true:=by rw [bne_iff_ne]; omega
     have Hn:=hid hn
     clear hn
     go_wp2
     go_ret
     refine ⟨cE ?_,hB.out⟩
     rw [HZ.out,HN.out,if_pos (iS (tR N) Hxs.out (by simp [tR,Hn.out]))]
   ·have Hall:=hid (gE (tR N) (by rw [HR.out]; omega) Hpre.out)
    go_wp2
    go_loop [70] (fun i=>∃ k:Nat,k<=R/\i=.int .i64 k/\(rows.take k).all CO=true) (fun i=>R - (intOf i).toNat)
    case atStart=>exact ⟨0,Nat.zero_le _,rfl,by simp⟩
    case round =>
     clear hlt hk Hpre
     obtain ⟨k,hk,rfl,hpre⟩:=hrel
     have Hpre:=hid hpre
     clear hpre
     by_cases hlt:k < R
     ·obtain ⟨xs,hxs⟩:∃ xs,rows[k]? = some xs:=⟨_,List.getElem?_eq_getElem (by rw [HR.out]; exact hlt)⟩
      obtain ⟨b,off,a',c',rfl,_,hc,hl1,hl2,hrow⟩:=oR Hr.out Hm.out hxs
      have Hxs:=hid hxs
      have Hrow:=hid hrow
      clear hxs hrow
      go_wp2
      go_loop [76] (fun j=>∃ m:Nat,m<=xs.length/\j=.int .i64 m/\(xs.take m).all inS=true) (fun j=>xs.length - (intOf j).toNat)
      case atStart=>exact ⟨0,Nat.zero_le _,rfl,by simp⟩
      case round =>
       obtain ⟨m,hm,rfl,hpin⟩:=hrel
       have Hpin:=hid hpin
       clear hpin
       by_cases hmlt:m < xs.length
       ·obtain ⟨x,hx⟩:∃ x,xs[m]? = some x:=⟨_,List.getElem?_eq_getElem hmlt⟩
        obtain ⟨b',off',rfl,_,hc'⟩:=Hrow.out m (.int .i64 x) (by simp [hx])
        have Hx:=hid hx
        clear hx
        by_cases hin:-32768<=x/\x<=32767
        ·have h1:inS x=true:=by unfold inS; simp [hin]
         have H1:=hid h1
         clear h1
         obtain ⟨hin1,hin2⟩:=hin
         go_wp2
         go_round
         case rel=>exact ⟨m+1,by omega,by go_num,by rw [fS _ Hx.out,Hpin.out,H1.out]; rfl⟩
         case measure=>simp [intOf]; omega
        ·have h1:inS x=false:=by unfold inS; simp; omega
         have H1:=hid h1
         clear h1
         have hin':x < -32768\/32768<=x:=by omega
         clear hin
         go_wp2
         all_goals
          go_ret
          refine ⟨cE ?_,hB.out⟩
          rw [HZ.out,HN.out,if_neg (by rw [Hall.out]; simp),if_pos (iS CO Hxs.out (iS inS Hx.out H1.out))]
       ·have Hxall:=hid (gE inS (by omega) Hpin.out)
        go_wp2
        go_round
        case rel=>exact ⟨k+1,by omega,by go_num,by rw [fS _ Hxs.out,Hpre.out]; exact Hxall.out⟩
        case measure=>simp [intOf]; omega
     ·have Hall2:=hid (gE CO (by rw [HR.out]; omega) Hpre.out)
      go_wp2
      go_ret
      refine ⟨cE ?_,hB.out⟩
      rw [HZ.out,HN.out,if_neg (by rw [Hall.out]; simp),if_neg (by rw [Hall2.out]; simp)]
 ·have hz:=KS hall
  generalize jE nm rate lp f t rows=z at *
  obtain ⟨N,hN⟩:∃ N,dV rows=N:=⟨_,rfl⟩
  obtain ⟨R,hR⟩:∃ R,rows.length=R:=⟨_,rfl⟩
  rw [hN,hR] at hz
  have HN:=hid hN; clear hN
  rw [hR]
  have HR:=hid hR; have hq:=hcap; clear hR hcap hq hall
  have Hr:=hid hr
  have Hm:=hid hm
  clear hr hm
  rcases hz with ⟨h1,rfl⟩ | ⟨h1,h2,rfl⟩ | ⟨h1,h2,h3,h4,rfl⟩ | ⟨h1,h2,h3,h4,h5,h6,h7,h8,rfl⟩
  all_goals
   have H1:=hid h1
   clear h1
   try have H8:=hid h8
   try clear h8
   go_enter Tryz.func167,Tryz.ntmps167
   go_wp2_with (first | (go_at_call 121; refine (uG _ _ _ _ _ _ _ vs rows _ R HR.out (Hr.out.later (aL _ _)) (Hm.out.later (aL _ _))).mono ?_; rintro e w1 ⟨rfl,hb⟩; rw [HN.out]; have c0:=hb.cell (p:=⟨w.heap.size,0,none⟩) (by simp); have c1:=hb.cell (p:=⟨w.heap.size,1,none⟩) (by simp); have c2:=hb.cell (p:=⟨w.heap.size,2,none⟩) (by simp); have c3:=hb.cell (p:=⟨w.heap.size,3,none⟩) (by simp); have c4:=hb.cell (p:=⟨w.heap.size,4,none⟩) (by simp); have c5:=hb.cell (p:=⟨w.heap.size,5,none⟩) (by simp)) | (go_at_call 194; refine (uF _ _).mono ?_; rintro e w' ⟨rfl,rfl⟩; rw [H1.out]) | (go_at_call 195; refine (qU _ _ _ _ _).mono ?_; rintro e w' ⟨rfl,rfl⟩; rw [H8.out]))
   all_goals (go_ret; exact ⟨rfl,aC (aL _ _) hb⟩)
end
end Go.Proofs.YtnbbfblaipjcmaaGreatDoor
