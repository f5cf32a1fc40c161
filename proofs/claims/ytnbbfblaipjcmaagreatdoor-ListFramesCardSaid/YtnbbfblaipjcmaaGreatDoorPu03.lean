/- Mem, WaveB, WaveC. Conditions: as each theorem states. -/
import Derived.Deep.AppendLies
import Derived.Maps.AppendAt
import Derived.Test.YtnbbfblaipjcmaaGreatDoorPu01
import Derived.Test.YtnbbfblaipjcmaaGreatDoorPu02
set_option maxHeartbeats 2000000
namespace Go.Proofs.YtnbbfblaipjcmaaGreatDoor
section
open Go.RowKit
def Row (w:World) (B:Nat) (a:Option Addr) (vs:List Value):Prop :=
 ∀ i v,vs[i]? = some v->∃ b off,a=some ⟨b,off,none⟩/\b < B/\w.cell? ⟨b,off+i,none⟩=some v
theorem cell_lt {w:World} {a:Addr} {v:Value} (h:w.cell? a=some v):a.block < w.heap.size:=by
 unfold World.cell? at h
 rcases Nat.lt_or_ge a.block w.heap.size with h1 | h1
 ·exact h1
 ·rw [Array.getElem?_eq_none h1] at h; cases h
theorem cell_alloc {w:World} {p:Addr} {v:Value} (h:w.cell? p=some v) (o:Obj):(w.alloc o).cell? p=some v:=by
 have hl:=cell_lt h
 rw [World.cell?_of_block (w:=w) (Below.heap_alloc w o p.block hl)]; exact h
theorem Row.none_ (w:World) (B:Nat) (a:Option Addr):Row w B a []:=fun i v h=>by simp at h
theorem Row.keep {w w':World} {B:Nat} {a:Option Addr} {vs:List Value} (h:Row w B a vs) (hk:∀ p:Addr,p.block < B->w'.cell? p=w.cell? p):Row w' B a vs :=
 fun i v hv=>by obtain ⟨b,off,ha,hb,hc⟩:=h i v hv; exact ⟨b,off,ha,hb,(hk _ hb).trans hc⟩
theorem Row.below {w w':World} {B:Nat} {a:Option Addr} {vs:List Value} (h:Row w B a vs) (hb:Below B w w'):Row w' B a vs:=h.keep fun _ hp=>hb.cell hp
theorem Row.more {w:World} {B B':Nat} {a:Option Addr} {vs:List Value} (h:Row w B a vs) (hB:B<=B'):Row w B' a vs :=
 fun i v hv=>by obtain ⟨b,off,ha,hb,hc⟩:=h i v hv; exact ⟨b,off,ha,by omega,hc⟩
theorem Row.later {w w':World} {a:Option Addr} {vs:List Value} (h:Row w w.heap.size a vs) (hb:Below w.heap.size w w'):Row w' w'.heap.size a vs:=(h.below hb).more hb.size
theorem Row.take {w:World} {B:Nat} {a:Option Addr} {vs:List Value} (h:Row w B a vs) (k:Nat):Row w B a (vs.take k) :=
 fun i v hv=>h i v (by rw [List.getElem?_take] at hv; split at hv <;> simp_all)
theorem Row.of_own {w:World} {base:Nat} {e:TypeId} {size n c:Nat} {A:Option Addr} {xs:List Value} (h:w.ownsRow base e size (.slice A n c) n xs):Row w w.heap.size A xs:=by
 intro i v hv
 have hl:0 < xs.length:=by have:=(List.getElem?_eq_some_iff.1 hv).1; omega
 have hn:0 < n:=by
  rcases Nat.eq_zero_or_pos n with h0 | h0
  ·have:=h.1; rw [h0,Nat.zero_mul] at this; omega
  ·exact h0
 obtain ⟨g,cap,hv',_,hlt⟩:=h.form hn
 injection hv' with hA
 subst hA
 have hc:=h.cells (g:=g) rfl i v hv
 exact ⟨g,0,rfl,hlt,by unfold Addr.add at hc; split at hc <;> simp_all⟩
theorem own_form {w:World} {base:Nat} {e:TypeId} {size n:Nat} {v:Value} {xs:List Value} (h:w.ownsRow base e size v n xs):∃ A c,v=.slice A n c/\n<=c/\(A=none->n=0/\c=0):=by
 rcases h.2 with ⟨rfl,h0⟩ | ⟨g,cap,cur,rfl,_,_,hnc,_⟩
 ·subst h0; exact ⟨none,0,rfl,Nat.le_refl _,fun _=>⟨rfl,rfl⟩⟩
 ·exact ⟨_,cap,rfl,hnc,nofun⟩
theorem own_cap {w:World} {base:Nat} {e:TypeId} {size n c:Nat} {A:Option Addr} {xs:List Value} (h:w.ownsRow base e size (.slice A n c) n xs):c<=9223372036854775807:=by
 rcases h.2 with ⟨h1,_⟩ | ⟨g,cap,cur,h1,_,_,_,hm,_⟩
 ·injection h1 with _ _ h3; omega
 ·injection h1 with _ _ h3; simp only [maxLen] at hm; omega
def Blk (w:World) (g:Nat) (t:TypeId) (cs:List Value):Prop:=w.heap[g]? = some (.cells cs.toArray t (0,0))
theorem Blk.lt {w:World} {g:Nat} {t:TypeId} {cs:List Value} (h:Blk w g t cs):g < w.heap.size:=by
 rcases Nat.lt_or_ge g w.heap.size with h1 | h1
 ·exact h1
 ·unfold Blk at h; rw [Array.getElem?_eq_none h1] at h; cases h
theorem Blk.cell {w:World} {g:Nat} {t:TypeId} {cs:List Value} (h:Blk w g t cs) (i:Nat):w.cell? ⟨g,i,none⟩=cs[i]?:=by
 unfold Blk at h; simp [World.cell?,h]
theorem Blk.frozen {w:World} {g:Nat} {t:TypeId} {cs:List Value} (h:Blk w g t cs) (i:Nat):w.frozen? ⟨g,i,none⟩=false:=by
 unfold Blk at h; simp [World.frozen?,h]
theorem Blk.new (w:World) (t:TypeId) (cs:List Value):Blk (w.alloc (.cells cs.toArray t)) w.heap.size t cs:=heap_alloc_new w _
theorem Blk.new2 (w:World) (o:Obj) (t:TypeId) (cs:List Value):Blk ((w.alloc o).alloc (.cells cs.toArray t)) (w.heap.size+1) t cs:=by
 have h:=Blk.new (w.alloc o) t cs
 simpa using h
theorem Blk.below {w w':World} {B g:Nat} {t:TypeId} {cs:List Value} (h:Blk w g t cs) (hb:Below B w w') (hg:g < B):Blk w' g t cs:=(hb.block g hg).trans h
theorem Blk.alloc {w:World} {g:Nat} {t:TypeId} {cs:List Value} (h:Blk w g t cs) (o:Obj):Blk (w.alloc o) g t cs:=(Below.heap_alloc w o g h.lt).trans h
theorem Blk.set_ {w:World} {g:Nat} {t:TypeId} {cs:List Value} (h:Blk w g t cs) (i:Nat) (u:Value):Blk (w.setCell ⟨g,i,none⟩ u) g t (cs.set i u):=by
 unfold Blk at h ⊢
 simp [World.setCell,Array.getElem?_modify,h]
theorem Blk.far {w:World} {g:Nat} {t:TypeId} {cs:List Value} (h:Blk w g t cs) {p:Addr} (hp:g ≠ p.block) (u:Value):Blk (w.setCell p u) g t cs:=(Below.heap_setCell w p u g hp).trans h
theorem Blk.grown {w w':World} {g:Nat} {t:TypeId} {cs:List Value} {row:Option Nat} (h:Blk w g t cs) (hb:w.grownBy w' row) (hg:some g ≠ row):Blk w' g t cs:=(hb.block g h.lt hg).trans h
theorem Blk.drew {w:World} {g:Nat} {t:TypeId} {cs:List Value} (h:Blk w g t cs):Blk w.drew g t cs:=h
def IntsAt (w:World) (B:Nat) (v:Value) (xs:List Int):Prop :=
 ∃ a cap,v=.slice a xs.length cap/\xs.length<=cap/\cap<=9223372036854775807/\Row w B a (xs.map (.int .i64))
theorem IntsAt.later {w w':World} {v:Value} {xs:List Int} (h:IntsAt w w.heap.size v xs) (hb:Below w.heap.size w w'):IntsAt w' w'.heap.size v xs:=by
 obtain ⟨a,c,h1,h2,h3,h4⟩:=h; exact ⟨a,c,h1,h2,h3,h4.later hb⟩
theorem IntsAt.below {w w':World} {B:Nat} {v:Value} {xs:List Int} (h:IntsAt w B v xs) (hb:Below B w w'):IntsAt w' B v xs:=by
 obtain ⟨a,c,h1,h2,h3,h4⟩:=h; exact ⟨a,c,h1,h2,h3,h4.below hb⟩
theorem IntsAt.more {w:World} {B B':Nat} {v:Value} {xs:List Int} (h:IntsAt w B v xs) (hb:B<=B'):IntsAt w B' v xs:=by
 obtain ⟨a,c,h1,h2,h3,h4⟩:=h; exact ⟨a,c,h1,h2,h3,h4.more hb⟩
def I64s (xs:List Int):Prop:=∀ x ∈ xs,-9223372036854775808<=x/\x<=9223372036854775807
def RowsAt (w:World) (B:Nat) (vs:List Value) (rows:List (List Int)):Prop :=
 vs.length=rows.length/\∀ (i:Nat) (v:Value) (xs:List Int),vs[i]? = some v->rows[i]? = some xs->IntsAt w B v xs
theorem RowsAt.later {w w':World} {vs:List Value} {rows:List (List Int)} (h:RowsAt w w.heap.size vs rows) (hb:Below w.heap.size w w'):RowsAt w' w'.heap.size vs rows :=
 ⟨h.1,fun i v xs hv hx=>(h.2 i v xs hv hx).later hb⟩
theorem RowsAt.below {w w':World} {B:Nat} {vs:List Value} {rows:List (List Int)} (h:RowsAt w B vs rows) (hb:Below B w w'):RowsAt w' B vs rows:=⟨h.1,fun i v xs hv hx=>(h.2 i v xs hv hx).below hb⟩
theorem RowsAt.more {w:World} {B B':Nat} {vs:List Value} {rows:List (List Int)} (h:RowsAt w B vs rows) (hb:B<=B'):RowsAt w B' vs rows:=⟨h.1,fun i v xs hv hx=>(h.2 i v xs hv hx).more hb⟩
theorem Row.new (w:World) (t:TypeId) (vs:List Value):Row (w.alloc (.cells vs.toArray t)) (w.heap.size+1) (some ⟨w.heap.size,0,none⟩) vs :=
 fun i v hv=>⟨w.heap.size,0,rfl,by omega,by rw [(Blk.new w t vs).cell,Nat.zero_add]; exact hv⟩
theorem RowsAt.snoc {w:World} {B:Nat} {vs:List Value} {rows:List (List Int)} {v:Value} {xs:List Int} (h:RowsAt w B vs rows) (hv:IntsAt w B v xs):RowsAt w B (vs ++ [v]) (rows ++ [xs]):=by
 refine ⟨by simp [h.1],fun i u ys hu hy=>?_⟩
 rcases Nat.lt_or_ge i vs.length with h1 | h1
 ·rw [List.getElem?_append_left h1] at hu
  rw [List.getElem?_append_left (by rw [<-h.1]; exact h1)] at hy
  exact h.2 i u ys hu hy
 ·rw [List.getElem?_append_right h1] at hu
  rw [List.getElem?_append_right (by rw [<-h.1]; exact h1),<-h.1] at hy
  rcases Nat.eq_zero_or_pos (i - vs.length) with h2 | h2
  ·rw [h2] at hu hy; simp at hu hy; subst hu hy; exact hv
  ·rw [List.getElem?_eq_none (by simp; omega)] at hu; cases hu
theorem IntsAt.take {w:World} {B:Nat} {a:Option Addr} {n cap:Nat} {xs:List Int} (h:IntsAt w B (.slice a n cap) xs) (k:Nat) (hk:k<=xs.length):IntsAt w B (.slice a k cap) (xs.take k):=by
 obtain ⟨a',c',he,h1,h2,h3⟩:=h
 injection he with e1 e2 e3
 subst e1 e3
 exact ⟨a,cap,by rw [List.length_take,Nat.min_eq_left hk],by rw [List.length_take]; omega,h2,by rw [List.map_take]; exact h3.take k⟩
/-! From what an argument looks like to rows. -/
theorem flat_get (sz:Nat):∀ (css:List (List Value)),(∀ cs ∈ css,cs.length=sz)->∀ i j,j < sz->css.flatten[i*sz+j]? = css[i]?.bind (·[j]?)
 | [],_,i,j,_=>by simp
 | cs :: r,h,i,j,hj=>by
  have hl:cs.length=sz:=h cs (by simp)
  cases i with
  | zero=>simp [List.flatten_cons,List.getElem?_append,hl,hj]
  | succ i =>
   have ih:=flat_get sz r (fun c hc=>h c (by simp [hc])) i j hj
   rw [List.flatten_cons,List.getElem?_append_right (by rw [hl,Nat.add_mul]; omega),hl,show (i+1)*sz+j - sz=i*sz+j by rw [Nat.add_mul]; omega,ih]
   simp
theorem flat_len (sz:Nat):∀ (css:List (List Value)),(∀ cs ∈ css,cs.length=sz)->css.flatten.length=css.length*sz
 | [],_=>by simp
 | cs :: r,h=>by
  rw [List.flatten_cons,List.length_append,flat_len sz r (fun c hc=>h c (by simp [hc])),h cs (by simp),List.length_cons,Nat.add_mul]; omega
theorem list_of {α:Type} (P:Nat->α->Prop):∀ (n:Nat),(∀ i,i < n->∃ x,P i x)->∃ l:List α,l.length=n/\∀ i x,l[i]? = some x->P i x
 | 0,_=>⟨[],rfl,fun i x h=>by simp at h⟩
 | n+1,h=>by
  obtain ⟨l,hl,hp⟩:=list_of P n (fun i hi=>h i (by omega))
  obtain ⟨x,hx⟩:=h n (by omega)
  refine ⟨l ++ [x],by simp [hl],fun i y hy=>?_⟩
  rcases Nat.lt_or_ge i n with h1 | h1
  ·rw [List.getElem?_append_left (by omega)] at hy; exact hp i y hy
  ·rw [List.getElem?_append_right (by omega)] at hy
   have:i - l.length=0:=by
    rcases Nat.eq_zero_or_pos (i - l.length) with h2 | h2
    ·exact h2
    ·rw [List.getElem?_eq_none (by simp; omega)] at hy; cases hy
   rw [this] at hy
   simp at hy
   subst hy
   have:i=n:=by omega
   subst this; exact hx
theorem rows_of_shape {w:World} {sz:Nat} {e:Ty} {a:Option Addr} {len:Nat}
  (h:∀ i,i < len->∃ (ad:Addr) (cs':List Value),a=some ad/\cs'.length=sz/\(∀ j,j < sz->w.cell? (ad.add (i*sz+j))=cs'[j]?)/\Shape w e cs') :
  ∃ css:List (List Value),css.length=len/\(∀ cs ∈ css,cs.length=sz)/\(∀ cs ∈ css,Shape w e cs)/\Row w w.heap.size a css.flatten:=by
 obtain ⟨css,hl,hp⟩:=list_of (fun i (cs':List Value)=>∃ ad:Addr,a=some ad/\cs'.length=sz/\(∀ j,j < sz->w.cell? (ad.add (i*sz+j))=cs'[j]?)/\Shape w e cs') len
  (fun i hi=>by obtain ⟨ad,cs',h1,h2⟩:=h i hi; exact ⟨cs',ad,h1,h2⟩)
 have hlen:∀ cs ∈ css,cs.length=sz:=fun cs hcs=>by
  obtain ⟨i,hi,rfl⟩:=List.mem_iff_getElem.1 hcs
  obtain ⟨_,_,h2,_⟩:=hp i _ (List.getElem?_eq_getElem hi)
  exact h2
 refine ⟨css,hl,hlen,fun cs hcs=>?_,fun k v hv=>?_⟩
 ·obtain ⟨i,hi,rfl⟩:=List.mem_iff_getElem.1 hcs
  obtain ⟨_,_,_,_,h4⟩:=hp i _ (List.getElem?_eq_getElem hi)
  exact h4
 ·have hk:=(List.getElem?_eq_some_iff.1 hv).1
  rw [flat_len sz css hlen] at hk
  have hsz:0 < sz:=by
   rcases Nat.eq_zero_or_pos sz with h0 | h0
   ·subst h0; simp at hk
   ·exact h0
  have hdm:=Nat.div_add_mod k sz
  have hm:=Nat.mod_lt k hsz
  have hi:k / sz < css.length:=(Nat.div_lt_iff_lt_mul hsz).2 hk
  have h0l:0 < css.length:=Nat.lt_of_le_of_lt (Nat.zero_le _) hi
  obtain ⟨ad,ha,h2,h3,_⟩:=hp (k / sz) _ (List.getElem?_eq_getElem hi)
  have hv2:=flat_get sz css hlen (k / sz) (k % sz) hm
  rw [show k / sz*sz+k % sz=k by rw [Nat.mul_comm]; exact hdm,hv,List.getElem?_eq_getElem hi] at hv2
  have hc:=h3 (k % sz) hm
  rw [show k / sz*sz+k % sz=k by rw [Nat.mul_comm]; exact hdm] at hc
  have hv3:css[k / sz][k % sz]? = some v:=by simpa using hv2.symm
  rw [hv3] at hc
  have hsp:=World.cell?_spot hc
  have hlt:=cell_lt hc
  obtain ⟨b,off,spot⟩:=ad
  unfold Addr.add at hc hsp hlt
  by_cases h0:k=0
  ·subst h0; simp at hc hsp hlt; subst hsp; exact ⟨b,off,ha,hlt,by simpa using hc⟩
  ·simp [h0] at hc hlt
   obtain ⟨ad0,ha0,hl0,h30,_⟩:=hp 0 _ (List.getElem?_eq_getElem (by omega))
   have hc0:=h30 0 hsz
   rw [ha] at ha0
   injection ha0 with ha0
   subst ha0
   have:w.cell? (Addr.mk b off spot)=(css[0]'h0l)[0]?:=by simpa [Addr.add] using hc0
   have hsome:(css[0]'h0l)[0]? = some ((css[0]'h0l)[0]'(by omega)):=List.getElem?_eq_getElem (by omega)
   rw [hsome] at this
   have:=World.cell?_spot this
   simp at this
   subst this
   exact ⟨b,off,ha,hlt,hc⟩
theorem ints_flat {w:World}:∀ (css:List (List Value)),(∀ cs ∈ css,Shape w (.int .i64) cs)->∃ xs:List Int,xs.length=css.length/\css.flatten=xs.map (.int .i64)/\I64s xs
 | [],_=>⟨[],rfl,rfl,fun x h=>by simp at h⟩
 | cs :: r,h=>by
  obtain ⟨xs,h1,h2,h3⟩:=ints_flat r (fun c hc=>h c (by simp [hc]))
  obtain ⟨n,rfl,hn1,hn2⟩:=h cs (by simp)
  rw [min_i64] at hn1
  rw [max_i64] at hn2
  exact ⟨n :: xs,by simp [h1],by simp [h2],fun x hx=>by rcases List.mem_cons.1 hx with rfl | hx; exact ⟨hn1,hn2⟩; exact h3 x hx⟩
theorem ints_of_shape {w:World} {cs:List Value} (h:Shape w (.slice 1 (.int .i64)) cs):∃ (v:Value) (xs:List Int),cs=[v]/\IntsAt w w.heap.size v xs/\I64s xs:=by
 obtain ⟨a,len,cap,rfl,hl,hc,_,hel⟩:=h
 obtain ⟨css,h1,_,h3,h4⟩:=rows_of_shape hel
 obtain ⟨xs,hx1,hx2,hx3⟩:=ints_flat css h3
 exact ⟨_,xs,rfl,⟨a,cap,by rw [hx1,h1],by omega,hc,by rw [hx2] at h4; exact h4⟩,hx3⟩
theorem rows_flat {w:World}:∀ (css:List (List Value)),(∀ cs ∈ css,Shape w (.slice 1 (.int .i64)) cs)->∃ (rows:List (List Int)),rows.length=css.length/\RowsAt w w.heap.size css.flatten rows/\∀ r ∈ rows,I64s r
 | [],_=>⟨[],rfl,⟨rfl,fun i v xs h=>by simp at h⟩,fun r h=>by simp at h⟩
 | cs :: r,h=>by
  obtain ⟨rows,h1,h2,h3⟩:=rows_flat r (fun c hc=>h c (by simp [hc]))
  obtain ⟨v,xs,rfl,hi,hx⟩:=ints_of_shape (h cs (by simp))
  refine ⟨xs :: rows,by simp [h1],⟨by simp [h2.1],fun i u ys hu hy=>?_⟩,fun y hy=>by rcases List.mem_cons.1 hy with rfl | hy; exact hx; exact h3 y hy⟩
  cases i with
  | zero=>simp at hu hy; subst hu hy; exact hi
  | succ i=>exact h2.2 i u ys (by simpa using hu) (by simpa using hy)
theorem mat_of_shape {w:World} {cs:List Value} (h:Shape w (.slice 1 (.slice 1 (.int .i64))) cs) :
  ∃ (a:Option Addr) (cap:Nat) (vs:List Value) (rows:List (List Int)),cs=[.slice a rows.length cap]/\rows.length<=cap/\cap<=9223372036854775807/\Row w w.heap.size a vs/\RowsAt w w.heap.size vs rows/\∀ r ∈ rows,I64s r:=by
 obtain ⟨a,len,cap,rfl,hl,hc,_,hel⟩:=h
 obtain ⟨css,h1,_,h3,h4⟩:=rows_of_shape hel
 obtain ⟨rows,hr1,hr2,hr3⟩:=rows_flat css h3
 exact ⟨a,cap,css.flatten,rows,by rw [hr1,h1],by omega,hc,h4,hr2,hr3⟩
/-! Worlds that grew out of one: the class over which a statement that draws its order is walked once. -/
def GW (W:World):Type:={ w':World // Below W.heap.size W w' }
instance gwNonempty (W:World):Nonempty (GW W):=⟨⟨W,Below.refl _ _⟩⟩
theorem calm_call {P:Program} {f:FuncId} {args:Array Value} {W:World} {x:GW W} {v:Value} (h:Calls P f args x.1 fun e w'=>e=.returned v/\Below x.1.heap.size x.1 w') :
  Calls P f args x.1 fun e w''=>e=.returned v/\∃ y:GW W,w''=y.1 :=
 h.mono fun _ w' ⟨he,hb⟩=>⟨he,⟨w',bnext x.2 hb⟩,rfl⟩
theorem calm_same {P:Program} {f:FuncId} {args:Array Value} {W:World} {x:GW W} {v:Value} (h:Calls P f args x.1 fun e w'=>e=.returned v/\x.1=w') :
  Calls P f args x.1 fun e w''=>e=.returned v/\∃ y:GW W,w''=y.1 :=
 h.mono fun _ _ ⟨he,hb⟩=>⟨he,x,hb.symm⟩
theorem gw_cell {W:World} (x:GW W) {p:Addr} (h:p.block < W.heap.size):x.1.cell? p=W.cell? p:=x.2.cell h
theorem wp_region_calm {P:Program} {id:Nat} {Q:Exit->Act->World->Prop} {a:Act} {w:World} {l:List Oper} (hm:P.follows .mixedOrders=true) (hB:Region.lexB .any l.toArray=true)
  (h:wpQuiet P l.toArray (fun w'=>∃ x:GW w,w'=x.1) (fun a'=>∀ w',(∃ x:GW w,w'=x.1)->Q .normal a' w') l a):(Code.region id l.toArray true).wp P Q a w :=
 wp_region_quiet (C:=fun w'=>∃ x:GW w,w'=x.1) hm hB ⟨⟨_,(Below.refl w.heap.size w).drew⟩,rfl⟩ (by simpa using h)
/-! append onto a row of the call's own, whatever the source (nil, empty, or not). -/
section
variable {P : Program} (w : World)
theorem run_append_nothing (base:Nat) (t ty e:TypeId) (i:TypeInfo) (size:Nat) (ht:P.underlying t=some (.slice e)) (hi:P.info? e=some i)
  (v:Value) (n:Nat) (xs:List Value) (hown:w.ownsRow base e size v n xs) (c:Nat):(Builtin.append_ #[t,t] ty #[v,.slice none 0 c]).run P w=.ok v w:=by
 rcases hown.2 with ⟨rfl,rfl⟩ | ⟨g,cap,cur,rfl,_,_,hnc,_⟩
 ·simp [Builtin.append_,run_underlying ht,sizeOf,typeInfo,hi,Builtin.lenOf,Builtin.firstCells]
 ·simp [Builtin.append_,run_underlying ht,sizeOf,typeInfo,hi,Builtin.lenOf,Builtin.firstCells,hnc,storeCells]
theorem run_app (base:Nat) (t ty e:TypeId) (i:TypeInfo) (z:Value) (size bytes:Nat) (ht:P.underlying t=some (.slice e)) (hi:P.info? e=some i) (hz:i.zero=some z)
  (hsize:i.size=size) (hby:i.bytes=bytes) (hzs:z.cells.size=size) (hsz:0 < size)
  (v:Value) (n:Nat) (xs:List Value) (hown:w.ownsRow base e size v n xs)
  (B:Nat) (A:Option Addr) (m c:Nat) (news:List Value) (hl:news.length=m*size) (hr:Row w B A news) (h1:∀ u ∈ news,u.oneCell'=true)
  (h63:n+m<=9223372036854775807) (hbytes:(n+m)*bytes<=140737488355328) (hbase:base<=w.heap.size) :
  ∃ A' c' w',(Builtin.append_ #[t,t] ty #[v,.slice A m c]).run P w=.ok (.slice A' (n+m) c') w'/\w'.ownsRow base e size (.slice A' (n+m) c') (n+m) (xs ++ news)/\w.grownBy w' v.ownBlock /\
   ((Value.slice A' (n+m) c').ownBlock=v.ownBlock\/(Value.slice A' (n+m) c').ownBlock=some w.heap.size)/\n+m<=c':=by
 rcases A with _ | ad
 ·have hn:news=[]:=by
   cases news with
   | nil=>rfl
   | cons x r=>obtain ⟨b,off,h,_⟩:=hr 0 x rfl; cases h
  subst hn
  have hm:m=0:=by
   rcases Nat.eq_zero_or_pos m with h0 | h0
   ·exact h0
   ·have:=Nat.mul_pos h0 hsz; simp at hl; omega
  subst hm
  obtain ⟨A',c',rfl,hc,_⟩:=own_form hown
  exact ⟨A',c',w,run_append_nothing w base t ty e i size ht hi _ n xs hown c,by simpa using hown,⟨rfl,rfl,rfl,Nat.le_refl _,fun _ _ _=>rfl⟩,.inl rfl,hc⟩
 ·have hcells:∀ j u,news[j]? = some u->w.cell? (ad.add j)=some u:=by
   intro j u hu
   obtain ⟨b,off,h,_,hc⟩:=hr j u hu
   injection h with h
   subst h
   unfold Addr.add
   by_cases hj:j=0
   ·subst hj; simpa using hc
   ·simp [hj]; exact hc
  obtain ⟨v',w',hrun,h2,h3,_,h5⟩:=run_append_own_at (P:=P) w base t ty e i z size bytes ht hi hz hsize hby hzs hsz v n xs hown ad m c news hl hcells h1 h63 hbytes hbase
  obtain ⟨A',c',rfl,hc,_⟩:=own_form h2
  exact ⟨A',c',w',hrun,h2,h3,h5,hc⟩
theorem wpList_app {ops:Array Oper} {rest:List Oper} {o:Oper} {a:Act} {Q:Exit->Act->World->Prop} (hgd:o.guard=none) (s x:Operand) (t:TypeId)
  (ho:o.op=.call { callee:=.builtin .append,args:=#[s,x],argTypes:=#[t,t] })
  (base:Nat) (e:TypeId) (i:TypeInfo) (z:Value) (size bytes:Nat) (ht:P.underlying t=some (.slice e)) (hi:P.info? e=some i) (hz:i.zero=some z)
  (hsize:i.size=size) (hby:i.bytes=bytes) (hzs:z.cells.size=size) (hsz:0 < size)
  (v:Value) (n:Nat) (xs:List Value) (hs:a.eval s=v) (hown:w.ownsRow base e size v n xs)
  (B:Nat) (A:Option Addr) (m c:Nat) (news:List Value) (hx:a.eval x=.slice A m c) (hl:news.length=m*size) (hr:Row w B A news) (h1:∀ u ∈ news,u.oneCell'=true)
  (h63:n+m<=9223372036854775807) (hbytes:(n+m)*bytes<=140737488355328) (hbase:base<=w.heap.size)
  (h:∀ A' c' w',w'.ownsRow base e size (.slice A' (n+m) c') (n+m) (xs ++ news)->w.grownBy w' v.ownBlock ->
   ((Value.slice A' (n+m) c').ownBlock=v.ownBlock\/(Value.slice A' (n+m) c').ownBlock=some w.heap.size)->n+m<=c'->wpList P ops Q rest (a.put o.dst (.slice A' (n+m) c')) w') :
  wpList P ops Q (o :: rest) a w:=by
 refine wpList_plain hgd fun K hK=>?_
 obtain ⟨A',c',w',hrun,h2,h3,h4,h5⟩:=run_app (P:=P) w base t o.type e i z size bytes ht hi hz hsize hby hzs hsz v n xs hown B A m c news hl hr h1 h63 hbytes hbase
 unfold Oper.wp execOp
 simp only [ho,resolve,invoke,builtin,Sem.run_bind,Sem.run_pure,Result.andThen_ok,List.map_toArray,List.map_cons,List.map_nil,hs,hx,hrun]
 exact hK _ _ (h A' c' w' h2 h3 h4 h5)
end
theorem grown_below {B:Nat} {a w w':World} {v:Value} (h:Below B a w) (hg:w.grownBy w' v.ownBlock) (hB:B<=w.heap.size) (hv:∀ k,v.ownBlock=some k->B<=k):Below B a w':=h.grown hg hB hv
theorem own_block_ge {w:World} {base:Nat} {e:TypeId} {size n:Nat} {v:Value} {xs:List Value} (h:w.ownsRow base e size v n xs):∀ k,v.ownBlock=some k->base<=k:=by
 intro k hk
 rcases h.2 with ⟨rfl,_⟩ | ⟨g,cap,cur,rfl,hb,_⟩
 ·simp [Value.ownBlock] at hk
 ·have:g=k:=by simpa [Value.ownBlock] using hk
  omega
end
section
open Go.Lib (hid)
open Go.RowKit
def len0:List (List Int)->Nat
 | []=>0
 | r :: _=>r.length
def inS (x:Int):Bool:=decide (-32768<=x) && decide (x<=32767)
def lenIs (n:Nat) (r:List Int):Bool:=decide (r.length=n)
def allIn (r:List Int):Bool:=r.all inS
def checkZ (nm:ByteArray) (rate:Int) (lp:Bool) (f t:Int) (rows:List (List Int)):Int :=
 if isName nm=false then 10 else if rate < 1\/192000 < rate then 14
 else if rows.length < 1\/2 < rows.length\/len0 rows < 1\/1048576 < len0 rows then 12
 else if loopOk lp f t (len0 rows)=false then 13
 else if rows.all (lenIs (len0 rows))=false then 12
 else if rows.all allIn=false then 5 else 0
theorem first_row {w:World} {B:Nat} {a:Option Addr} {vs:List Value} {rows:List (List Int)} (hr:Row w B a vs) (hm:RowsAt w B vs rows) {k:Nat} {xs:List Int} (hk:rows[k]? = some xs) :
  ∃ b off a' c',a=some ⟨b,off,none⟩/\b < B/\w.cell? ⟨b,off+k,none⟩=some (.slice a' xs.length c')/\xs.length<=c'/\c'<=9223372036854775807/\Row w B a' (xs.map (.int .i64)):=by
 have hl:=(List.getElem?_eq_some_iff.1 hk).1
 obtain ⟨v,hv⟩:∃ v,vs[k]? = some v:=⟨_,List.getElem?_eq_getElem (by rw [hm.1]; exact hl)⟩
 obtain ⟨a',c',rfl,h1,h2,h3⟩:=hm.2 k v xs hv hk
 obtain ⟨b,off,ha,hb,hc⟩:=hr k _ hv
 exact ⟨b,off,a',c',ha,hb,hc,h1,h2,h3⟩
theorem Length_any (nm:ByteArray) (rate:Int) (lp:Bool) (f t:Int) (a:Option Addr) (cap:Nat) (vs:List Value) (rows:List (List Int)) (w:World) (R:Nat) (hR:rows.length=R) (hr:Row w w.heap.size a vs) (hm:RowsAt w w.heap.size vs rows) :
  Calls Tryz.prog 121 #[.agg #[.string nm,.int .i64 rate,.bool lp,.int .i64 f,.int .i64 t,.slice a R cap]] w
   fun e w'=>e=.returned (.int .i64 (len0 rows))/\Below w.heap.size w w':=by
 subst hR
 cases rows with
 | nil =>
  go_enter Tryz.func121,Tryz.ntmps121
  go_wp2
  go_ret
  exact ⟨rfl,bnew _ _⟩
 | cons r rs =>
  obtain ⟨b,off,a',c',rfl,hb,hc,_,_,_⟩:=first_row hr hm (k:=0) (xs:=r) rfl
  rw [Nat.add_zero] at hc
  have hne:=World.new_ne w _ hc
  have h1:((rs.length+1:Nat):Int) ≠ 0:=by omega
  have h2:(((r :: rs).length:Int) == 0)=false:=beq_eq_false_iff_ne.2 (by rw [List.length_cons]; omega)
  have h3:(0:Int) < ((r :: rs).length:Int):=by rw [List.length_cons]; omega
  clear hr hm
  generalize (r :: rs).length=R at *
  go_enter Tryz.func121,Tryz.ntmps121
  go_wp2
  go_ret
  exact ⟨rfl,bnew _ _⟩
theorem checkZ_early {nm:ByteArray} {rate:Int} {lp:Bool} {f t:Int} {rows:List (List Int)}
  (h:¬ (isName nm=true/\1<=rate/\rate<=192000/\1<=rows.length/\rows.length<=2/\1<=len0 rows/\len0 rows<=1048576/\loopOk lp f t (len0 rows)=true)) :
  (isName nm=false/\checkZ nm rate lp f t rows=10)\/(isName nm=true/\(rate < 1\/192000 < rate)/\checkZ nm rate lp f t rows=14) \/
  (isName nm=true/\1<=rate/\rate<=192000/\(rows.length < 1\/2 < rows.length\/len0 rows < 1\/1048576 < len0 rows)/\checkZ nm rate lp f t rows=12) \/
  (isName nm=true/\1<=rate/\rate<=192000/\1<=rows.length/\rows.length<=2/\1<=len0 rows/\len0 rows<=1048576/\loopOk lp f t (len0 rows)=false/\checkZ nm rate lp f t rows=13):=by
 unfold checkZ
 cases h1:isName nm
 ·simp
 ·by_cases h2:rate < 1\/192000 < rate
  ·simp [h2]
  ·by_cases h3:rows.length < 1\/2 < rows.length\/len0 rows < 1\/1048576 < len0 rows
   ·rw [if_neg (by simp),if_neg h2,if_pos h3]
    exact .inr (.inr (.inl ⟨rfl,by omega,by omega,h3,rfl⟩))
   ·cases h4:loopOk lp f t (len0 rows)
    ·rw [if_neg (by simp),if_neg h2,if_neg h3,if_pos rfl]
     exact .inr (.inr (.inr ⟨rfl,by omega,by omega,by omega,by omega,by omega,by omega,rfl,rfl⟩))
    ·exact absurd ⟨h1,by omega,by omega,by omega,by omega,by omega,by omega,h4⟩ h
theorem checkZ_late {nm:ByteArray} {rate:Int} {lp:Bool} {f t:Int} {rows:List (List Int)}
  (h:isName nm=true/\1<=rate/\rate<=192000/\1<=rows.length/\rows.length<=2/\1<=len0 rows/\len0 rows<=1048576/\loopOk lp f t (len0 rows)=true) :
  checkZ nm rate lp f t rows=if rows.all (lenIs (len0 rows))=false then 12 else if rows.all allIn=false then 5 else 0:=by
 obtain ⟨h1,h2,h3,h4,h5,h6,h7,h8⟩:=h
 unfold checkZ
 rw [h1,h8,if_neg (by simp),if_neg (by omega),if_neg (by omega),if_neg (by simp)]
theorem Check_any (nm:ByteArray) (rate:Int) (lp:Bool) (f t:Int) (a:Option Addr) (cap:Nat) (vs:List Value) (rows:List (List Int)) (w:World) (hr:Row w w.heap.size a vs) (hm:RowsAt w w.heap.size vs rows) (hcap:rows.length<=9223372036854775807)  :
  Calls Tryz.prog 167 #[.agg #[.string nm,.int .i64 rate,.bool lp,.int .i64 f,.int .i64 t,.slice a rows.length cap]] w
   fun e w'=>e=.returned (.int .i64 (checkZ nm rate lp f t rows))/\Below w.heap.size w w':=by
 by_cases hall:isName nm=true/\1<=rate/\rate<=192000/\1<=rows.length/\rows.length<=2/\1<=len0 rows/\len0 rows<=1048576/\loopOk lp f t (len0 rows)=true
 ·have HZ:=hid (checkZ_late hall)
  obtain ⟨h1,h2,h3,h4,h5,h6,h7,h8⟩:=hall
  have H1:=hid h1
  have H8:=hid h8
  clear h1 h8
  generalize checkZ nm rate lp f t rows=z at *
  obtain ⟨N,hN⟩:∃ N,len0 rows=N:=⟨_,rfl⟩
  have HN:=hid hN; clear hN
  obtain ⟨R,hR⟩:∃ R,rows.length=R:=⟨_,rfl⟩
  rw [HN.out] at h6 h7 H8
  rw [hR] at h4 h5 ⊢
  have HR:=hid hR; have hq:=hcap; clear hR hcap hq
  go_enter Tryz.func167,Tryz.ntmps167
  go_wp2_with (first | (go_at_call 121; refine (Length_any _ _ _ _ _ _ _ vs rows _ R HR.out (hr.later (bnew _ _)) (hm.later (bnew _ _))).mono ?_; rintro e w1 ⟨rfl,hb⟩; rw [HN.out]; have c0:=hb.cell (p:=⟨w.heap.size,0,none⟩) (by simp); have c1:=hb.cell (p:=⟨w.heap.size,1,none⟩) (by simp); have c2:=hb.cell (p:=⟨w.heap.size,2,none⟩) (by simp); have c3:=hb.cell (p:=⟨w.heap.size,3,none⟩) (by simp); have c4:=hb.cell (p:=⟨w.heap.size,4,none⟩) (by simp); have c5:=hb.cell (p:=⟨w.heap.size,5,none⟩) (by simp)) | (go_at_call 194; refine (IsName_any _ _).mono ?_; rintro e w' ⟨rfl,rfl⟩; rw [H1.out]) | (go_at_call 195; refine (waveloop_any _ _ _ _ _).mono ?_; rintro e w' ⟨rfl,rfl⟩; rw [H8.out]))
  have hr1:=(hr.later (bnew _ (.cells #[.string nm,.int .i64 rate,.bool lp,.int .i64 f,.int .i64 t,.slice a R cap] 138))).later hb
  have hm1:=(hm.later (bnew _ (.cells #[.string nm,.int .i64 rate,.bool lp,.int .i64 f,.int .i64 t,.slice a R cap] 138))).later hb
  have hB:=hid (bnext (bnew w (.cells #[.string nm,.int .i64 rate,.bool lp,.int .i64 f,.int .i64 t,.slice a R cap] 138)) hb)
  clear hr hm hb
  have Hr:=hid hr1
  have Hm:=hid hm1
  clear hr1 hm1
  go_loop [58] (fun i=>∃ k:Nat,k<=R/\i=.int .i64 k/\(rows.take k).all (lenIs N)=true) (fun i=>R - (intOf i).toNat)
  case atStart=>exact ⟨0,Nat.zero_le _,rfl,by simp⟩
  case round =>
   obtain ⟨k,hk,rfl,hpre⟩:=hrel
   have Hpre:=hid hpre
   clear hpre
   by_cases hlt:k < R
   ·obtain ⟨xs,hxs⟩:∃ xs,rows[k]? = some xs:=⟨_,List.getElem?_eq_getElem (by rw [HR.out]; exact hlt)⟩
    obtain ⟨b,off,a',c',rfl,_,hc,hl1,hl2,_⟩:=first_row Hr.out Hm.out hxs
    have Hxs:=hid hxs
    clear hxs
    by_cases hn:xs.length=N
    ·have hb1:((xs.length:Int) != (N:Int))=false:=by simp [hn]
     have Hn:=hid hn
     clear hn
     go_wp2
     go_round
     case rel=>exact ⟨k+1,by omega,by go_num,by rw [all_take_succ _ Hxs.out,Hpre.out]; simp [lenIs,Hn.out]⟩
     case measure=>simp [intOf]; omega
    ·have hb1:((xs.length:Int) != (N:Int))=true:=by rw [bne_iff_ne]; omega
     have Hn:=hid hn
     clear hn
     go_wp2
     go_ret
     refine ⟨ret_int ?_,hB.out⟩
     rw [HZ.out,HN.out,if_pos (all_false_of (lenIs N) Hxs.out (by simp [lenIs,Hn.out]))]
   ·have Hall:=hid (all_take_all (lenIs N) (by rw [HR.out]; omega) Hpre.out)
    go_wp2
    go_loop [70] (fun i=>∃ k:Nat,k<=R/\i=.int .i64 k/\(rows.take k).all allIn=true) (fun i=>R - (intOf i).toNat)
    case atStart=>exact ⟨0,Nat.zero_le _,rfl,by simp⟩
    case round =>
     clear hlt hk Hpre
     obtain ⟨k,hk,rfl,hpre⟩:=hrel
     have Hpre:=hid hpre
     clear hpre
     by_cases hlt:k < R
     ·obtain ⟨xs,hxs⟩:∃ xs,rows[k]? = some xs:=⟨_,List.getElem?_eq_getElem (by rw [HR.out]; exact hlt)⟩
      obtain ⟨b,off,a',c',rfl,_,hc,hl1,hl2,hrow⟩:=first_row Hr.out Hm.out hxs
      have Hxs:=hid hxs
      have Hrow:=hid hrow
      clear hxs hrow
      go_wp2
      go_loop [76] (fun j=>∃ m:Nat,m<=xs.length/\j=.int .i64 m/\(xs.take m).all inS=true) (fun j=>xs.length - (intOf j).toNat)
      case atStart=>exact ⟨0,Nat.zero_le _,rfl,by simp⟩
      case round =>
       obtain ⟨m,hm,rfl,hpin⟩:=hrel
       have Hpin:=hid hpin
       clear hpin
       by_cases hmlt:m < xs.length
       ·obtain ⟨x,hx⟩:∃ x,xs[m]? = some x:=⟨_,List.getElem?_eq_getElem hmlt⟩
        obtain ⟨b',off',rfl,_,hc'⟩:=Hrow.out m (.int .i64 x) (by simp [hx])
        have Hx:=hid hx
        clear hx
        by_cases hin:-32768<=x/\x<=32767
        ·have h1:inS x=true:=by unfold inS; simp [hin]
         have H1:=hid h1
         clear h1
         obtain ⟨hin1,hin2⟩:=hin
         go_wp2
         go_round
         case rel=>exact ⟨m+1,by omega,by go_num,by rw [all_take_succ _ Hx.out,Hpin.out,H1.out]; rfl⟩
         case measure=>simp [intOf]; omega
        ·have h1:inS x=false:=by unfold inS; simp; omega
         have H1:=hid h1
         clear h1
         have hin':x < -32768\/32768<=x:=by omega
         clear hin
         go_wp2
         all_goals
          go_ret
          refine ⟨ret_int ?_,hB.out⟩
          rw [HZ.out,HN.out,if_neg (by rw [Hall.out]; simp),if_pos (all_false_of allIn Hxs.out (all_false_of inS Hx.out H1.out))]
       ·have Hxall:=hid (all_take_all inS (by omega) Hpin.out)
        go_wp2
        go_round
        case rel=>exact ⟨k+1,by omega,by go_num,by rw [all_take_succ _ Hxs.out,Hpre.out]; exact Hxall.out⟩
        case measure=>simp [intOf]; omega
     ·have Hall2:=hid (all_take_all allIn (by rw [HR.out]; omega) Hpre.out)
      go_wp2
      go_ret
      refine ⟨ret_int ?_,hB.out⟩
      rw [HZ.out,HN.out,if_neg (by rw [Hall.out]; simp),if_neg (by rw [Hall2.out]; simp)]
 ·have hz:=checkZ_early hall
  generalize checkZ nm rate lp f t rows=z at *
  obtain ⟨N,hN⟩:∃ N,len0 rows=N:=⟨_,rfl⟩
  obtain ⟨R,hR⟩:∃ R,rows.length=R:=⟨_,rfl⟩
  rw [hN,hR] at hz
  have HN:=hid hN; clear hN
  rw [hR]
  have HR:=hid hR; have hq:=hcap; clear hR hcap hq hall
  have Hr:=hid hr
  have Hm:=hid hm
  clear hr hm
  rcases hz with ⟨h1,rfl⟩ | ⟨h1,h2,rfl⟩ | ⟨h1,h2,h3,h4,rfl⟩ | ⟨h1,h2,h3,h4,h5,h6,h7,h8,rfl⟩
  all_goals
   have H1:=hid h1
   clear h1
   try have H8:=hid h8
   try clear h8
   go_enter Tryz.func167,Tryz.ntmps167
   go_wp2_with (first | (go_at_call 121; refine (Length_any _ _ _ _ _ _ _ vs rows _ R HR.out (Hr.out.later (bnew _ _)) (Hm.out.later (bnew _ _))).mono ?_; rintro e w1 ⟨rfl,hb⟩; rw [HN.out]; have c0:=hb.cell (p:=⟨w.heap.size,0,none⟩) (by simp); have c1:=hb.cell (p:=⟨w.heap.size,1,none⟩) (by simp); have c2:=hb.cell (p:=⟨w.heap.size,2,none⟩) (by simp); have c3:=hb.cell (p:=⟨w.heap.size,3,none⟩) (by simp); have c4:=hb.cell (p:=⟨w.heap.size,4,none⟩) (by simp); have c5:=hb.cell (p:=⟨w.heap.size,5,none⟩) (by simp)) | (go_at_call 194; refine (IsName_any _ _).mono ?_; rintro e w' ⟨rfl,rfl⟩; rw [H1.out]) | (go_at_call 195; refine (waveloop_any _ _ _ _ _).mono ?_; rintro e w' ⟨rfl,rfl⟩; rw [H8.out]))
   all_goals (go_ret; exact ⟨rfl,bnext (bnew _ _) hb⟩)
end
section
open Go.RowKit
end
end Go.Proofs.YtnbbfblaipjcmaaGreatDoor
