/- Mem, WaveB. Conditions: as each theorem states. -/
import Derived.Deep.AppendLies
import Derived.Maps.AppendAt
import Derived.Test.YtbpgfkjhclpbdaaGreatDoorPw02
set_option maxHeartbeats 2000000
namespace Go.Proofs.YtbpgfkjhclpbdaaGreatDoor
open Tryz
open Go.RowKit
section
def Row(w:World)(B:Nat)(a:Option Addr)(vs:List Value):Prop :=
 ∀ i v,vs[i]? = some v->∃ b off,a=some ⟨b,off,none⟩/\b<B/\w.cell? ⟨b,off+i,none⟩=some v
theorem aAi{w:World}{a:Addr}{v:Value}(h:w.cell? a=some v):a.block<w.heap.size:=by
 unfold World.cell? at h;rcases aGt a.block w.heap.size with h1|h1
 ·exact h1
 ·rw[aHl h1]at h;cases h
theorem b8{w:World}{p:Addr}{v:Value}(h:w.cell? p=some v)(o:Obj):(w.alloc o).cell? p=some v:=by
 have d:=aAi h;rw[aH5 (w:=w) (Below.heap_alloc w o p.block d)];exact h
theorem Row.none_(w:World)(B:Nat)(a:Option Addr):Row w B a []:=fun i v h=>by simp at h
theorem Row.keep{w w':World}{B:Nat}{a:Option Addr}{vs:List Value}(h:Row w B a vs)(hk:∀ p:Addr,p.block<B->w'.cell? p=w.cell? p):Row w' B a vs :=
 fun i v t=>by obtain⟨b,off,ha,hb,d⟩:=h i v t;exact⟨b,off,ha,hb,(hk _ hb).trans d⟩
theorem Row.below{w w':World}{B:Nat}{a:Option Addr}{vs:List Value}(h:Row w B a vs)(hb:Below B w w'):Row w' B a vs:=h.keep fun _ d=>hb.cell d
theorem Row.more{w:World}{B d:Nat}{a:Option Addr}{vs:List Value}(h:Row w B a vs)(F:B<=d):Row w d a vs :=
 fun i v z=>by obtain⟨b,off,ha,hb,t⟩:=h i v z;exact⟨b,off,ha,by omega,t⟩
theorem Row.later{w w':World}{a:Option Addr}{vs:List Value}(h:Row w w.heap.size a vs)(hb:Below w.heap.size w w'):Row w' w'.heap.size a vs:=(h.below hb).more hb.size
theorem Row.take{w:World}{B:Nat}{a:Option Addr}{vs:List Value}(h:Row w B a vs)(k:Nat):Row w B a (vs.take k) :=
 fun i v d=>h i v (by rw[aHe]at d;split at d <;> simp_all)
theorem Row.of_own{w:World}{base:Nat}{e:TypeId}{size n c:Nat}{A:Option Addr}{xs:List Value}(h:w.ownsRow base e size (.slice A n c) n xs):Row w w.heap.size A xs:=by
 intro i v z;have I:0<xs.length:=by have:=(aGi.1 z).1;omega
 have F:0<n:=by
  rcases aHB n with d|d
  ·have:=h.1;rw[d,aIk]at this;omega
  ·exact d
 obtain⟨g,cap,G,_,hlt⟩:=h.form F;injection G with hA
 subst hA;have t:=h.cells (g:=g) rfl i v z;exact⟨g,0,rfl,hlt,by unfold Addr.add at t;split at t <;> simp_all⟩
theorem jK{w:World}{base:Nat}{e:TypeId}{size n:Nat}{v:Value}{xs:List Value}(h:w.ownsRow base e size v n xs):∃ A c,v=.slice A n c/\n<=c/\(A=none->n=0/\c=0):=by
 rcases h.2 with ⟨rfl,d⟩|⟨g,cap,z,rfl,_,_,t,_⟩
 ·subst d;exact⟨none,0,rfl,LE _,fun _=>⟨rfl,rfl⟩⟩
 ·exact⟨_,cap,rfl,t,nofun⟩
theorem gK{w:World}{base:Nat}{e:TypeId}{size n c:Nat}{A:Option Addr}{xs:List Value}(h:w.ownsRow base e size (.slice A n c) n xs):c<=9223372036854775807:=by
 rcases h.2 with ⟨h1,_⟩|⟨g,cap,t,h1,_,_,_,hm,_⟩
 ·injection h1 with _ _ d;omega
 ·injection h1 with _ _ d;simp only[maxLen]at hm;omega
def Blk(w:World)(g:Nat)(t:TypeId)(d:List Value):Prop:=w.heap[g]? = some (.cells d.toArray t (0,0))
theorem Blk.lt{w:World}{g:Nat}{t:TypeId}{d:List Value}(h:Blk w g t d):g<w.heap.size:=by
 rcases aGt g w.heap.size with h1|h1
 ·exact h1
 ·unfold Blk at h;rw[aHl h1]at h;cases h
theorem Blk.cell{w:World}{g:Nat}{t:TypeId}{d:List Value}(h:Blk w g t d)(i:Nat):w.cell? ⟨g,i,none⟩=d[i]?:=by
 unfold Blk at h;simp[World.cell?,h]
theorem Blk.frozen{w:World}{g:Nat}{t:TypeId}{d:List Value}(h:Blk w g t d)(i:Nat):w.frozen? ⟨g,i,none⟩=false:=by
 unfold Blk at h;simp[World.frozen?,h]
theorem Blk.new(w:World)(t:TypeId)(d:List Value):Blk (w.alloc (.cells d.toArray t)) w.heap.size t d:=LT w _
theorem Blk.new2(w:World)(o:Obj)(t:TypeId)(d:List Value):Blk ((w.alloc o).alloc (.cells d.toArray t)) (w.heap.size+1) t d:=by
 have h:=Blk.new (w.alloc o) t d;simpa using h
theorem Blk.below{w w':World}{B g:Nat}{t:TypeId}{d:List Value}(h:Blk w g t d)(hb:Below B w w')(z:g<B):Blk w' g t d:=(hb.block g z).trans h
theorem Blk.alloc{w:World}{g:Nat}{t:TypeId}{d:List Value}(h:Blk w g t d)(o:Obj):Blk (w.alloc o) g t d:=(Below.heap_alloc w o g h.lt).trans h
theorem Blk.set_{w:World}{g:Nat}{t:TypeId}{d:List Value}(h:Blk w g t d)(i:Nat)(u:Value):Blk (w.setCell ⟨g,i,none⟩ u) g t (d.set i u):=by
 unfold Blk at h ⊢;simp[World.setCell,aIP,h]
theorem Blk.far{w:World}{g:Nat}{t:TypeId}{d:List Value}(h:Blk w g t d){p:Addr}(z:g≠p.block)(u:Value):Blk (w.setCell p u) g t d:=(aHm w p u g z).trans h
theorem Blk.grown{w w':World}{g:Nat}{t:TypeId}{d:List Value}{row:Option Nat}(h:Blk w g t d)(hb:w.grownBy w' row)(z:some g≠row):Blk w' g t d:=(hb.block g h.lt z).trans h
theorem Blk.drew{w:World}{g:Nat}{t:TypeId}{d:List Value}(h:Blk w g t d):Blk w.drew g t d:=h
def IntsAt(w:World)(B:Nat)(v:Value)(xs:List Int):Prop :=
 ∃ a cap,v=.slice a xs.length cap/\xs.length<=cap/\cap<=9223372036854775807/\Row w B a (xs.map (.int .i64))
theorem IntsAt.later{w w':World}{v:Value}{xs:List Int}(h:IntsAt w w.heap.size v xs)(hb:Below w.heap.size w w'):IntsAt w' w'.heap.size v xs:=by
 obtain⟨a,c,h1,h2,d,t⟩:=h;exact⟨a,c,h1,h2,d,t.later hb⟩
theorem IntsAt.below{w w':World}{B:Nat}{v:Value}{xs:List Int}(h:IntsAt w B v xs)(hb:Below B w w'):IntsAt w' B v xs:=by
 obtain⟨a,c,h1,h2,d,t⟩:=h;exact⟨a,c,h1,h2,d,t.below hb⟩
theorem IntsAt.more{w:World}{B d:Nat}{v:Value}{xs:List Int}(h:IntsAt w B v xs)(hb:B<=d):IntsAt w d v xs:=by
 obtain⟨a,c,h1,h2,t,z⟩:=h;exact⟨a,c,h1,h2,t,z.more hb⟩
def aCx(xs:List Int):Prop:=∀ x∈xs,-9223372036854775808<=x/\x<=9223372036854775807
def RowsAt(w:World)(B:Nat)(vs:List Value)(rows:List (List Int)):Prop :=
 vs.length=rows.length/\∀ (i:Nat) (v:Value) (xs:List Int),vs[i]? = some v->rows[i]? = some xs->IntsAt w B v xs
theorem RowsAt.later{w w':World}{vs:List Value}{rows:List (List Int)}(h:RowsAt w w.heap.size vs rows)(hb:Below w.heap.size w w'):RowsAt w' w'.heap.size vs rows :=
 ⟨h.1,fun i v xs d t=>(h.2 i v xs d t).later hb⟩
theorem RowsAt.below{w w':World}{B:Nat}{vs:List Value}{rows:List (List Int)}(h:RowsAt w B vs rows)(hb:Below B w w'):RowsAt w' B vs rows:=⟨h.1,fun i v xs d t=>(h.2 i v xs d t).below hb⟩
theorem RowsAt.more{w:World}{B d:Nat}{vs:List Value}{rows:List (List Int)}(h:RowsAt w B vs rows)(hb:B<=d):RowsAt w d vs rows:=⟨h.1,fun i v xs t z=>(h.2 i v xs t z).more hb⟩
theorem Row.new(w:World)(t:TypeId)(vs:List Value):Row (w.alloc (.cells vs.toArray t)) (w.heap.size+1) (some ⟨w.heap.size,0,none⟩) vs :=
 fun i v d=>⟨w.heap.size,0,rfl,by omega,by rw[(Blk.new w t vs).cell,aGn];exact d⟩
theorem RowsAt.snoc{w:World}{B:Nat}{vs:List Value}{rows:List (List Int)}{v:Value}{xs:List Int}(h:RowsAt w B vs rows)(z:IntsAt w B v xs):RowsAt w B (vs++[v]) (rows++[xs]):=by
 refine⟨by simp[h.1],fun i u F d t=>?_⟩;rcases aGt i vs.length with h1|h1
 ·rw[aGU h1]at d;rw[aGU (by rw[<-h.1];exact h1)]at t;exact h.2 i u F d t
 ·rw[aGP h1]at d;rw[aGP (by rw[<-h.1];exact h1),<-h.1]at t;rcases aHB (i-vs.length) with h2|h2
  ·rw[h2]at d t;simp at d t;subst d t;exact z
  ·rw[aGr (by simp;omega)]at d;cases d
theorem IntsAt.take{w:World}{B:Nat}{a:Option Addr}{n cap:Nat}{xs:List Int}(h:IntsAt w B (.slice a n cap) xs)(k:Nat)(hk:k<=xs.length):IntsAt w B (.slice a k cap) (xs.take k):=by
 obtain⟨F,G,he,h1,h2,z⟩:=h;injection he with d I t
 subst d t;exact⟨a,cap,by rw[aGB,aHM hk],by rw[aGB];omega,h2,by rw[aI2];exact z.take k⟩
/-! From what an argument looks like to rows. -/
theorem mU(sz:Nat):∀ (d:List (List Value)),(∀ cs∈d,cs.length=sz)->∀ i j,j<sz->d.flatten[i*sz+j]? = d[i]?.bind (·[j]?)
 | [],_,i,j,_=>by simp
 | cs::r,h,i,j,hj=>by
  have t:cs.length=sz:=h cs (by simp);cases i with
  | zero=>simp[List.flatten_cons,List.getElem?_append,t,hj]
  | succ i =>
   have F:=mU sz r (fun c z=>h c (by simp[z])) i j hj;rw[List.flatten_cons,aGP (by rw[t,aJq];omega),t,show (i+1)*sz+j-sz=i*sz+j by rw[aJq];omega,F];simp
theorem yE(sz:Nat):∀ (d:List (List Value)),(∀ cs∈d,cs.length=sz)->d.flatten.length=d.length*sz
 | [],_=>by simp
 | cs::r,h=>by
  rw[List.flatten_cons,aGG,yE sz r (fun c t=>h c (by simp[t])),h cs (by simp),List.length_cons,aJq];omega
theorem aAq{α:Type}(P:Nat->α->Prop):∀ (n:Nat),(∀ i,i<n->∃ x,P i x)->∃ l:List α,l.length=n/\∀ i x,l[i]? = some x->P i x
 | 0,_=>⟨[],rfl,fun i x h=>by simp at h⟩
 | n+1,h=>by
  obtain⟨l,t,z⟩:=aAq P n (fun i hi=>h i (by omega));obtain⟨x,F⟩:=h n (by omega);refine⟨l++[x],by simp[t],fun i y d=>?_⟩;rcases aGt i n with h1|h1
  ·rw[aGU (by omega)]at d;exact z i y d
  ·rw[aGP (by omega)]at d;have:i-l.length=0:=by
    rcases aHB (i-l.length) with h2|h2
    ·exact h2
    ·rw[aGr (by simp;omega)]at d;cases d
   rw[this]at d;simp at d;subst d;have:i=n:=by omega
   subst this;exact F
theorem pH{w:World}{sz:Nat}{e:Ty}{a:Option Addr}{len:Nat}
 (h:∀ i,i<len->∃ (ad:Addr) (t:List Value),a=some ad/\t.length=sz/\(∀ j,j<sz->w.cell? (ad.add (i*sz+j))=t[j]?)/\jY w e t):
  ∃ d:List (List Value),d.length=len/\(∀ F∈d,F.length=sz)/\(∀ F∈d,jY w e F)/\Row w w.heap.size a d.flatten:=by
 obtain⟨d,hl,J⟩:=aAq (fun i (t:List Value)=>∃ ad:Addr,a=some ad/\t.length=sz/\(∀ j,j<sz->w.cell? (ad.add (i*sz+j))=t[j]?)/\jY w e t) len
  (fun i hi=>by obtain⟨ad,t,h1,h2⟩:=h i hi;exact⟨t,ad,h1,h2⟩)
 have V:∀ F∈d,F.length=sz:=fun F U=>by
  obtain⟨i,hi,rfl⟩:=aHz.1 U;obtain⟨_,_,h2,_⟩:=J i _ (TT hi);exact h2
 refine⟨d,hl,V,fun F U=>?_,fun k v hv=>?_⟩
 ·obtain⟨i,hi,rfl⟩:=aHz.1 U;obtain⟨_,_,_,_,h4⟩:=J i _ (TT hi);exact h4
 ·have hk:=(aGi.1 hv).1;rw[yE sz d V]at hk;have Z:0<sz:=by
   rcases aHB sz with G|G
   ·subst G;simp at hk
   ·exact G
  have aA:=aI3 k sz;have hm:=aG6 k Z;have hi:k / sz<d.length:=(aJs Z).2 hk;have O:0<d.length:=aI5 (aG3 _) hi;obtain⟨ad,ha,h2,h3,_⟩:=J (k / sz) _ (TT hi);have aC:=mU sz d V (k / sz) (k % sz) hm;rw[show k / sz*sz+k % sz=k by rw[aH1];exact aA,hv,TT hi]at aC;have z:=h3 (k % sz) hm;rw[show k / sz*sz+k % sz=k by rw[aH1];exact aA]at z;have aJ:d[k / sz][k % sz]? = some v:=by simpa using aC.symm
  rw[aJ]at z;have W:=World.cell?_spot z;have hlt:=aAi z;obtain⟨b,off,aK⟩:=ad;unfold Addr.add at z W hlt
  by_cases G:k=0
  ·subst G;simp at z W hlt;subst W;exact⟨b,off,ha,hlt,by simpa using z⟩
  ·simp[G]at z hlt;obtain⟨aL,I,aM,aE,_⟩:=J 0 _ (TT (by omega));have aG:=aE 0 Z;rw[ha]at I;injection I with I
   subst I;have:w.cell? (Addr.mk b off aK)=(d[0]'O)[0]?:=by simpa[Addr.add] using aG
   have aI:(d[0]'O)[0]? = some ((d[0]'O)[0]'(by omega)):=TT (by omega);rw[aI]at this;have:=World.cell?_spot this;simp at this;subst this;exact⟨b,off,ha,hlt,z⟩
theorem LG{w:World}:∀ (d:List (List Value)),(∀ cs∈d,jY w (.int .i64) cs)->∃ xs:List Int,xs.length=d.length/\d.flatten=xs.map (.int .i64)/\aCx xs
 | [],_=>⟨[],rfl,rfl,fun x h=>by simp at h⟩
 | cs::r,h=>by
  obtain⟨xs,h1,h2,G⟩:=LG r (fun c I=>h c (by simp[I]));obtain⟨n,rfl,z,F⟩:=h cs (by simp);rw[aEQ]at z;rw[aEO]at F;exact⟨n::xs,by simp[h1],by simp[h2],fun x t=>by rcases aGw.1 t with rfl|t;exact⟨z,F⟩;exact G x t⟩
theorem vF{w:World}{d:List Value}(h:jY w (.slice 1 (.int .i64)) d):∃ (v:Value) (xs:List Int),d=[v]/\IntsAt w w.heap.size v xs/\aCx xs:=by
 obtain⟨a,len,cap,rfl,V,G,_,I⟩:=h;obtain⟨z,h1,_,F,t⟩:=pH I;obtain⟨xs,J,O,U⟩:=LG z F;exact⟨_,xs,rfl,⟨a,cap,by rw[J,h1],by omega,G,by rw[O]at t;exact t⟩,U⟩
theorem MK{w:World}:∀ (t:List (List Value)),(∀ cs∈t,jY w (.slice 1 (.int .i64)) cs)->∃ (rows:List (List Int)),rows.length=t.length/\RowsAt w w.heap.size t.flatten rows/\∀ r∈rows,aCx r
 | [],_=>⟨[],rfl,⟨rfl,fun i v xs h=>by simp at h⟩,fun r h=>by simp at h⟩
 | cs::r,h=>by
  obtain⟨rows,h1,h2,F⟩:=MK r (fun c G=>h c (by simp[G]));obtain⟨v,xs,rfl,hi,I⟩:=vF (h cs (by simp));refine⟨xs::rows,by simp[h1],⟨by simp[h2.1],fun i u J z d=>?_⟩,fun y d=>by rcases aGw.1 d with rfl|d;exact I;exact F y d⟩;cases i with
  | zero=>simp at z d;subst z d;exact hi
  | succ i=>exact h2.2 i u J (by simpa using z) (by simpa using d)
theorem OK{w:World}{d:List Value}(h:jY w (.slice 1 (.slice 1 (.int .i64))) d):
  ∃ (a:Option Addr) (cap:Nat) (vs:List Value) (rows:List (List Int)),d=[.slice a rows.length cap]/\rows.length<=cap/\cap<=9223372036854775807/\Row w w.heap.size a vs/\RowsAt w w.heap.size vs rows/\∀ r∈rows,aCx r:=by
 obtain⟨a,len,cap,rfl,V,G,_,I⟩:=h;obtain⟨t,h1,_,z,F⟩:=pH I;obtain⟨rows,J,O,U⟩:=MK t z;exact⟨a,cap,t.flatten,rows,by rw[J,h1],by omega,G,F,O,U⟩
/-! Worlds that grew out of one: the class over which a statement that draws its order is walked once. -/
def GW(W:World):Type:={ w':World // Below W.heap.size W w' }
instance gwNonempty (W:World):Nonempty (GW W):=⟨⟨W,aGj _ _⟩⟩
theorem bY{P:Program}{f:FuncId}{args:Array Value}{W:World}{x:GW W}{v:Value}(h:Calls P f args x.1 fun e w'=>e=.returned v/\Below x.1.heap.size x.1 w'):
  Calls P f args x.1 fun e d=>e=.returned v/\∃ y:GW W,d=y.1 :=
 h.mono fun _ w' ⟨he,hb⟩=>⟨he,⟨w',aC x.2 hb⟩,rfl⟩
theorem dA{P:Program}{f:FuncId}{args:Array Value}{W:World}{x:GW W}{v:Value}(h:Calls P f args x.1 fun e w'=>e=.returned v/\x.1=w'):
  Calls P f args x.1 fun e d=>e=.returned v/\∃ y:GW W,d=y.1 :=
 h.mono fun _ _ ⟨he,hb⟩=>⟨he,x,hb.symm⟩
theorem DQ{W:World}(x:GW W){p:Addr}(h:p.block<W.heap.size):x.1.cell? p=W.cell? p:=x.2.cell h
theorem aU{P:Program}{id:Nat}{Q:Exit->Act->World->Prop}{a:Act}{w:World}{l:List Oper}(hm:P.follows .mixedOrders=true)(t:Region.lexB .any l.toArray=true)
 (h:wpQuiet P l.toArray (fun w'=>∃ x:GW w,w'=x.1) (fun d=>∀ w',(∃ x:GW w,w'=x.1)->Q .normal d w') l a):(Code.region id l.toArray true).wp P Q a w :=
 wp_region_quiet (C:=fun w'=>∃ x:GW w,w'=x.1) hm t ⟨⟨_,(aGj w.heap.size w).drew⟩,rfl⟩ (by simpa using h)
/-! append onto a row of the call's own, whatever the source (nil, empty, or not). -/
section
variable {P : Program} (w : World)
theorem xA(base:Nat)(t ty e:TypeId)(i:TypeInfo)(size:Nat)(ht:P.underlying t=some (.slice e))(hi:P.info? e=some i)
 (v:Value)(n:Nat)(xs:List Value)(h:w.ownsRow base e size v n xs)(c:Nat):(Builtin.append_ #[t,t] ty #[v,.slice none 0 c]).run P w=.ok v w:=by
 rcases h.2 with ⟨rfl,rfl⟩|⟨g,cap,z,rfl,_,_,d,_⟩
 ·simp[Builtin.append_,aIz ht,sizeOf,typeInfo,hi,Builtin.lenOf,Builtin.firstCells]
 ·simp[Builtin.append_,aIz ht,sizeOf,typeInfo,hi,Builtin.lenOf,Builtin.firstCells,d,storeCells]
theorem OS(base:Nat)(t ty e:TypeId)(i:TypeInfo)(z:Value)(size bytes:Nat)(ht:P.underlying t=some (.slice e))(hi:P.info? e=some i)(hz:i.zero=some z)
 (aJ:i.size=size)(aE:i.bytes=bytes)(aM:z.cells.size=size)(Z:0<size)
 (v:Value)(n:Nat)(xs:List Value)(J:w.ownsRow base e size v n xs)
 (B:Nat)(A:Option Addr)(m c:Nat)(G:List Value)(V:G.length=m*size)(W:Row w B A G)(h1:∀ u∈G,u.oneCell'=true)
 (aC:n+m<=9223372036854775807)(aF:(n+m)*bytes<=140737488355328)(aD:base<=w.heap.size):
  ∃ F d w',(Builtin.append_ #[t,t] ty #[v,.slice A m c]).run P w=.ok (.slice F (n+m) d) w'/\w'.ownsRow base e size (.slice F (n+m) d) (n+m) (xs++G)/\w.grownBy w' v.ownBlock /\
   ((Value.slice F (n+m) d).ownBlock=v.ownBlock\/(Value.slice F (n+m) d).ownBlock=some w.heap.size)/\n+m<=d:=by
 rcases A with _|ad
 ·have hn:G=[]:=by
   cases G with
   | nil=>rfl
   | cons x r=>obtain⟨b,off,h,_⟩:=W 0 x rfl;cases h
  subst hn;have hm:m=0:=by
   rcases aHB m with O|O
   ·exact O
   ·have:=Nat.mul_pos O Z;simp at V;omega
  subst hm;obtain⟨F,d,rfl,I,_⟩:=jK J;exact⟨F,d,w,xA w base t ty e i size ht hi _ n xs J c,by simpa using J,⟨rfl,rfl,rfl,LE _,fun _ _ _=>rfl⟩,.inl rfl,I⟩
 ·have aG:∀ j u,G[j]? = some u->w.cell? (ad.add j)=some u:=by
   intro j u hu;obtain⟨b,off,h,_,I⟩:=W j u hu;injection h with h
   subst h;unfold Addr.add
   by_cases U:j=0
   ·subst U;simpa using I
   ·simp[U];exact I
  obtain⟨v',w',aI,h2,h3,_,h5⟩:=run_append_own_at (P:=P) w base t ty e i z size bytes ht hi hz aJ aE aM Z v n xs J ad m c G V aG h1 aC aF aD;obtain⟨F,d,rfl,I,_⟩:=jK h2;exact⟨F,d,w',aI,h2,h3,h5,I⟩
theorem cF{ops:Array Oper}{rest:List Oper}{o:Oper}{a:Act}{Q:Exit->Act->World->Prop}(aB:o.guard=none)(s x:Operand)(t:TypeId)
 (ho:o.op=.call { callee:=.builtin .append,args:=#[s,x],argTypes:=#[t,t] })
 (base:Nat)(e:TypeId)(i:TypeInfo)(z:Value)(size bytes:Nat)(ht:P.underlying t=some (.slice e))(hi:P.info? e=some i)(hz:i.zero=some z)
 (aI:i.size=size)(Z:i.bytes=bytes)(aM:z.cells.size=size)(aJ:0<size)
 (v:Value)(n:Nat)(xs:List Value)(hs:a.eval s=v)(aE:w.ownsRow base e size v n xs)
 (B:Nat)(A:Option Addr)(m c:Nat)(G:List Value)(hx:a.eval x=.slice A m c)(hl:G.length=m*size)(hr:Row w B A G)(h1:∀ u∈G,u.oneCell'=true)
 (U:n+m<=9223372036854775807)(aA:(n+m)*bytes<=140737488355328)(W:base<=w.heap.size)
 (h:∀ F d w',w'.ownsRow base e size (.slice F (n+m) d) (n+m) (xs++G)->w.grownBy w' v.ownBlock ->
   ((Value.slice F (n+m) d).ownBlock=v.ownBlock\/(Value.slice F (n+m) d).ownBlock=some w.heap.size)->n+m<=d->wpList P ops Q rest (a.put o.dst (.slice F (n+m) d)) w'):
  wpList P ops Q (o::rest) a w:=by
 refine wpList_plain aB fun K V=>?_
 obtain⟨F,d,w',aG,h2,I,J,O⟩:=OS (P:=P) w base t o.type e i z size bytes ht hi hz aI Z aM aJ v n xs aE B A m c G hl hr h1 U aA W;unfold Oper.wp execOp;simp only[ho,resolve,invoke,builtin,aHS,Sem.run_pure,Result.andThen_ok,List.map_toArray,aHF,aIH,hs,hx,aG];exact V _ _ (h F d w' h2 I J O)
end
theorem SK{B:Nat}{a w w':World}{v:Value}(h:Below B a w)(t:w.grownBy w' v.ownBlock)(d:B<=w.heap.size)(z:∀ k,v.ownBlock=some k->B<=k):Below B a w':=h.grown t d z
theorem bO{w:World}{base:Nat}{e:TypeId}{size n:Nat}{v:Value}{xs:List Value}(h:w.ownsRow base e size v n xs):∀ k,v.ownBlock=some k->base<=k:=by
 intro k hk;rcases h.2 with ⟨rfl,_⟩|⟨g,cap,d,rfl,hb,_⟩
 ·simp[Value.ownBlock]at hk
 ·have:g=k:=by simpa[Value.ownBlock] using hk
  omega
end
section
open Go.Lib (hid)
open Go.RowKit
def dD:List (List Int)->Nat
 | []=>0
 | r::_=>r.length
def inS(x:Int):Bool:=decide (-32768<=x)&&decide (x<=32767)
def vG(n:Nat)(r:List Int):Bool:=decide (r.length=n)
def ES(r:List Int):Bool:=r.all inS
def j2(nm:ByteArray)(rate:Int)(lp:Bool)(f t:Int)(rows:List (List Int)):Int :=
 if dY nm=false then 10 else if rate<1\/192000<rate then 14
 else if rows.length<1\/2<rows.length\/dD rows<1\/1048576<dD rows then 12
 else if lK lp f t (dD rows)=false then 13
 else if rows.all (vG (dD rows))=false then 12
 else if rows.all ES=false then 5 else 0
theorem pT{w:World}{B:Nat}{a:Option Addr}{vs:List Value}{rows:List (List Int)}(I:Row w B a vs)(hm:RowsAt w B vs rows){k:Nat}{xs:List Int}(hk:rows[k]? = some xs):
  ∃ b off h d,a=some ⟨b,off,none⟩/\b<B/\w.cell? ⟨b,off+k,none⟩=some (.slice h xs.length d)/\xs.length<=d/\d<=9223372036854775807/\Row w B h (xs.map (.int .i64)):=by
 have G:=(aGi.1 hk).1;obtain⟨v,t⟩:∃ v,vs[k]? = some v:=⟨_,TT (by rw[hm.1];exact G)⟩;obtain⟨h,d,rfl,h1,h2,z⟩:=hm.2 k v xs t hk;obtain⟨b,off,ha,hb,F⟩:=I k _ t;exact⟨b,off,h,d,ha,hb,F,h1,h2,z⟩
theorem vU(nm:ByteArray)(rate:Int)(lp:Bool)(f t:Int)(a:Option Addr)(cap:Nat)(vs:List Value)(rows:List (List Int))(w:World)(R:Nat)(hR:rows.length=R)(h:Row w w.heap.size a vs)(hm:RowsAt w w.heap.size vs rows):
  Calls prog 88 #[.agg #[.string nm,.int .i64 rate,.bool lp,.int .i64 f,.int .i64 t,.slice a R cap]] w
   fun e w'=>e=.returned (.int .i64 (dD rows))/\Below w.heap.size w w':=by
 subst hR;cases rows with
 | nil =>
  go_enter func88,ntmps88;go_wp2
  go_ret
  exact⟨rfl,aP _ _⟩
 | cons r rs =>
  obtain⟨b,off,z,F,rfl,hb,d,_,_,_⟩:=pT h hm (k:=0) (xs:=r) rfl;rw[Nat.add_zero]at d;have I:=World.new_ne w _ d;have h1:((rs.length+1:Nat):Int)≠0:=by omega
  have h2:(((r::rs).length:Int) == 0)=false:=aG8.2 (by rw[List.length_cons];omega);have G:(0:Int)<((r::rs).length:Int):=by rw[List.length_cons];omega
  clear h hm;generalize (r::rs).length=R at *
  go_enter func88,ntmps88;go_wp2
  go_ret
  exact⟨rfl,aP _ _⟩
theorem NO{nm:ByteArray}{rate:Int}{lp:Bool}{f t:Int}{rows:List (List Int)}
 (h:¬ (dY nm=true/\1<=rate/\rate<=192000/\1<=rows.length/\rows.length<=2/\1<=dD rows/\dD rows<=1048576/\lK lp f t (dD rows)=true)):
  (dY nm=false/\j2 nm rate lp f t rows=10)\/(dY nm=true/\(rate<1\/192000<rate)/\j2 nm rate lp f t rows=14) \/
  (dY nm=true/\1<=rate/\rate<=192000/\(rows.length<1\/2<rows.length\/dD rows<1\/1048576<dD rows)/\j2 nm rate lp f t rows=12) \/
  (dY nm=true/\1<=rate/\rate<=192000/\1<=rows.length/\rows.length<=2/\1<=dD rows/\dD rows<=1048576/\lK lp f t (dD rows)=false/\j2 nm rate lp f t rows=13):=by
 unfold j2;cases h1:dY nm
 ·simp
 ·by_cases h2:rate<1\/192000<rate
  ·simp[h2]
  ·by_cases d:rows.length<1\/2<rows.length\/dD rows<1\/1048576<dD rows
   ·rw[sL (by simp),sL h2,FN d];exact .inr (.inr (.inl ⟨rfl,by omega,by omega,d,rfl⟩))
   ·cases z:lK lp f t (dD rows)
    ·rw[sL (by simp),sL h2,sL d,FN rfl];exact .inr (.inr (.inr ⟨rfl,by omega,by omega,by omega,by omega,by omega,by omega,rfl,rfl⟩))
    ·exact absurd ⟨h1,by omega,by omega,by omega,by omega,by omega,by omega,z⟩ h
theorem QY{nm:ByteArray}{rate:Int}{lp:Bool}{f t:Int}{rows:List (List Int)}
 (h:dY nm=true/\1<=rate/\rate<=192000/\1<=rows.length/\rows.length<=2/\1<=dD rows/\dD rows<=1048576/\lK lp f t (dD rows)=true):
  j2 nm rate lp f t rows=if rows.all (vG (dD rows))=false then 12 else if rows.all ES=false then 5 else 0:=by
 obtain⟨h1,h2,z,F,G,I,J,d⟩:=h;unfold j2;rw[h1,d,sL (by simp),sL (by omega),sL (by omega),sL (by simp)]
theorem aAF(nm:ByteArray)(rate:Int)(lp:Bool)(f t:Int)(a:Option Addr)(cap:Nat)(vs:List Value)(rows:List (List Int))(w:World)(Z:Row w w.heap.size a vs)(hm:RowsAt w w.heap.size vs rows)(aE:rows.length<=9223372036854775807) :
  Calls prog 137 #[.agg #[.string nm,.int .i64 rate,.bool lp,.int .i64 f,.int .i64 t,.slice a rows.length cap]] w
   fun e w'=>e=.returned (.int .i64 (j2 nm rate lp f t rows))/\Below w.heap.size w w':=by
 by_cases hall:dY nm=true/\1<=rate/\rate<=192000/\1<=rows.length/\rows.length<=2/\1<=dD rows/\dD rows<=1048576/\lK lp f t (dD rows)=true
 ·have HZ:=hid (QY hall);obtain⟨h1,h2,h3,h4,h5,h6,h7,U⟩:=hall;have d:=hid h1;have H8:=hid U;clear h1 U;generalize j2 nm rate lp f t rows=z at *
  obtain⟨N,J⟩:∃ N,dD rows=N:=⟨_,rfl⟩;have h:=hid J;clear J;obtain⟨R,hR⟩:∃ R,rows.length=R:=⟨_,rfl⟩;rw[h.out]at h6 h7 H8;rw[hR]at h4 h5 ⊢;have F:=hid hR;have hq:=aE;clear hR aE hq
  go_enter func137,ntmps137;go_wp2_with (first|(go_at_call 88;refine (vU _ _ _ _ _ _ _ vs rows _ R F.out (Z.later (aP _ _)) (hm.later (aP _ _))).mono ?_;rintro e w1 ⟨rfl,hb⟩;rw[h.out];have c0:=hb.cell (p:=⟨w.heap.size,0,none⟩) (by simp);have c1:=hb.cell (p:=⟨w.heap.size,1,none⟩) (by simp);have c2:=hb.cell (p:=⟨w.heap.size,2,none⟩) (by simp);have c3:=hb.cell (p:=⟨w.heap.size,3,none⟩) (by simp);have c4:=hb.cell (p:=⟨w.heap.size,4,none⟩) (by simp);have c5:=hb.cell (p:=⟨w.heap.size,5,none⟩) (by simp))|(go_at_call 167;refine (vT _ _).mono ?_;rintro e w' ⟨rfl,rfl⟩;rw[d.out])|(go_at_call 168;refine (r9 _ _ _ _ _).mono ?_;rintro e w' ⟨rfl,rfl⟩;rw[H8.out]))
  have aW:=(Z.later (aP _ (.cells #[.string nm,.int .i64 rate,.bool lp,.int .i64 f,.int .i64 t,.slice a R cap] 119))).later hb;have aU:=(hm.later (aP _ (.cells #[.string nm,.int .i64 rate,.bool lp,.int .i64 f,.int .i64 t,.slice a R cap] 119))).later hb;have hB:=hid (aC (aP w (.cells #[.string nm,.int .i64 rate,.bool lp,.int .i64 f,.int .i64 t,.slice a R cap] 119)) hb);clear Z hm hb;have Hr:=hid aW;have Hm:=hid aU;clear aW aU
  go_loop [58] (fun i=>∃ k:Nat,k<=R/\i=.int .i64 k/\(rows.take k).all (vG N)=true) (fun i=>R-(intOf i).toNat)
  case atStart=>exact⟨0,aG3 _,rfl,by simp⟩
  case round =>
   obtain⟨k,hk,rfl,W⟩:=hrel;have I:=hid W;clear W
   by_cases hlt:k<R
   ·obtain⟨xs,G⟩:∃ xs,rows[k]? = some xs:=⟨_,TT (by rw[F.out];exact hlt)⟩;obtain⟨b,off,a',c',rfl,_,hc,bC,bD,_⟩:=pT Hr.out Hm.out G;have O:=hid G;clear G
    by_cases V:xs.length=N
    ·have bA:((xs.length:Int) != (N:Int))=false:=by simp[V]
     have Hn:=hid V;clear V;go_wp2
     go_round
     case rel=>exact⟨k+1,by omega,by go_num,by rw[gC _ O.out,I.out];simp[vG,Hn.out]⟩
     case measure=>simp[intOf];omega
    ·have bA:((xs.length:Int) != (N:Int))=true:=by rw[aHk];omega
     have Hn:=hid V;clear V;go_wp2
     go_ret
     refine⟨cL ?_,hB.out⟩;rw[HZ.out,h.out,FN (jR (vG N) O.out (by simp[vG,Hn.out]))]
   ·have aM:=hid (gY (vG N) (by rw[F.out];omega) I.out);go_wp2
    go_loop [70] (fun i=>∃ k:Nat,k<=R/\i=.int .i64 k/\(rows.take k).all ES=true) (fun i=>R-(intOf i).toNat)
    case atStart=>exact⟨0,aG3 _,rfl,by simp⟩
    case round =>
     clear hlt hk I;obtain⟨k,hk,rfl,W⟩:=hrel;have I:=hid W;clear W
     by_cases hlt:k<R
     ·obtain⟨xs,G⟩:∃ xs,rows[k]? = some xs:=⟨_,TT (by rw[F.out];exact hlt)⟩;obtain⟨b,off,a',c',rfl,_,hc,bC,bD,aX⟩:=pT Hr.out Hm.out G;have O:=hid G;have a0:=hid aX;clear G aX;go_wp2
      go_loop [76] (fun j=>∃ m:Nat,m<=xs.length/\j=.int .i64 m/\(xs.take m).all inS=true) (fun j=>xs.length-(intOf j).toNat)
      case atStart=>exact⟨0,aG3 _,rfl,by simp⟩
      case round =>
       obtain⟨m,hm,rfl,aV⟩:=hrel;have aN:=hid aV;clear aV
       by_cases bE:m<xs.length
       ·obtain⟨x,hx⟩:∃ x,xs[m]? = some x:=⟨_,TT bE⟩;obtain⟨b',bL,rfl,_,bH⟩:=a0.out m (.int .i64 x) (by simp[hx]);have Hx:=hid hx;clear hx
        by_cases aJ:-32768<=x/\x<=32767
        ·have h1:inS x=true:=by unfold inS;simp[aJ]
         have d:=hid h1;clear h1;obtain⟨bJ,bK⟩:=aJ;go_wp2
         go_round
         case rel=>exact⟨m+1,by omega,by go_num,by rw[gC _ Hx.out,aN.out,d.out];rfl⟩
         case measure=>simp[intOf];omega
        ·have h1:inS x=false:=by unfold inS;simp;omega
         have d:=hid h1;clear h1;have bI:x < -32768\/32768<=x:=by omega
         clear aJ;go_wp2
         all_goals
          go_ret
          refine⟨cL ?_,hB.out⟩;rw[HZ.out,h.out,sL (by rw[aM.out];simp),FN (jR ES O.out (jR inS Hx.out d.out))]
       ·have a1:=hid (gY inS (by omega) aN.out);go_wp2
        go_round
        case rel=>exact⟨k+1,by omega,by go_num,by rw[gC _ O.out,I.out];exact a1.out⟩
        case measure=>simp[intOf];omega
     ·have aZ:=hid (gY ES (by rw[F.out];omega) I.out);go_wp2
      go_ret
      refine⟨cL ?_,hB.out⟩;rw[HZ.out,h.out,sL (by rw[aM.out];simp),sL (by rw[aZ.out];simp)]
 ·have hz:=NO hall;generalize j2 nm rate lp f t rows=z at *
  obtain⟨N,J⟩:∃ N,dD rows=N:=⟨_,rfl⟩;obtain⟨R,hR⟩:∃ R,rows.length=R:=⟨_,rfl⟩;rw[J,hR]at hz;have h:=hid J;clear J;rw[hR];have F:=hid hR;have hq:=aE;clear hR aE hq hall
  have Hr:=hid Z;have Hm:=hid hm;clear Z hm;rcases hz with ⟨h1,rfl⟩|⟨h1,h2,rfl⟩|⟨h1,h2,h3,h4,rfl⟩|⟨h1,h2,h3,h4,h5,h6,h7,U,rfl⟩
  all_goals
   have d:=hid h1;clear h1
   try have H8:=hid U
   try clear U
   go_enter func137,ntmps137;go_wp2_with (first|(go_at_call 88;refine (vU _ _ _ _ _ _ _ vs rows _ R F.out (Hr.out.later (aP _ _)) (Hm.out.later (aP _ _))).mono ?_;rintro e w1 ⟨rfl,hb⟩;rw[h.out];have c0:=hb.cell (p:=⟨w.heap.size,0,none⟩) (by simp);have c1:=hb.cell (p:=⟨w.heap.size,1,none⟩) (by simp);have c2:=hb.cell (p:=⟨w.heap.size,2,none⟩) (by simp);have c3:=hb.cell (p:=⟨w.heap.size,3,none⟩) (by simp);have c4:=hb.cell (p:=⟨w.heap.size,4,none⟩) (by simp);have c5:=hb.cell (p:=⟨w.heap.size,5,none⟩) (by simp))|(go_at_call 167;refine (vT _ _).mono ?_;rintro e w' ⟨rfl,rfl⟩;rw[d.out])|(go_at_call 168;refine (r9 _ _ _ _ _).mono ?_;rintro e w' ⟨rfl,rfl⟩;rw[H8.out]))
   all_goals (go_ret;exact⟨rfl,aC (aP _ _) hb⟩)
end
end Go.Proofs.YtbpgfkjhclpbdaaGreatDoor
