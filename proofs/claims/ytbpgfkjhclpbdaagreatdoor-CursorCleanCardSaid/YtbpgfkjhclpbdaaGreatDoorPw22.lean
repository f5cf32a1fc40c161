/- CodeT. Conditions: as each theorem states. -/
import Derived.Great.BuildSlice
import Derived.Test.YtbpgfkjhclpbdaaGreatDoorPw20
namespace Go.Proofs.YtbpgfkjhclpbdaaGreatDoor
open Tryz
open Go.RowKit
section
variable {P : Program}
theorem gT{ops:Array Oper}{rest:List Oper}{o:Oper}{a:Act}{w:World}{Q:Exit->Act->World->Prop}(V:o.guard=none)(t e:TypeId)(x:Operand)(Z:o.op=.buildSlice t 1 #[(0,x)])
 (F:TypeInfo)(z:Value)(s:Nat)(hu:P.underlying t=some (.slice e))(W:P.info? e=some F)(hz:F.zero=some z)(G:F.size=s)(O:0<s)(aC:s<=1000000)(d:Array Value)(J:(a.eval x).cells=d)(U:d.size=s)
 (h:wpList P ops Q rest (a.put o.dst (.slice (some ⟨w.heap.size,0,none⟩) 1 1)) (w.alloc (.cells d e))):wpList P ops Q (o::rest) a w:=by
 refine wpList_buildSlice V t e 1 #[(0,x)] Z d F z hu W hz (by rw[G];omega) (by rw[G];omega) ?_ h;rw[G];have:=Great.fill_whole (s:=s) O [a.eval x] ((Array.range (1*s)).map (z.cells[· % z.cells.size]!)) (fun v I=>by rw[aGx]at I;rw[I,J,U]) (by simp);simpa[J] using this
end
theorem K5{α:Type}{sz:Nat}:∀ (t:List (List α)),(∀ F∈t,F.length=sz)->∀ (i j:Nat),j<sz->t.flatten[i*sz+j]? = t[i]?.bind (·[j]?)
 | [],_,i,j,_=>by simp
 | d::r,h,i,j,hj=>by
  have z:=h d (by simp);cases i with
  | zero=>rw[List.flatten_cons,aIk,aGn,aGU (by omega)];rfl
  | succ i =>
   rw[List.flatten_cons,aGP (by rw[z,aHb];omega),z,show (i+1)*sz+j-sz=i*sz+j by rw[aHb];omega,K5 r (fun x G=>h x (by simp[G])) i j hj]
   rfl
structure FrH where
 a:Option Addr
 c:Nat
def frC(p:FrH × aFJ):List Value:=p.2.cells (.slice p.1.a p.2.tones.length p.1.c)
theorem jT{p:FrH × aFJ}(h:p.2.Len):(frC p).length=29:=aFJ.cells_len h _
def iA(L:List (FrH × aFJ)):List Value:=(L.map frC).flatten
theorem yH(L:List (FrH × aFJ))(p:FrH × aFJ):iA (L++[p])=iA L++frC p:=by simp[iA]
theorem BT{L:List (FrH × aFJ)}(hL:∀ p∈L,p.2.Len){k j:Nat}{p:FrH × aFJ}(hk:L[k]? = some p)(h:j<29):(iA L)[k*29+j]? = (frC p)[j]?:=by
 unfold iA;rw[K5 (L.map frC) (fun z d=>by obtain⟨q,t,rfl⟩:=aGq.1 d;exact jT (hL q t)) k j h,aF5,hk]
 rfl
def Tones(w:World)(p:FrH × aFJ):Prop:=p.2.tones.length<=p.1.c/\p.1.c<=9223372036854775807/\Row w w.heap.size p.1.a (aV p.2.tones)
theorem Tones.later{w w':World}{p:FrH × aFJ}(h:Tones w p)(hb:Below w.heap.size w w'):Tones w' p:=⟨h.1,h.2.1,h.2.2.later hb⟩
structure aF0(w:World)(A:Option Addr)(L:List (FrH × aFJ)):Prop where
 row:Row w w.heap.size A (iA L)
 len:∀ p∈L,p.2.Len
 tones:∀ p∈L,Tones w p
theorem aF0.later{w w':World}{A:Option Addr}{L:List (FrH × aFJ)}(h:aF0 w A L)(hb:Below w.heap.size w w'):aF0 w' A L:=⟨h.row.later hb,h.len,fun p d=>(h.tones p d).later hb⟩
theorem FY{w:World}{A:Option Addr}{L:List (FrH × aFJ)}(h:aF0 w A L){k:Nat}{p:FrH × aFJ}(hk:L[k]? = some p):
  ∃ b off,A=some ⟨b,off,none⟩/\b<w.heap.size/\∀ j v,(frC p)[j]? = some v->w.cell? ⟨b,off+k*29+j,none⟩=some v:=by
 have t:=h.len p (aGh hk);have I:0<(frC p).length:=by rw[jT t];decide
 obtain⟨b,off,hA,hb,_⟩:=h.row (k*29+0) (frC p)[0] (by rw[BT h.len hk (by decide)];exact TT I);refine⟨b,off,hA,hb,fun j v z=>?_⟩;have O:j<29:=by have:=(aGi.1 z).1;rw[jT t]at this;exact this
 obtain⟨U,V,d,_,J⟩:=h.row (k*29+j) v (by rw[BT h.len hk O];exact z);rw[hA]at d;injection d with d
 injection d with F G
 subst F G;rw[aG4];exact J
def FrStands(w:World)(row:Option Nat)(p:FrH × aFJ):Prop:=Tones w p/\(p.2.tones=[]\/∃ g,p.1.a=some ⟨g,0,none⟩/\row≠some g/\g<w.heap.size)
theorem FrStands.below{w w':World}{row:Option Nat}{p:FrH × aFJ}(h:FrStands w row p)(hb:Below w.heap.size w w'):FrStands w' row p :=
 ⟨h.1.later hb,h.2.imp id fun ⟨g,h1,h2,d⟩=>⟨g,h1,h2,aGM d hb.size⟩⟩
theorem FrStands.grown{w w':World}{row z:Option Nat}{p:FrH × aFJ}(h:FrStands w row p)(t:w.grownBy w' row)(U:z=row\/z=some w.heap.size):FrStands w' z p:=by
 obtain⟨⟨h1,h2,J⟩,d⟩:=h;rcases d with d|⟨g,F,G,I⟩
 ·exact⟨⟨h1,h2,by rw[d];exact Row.none_ _ _ _⟩,.inl d⟩
 ·refine⟨⟨h1,h2,fun i v V=>?_⟩,.inr ⟨g,F,?_,aGM I t.size⟩⟩
  ·obtain⟨b,off,ha,hb,O⟩:=J i v V;refine⟨b,off,ha,aGM hb t.size,?_⟩;rw[aH5 (w:=w) (t.block b hb (fun he=>by
    rw[F]at ha;injection ha with ha
    injection ha with ha
    subst ha;exact G he.symm))]
   exact O
  ·rcases U with rfl|rfl
   ·exact G
   ·intro he;injection he with he;omega
theorem FrStands.aside{w V:World}{row:Option Nat}{gF:Nat}{p:FrH × aFJ}(h:FrStands w row p)(U:∀ g,p.1.a=some ⟨g,0,none⟩->p.2.tones≠[]->g≠gF)(z:w.grownBy V (some gF)):FrStands V row p:=by
 obtain⟨⟨h1,h2,I⟩,t⟩:=h
 by_cases ht:p.2.tones=[]
 ·exact⟨⟨h1,h2,by rw[ht];exact Row.none_ _ _ _⟩,.inl ht⟩
 ·rcases t with t|⟨g,d,F,G⟩
  ·exact absurd t ht
  ·have O:=U g d ht;refine⟨⟨h1,h2,fun i v W=>?_⟩,.inr ⟨g,d,F,aGM G z.size⟩⟩;obtain⟨b,off,ha,hb,J⟩:=I i v W;refine⟨b,off,ha,aGM hb z.size,?_⟩;rw[aH5 (w:=w) (z.block b hb (fun he=>by
    rw[d]at ha;injection ha with ha
    injection ha with ha
    subst ha;injection he with he
    exact O he))]
   exact J
theorem FrStands.block{w:World}{row:Option Nat}{p:FrH × aFJ}(h:FrStands w row p):∀ g,p.1.a=some ⟨g,0,none⟩->p.2.tones≠[]->g<w.heap.size:=fun g h1 h2=>by
 rcases h.2 with z|⟨F,d,_,t⟩
 ·exact absurd z h2
 ·rw[h1]at d;injection d with d
  injection d with d
  rw[d];exact t
theorem aBp{w:World}(g:Nat)(d:Array Value):w.grownBy (w.setRow g d) (some g):=⟨rfl,rfl,rfl,by simp,fun k _ hk=>aHy w g k _ (fun e=>hk (by rw[e]))⟩
theorem wT{w:World}{base:Nat}{e:TypeId}{size n:Nat}{v:Value}{xs:List Value}(h:w.ownsRow base e size v n xs):∀ k,v.ownBlock=some k->k<w.heap.size:=by
 intro k hk;rcases h.2 with ⟨rfl,_⟩|⟨g,cap,d,rfl,hb,hh,_⟩
 ·simp[Value.ownBlock]at hk
 ·have e:g=k:=by simpa[Value.ownBlock] using hk
  subst e;exact hlt hh
theorem vM:∀ (l:List aFP),(aV l).length=2*l.length
 | []=>rfl
 | t::r=>by
  have:=vM r;unfold aV at *
  simp only[aHF,List.flatten_cons,aGG,this,List.length_cons];simp[aFP.cells];omega
theorem xF{w w':World}{row:Option Nat}{A:Option Addr}{c:Nat}{f:aFJ}(h1:f.tones.length<=c)(h2:c<=9223372036854775807)(z:Row w' w'.heap.size A (aV f.tones))(h:f.tones=[]\/∃ g,A=some ⟨g,0,none⟩/\w.heap.size<=g)(F:∀ k,row=some k->k<w.heap.size):FrStands w' row (⟨A,c⟩,f):=by
 refine⟨⟨h1,h2,z⟩,?_⟩
 by_cases ht:f.tones=[]
 ·exact .inl ht
 ·rcases h with h|⟨g,t,I⟩
  ·exact absurd h ht
  ·refine .inr ⟨g,t,fun he=>?_,?_⟩
   ·have:=F _ he;omega
   ·have G:0<(aV f.tones).length:=by
     rw[vM];have:=List.length_pos_iff.2 ht;omega
    obtain⟨b,off,ha,hb,_⟩:=z 0 _ (TT G);have d:=t.symm.trans ha;injection d with d
    injection d with d
    show g<w'.heap.size;rw[d];exact hb
theorem lH(p:FrH × aFJ):∀ u∈frC p,u.oneCell'=true:=by
 intro u d;have gO:∀ (l:List Int),∀ u∈l.map (Value.int .i64),u.oneCell'=true:=fun l u d=>by
  obtain⟨y,_,rfl⟩:=aGq.1 d
  rfl
 unfold frC aFJ.cells at d;simp only[aGJ,aGw]at d;rcases d with h|rfl|h|h|h
 ·exact gO _ u h
 ·rfl
 ·exact gO _ u h
 ·exact gO _ u h
 ·exact gO _ u h
def VS(W:World)(fs:List aFJ)(e:Ending)(w':World):Prop :=
 ∃ A c L,e=.returned (.tuple #[.slice A (List.length L) c,.int .i64 0])/\List.map Prod.snd L=fs/\List.length L<=c/\c<=9223372036854775807/\aF0 w' A L/\Below W.heap.size W w'
theorem tE:∃ i,prog.info? 45=some i/\(∃ z,i.zero=some z/\z.cells.size=29)/\i.size=29/\i.bytes=248:=by
 have h:(prog.info? 45).map (fun i=>(i.zero.map (fun z=>z.cells.size),i.size,i.bytes))=some (some 29,29,248):=by kernel_rfl
 cases hi:prog.info? 45 with
 | none=>rw[hi]at h;cases h
 | some i =>
  rw[hi]at h;simp only[Option.map_some,aIN,aI7]at h;obtain⟨z,d,t⟩:=aIM.1 h.1;exact⟨i,rfl,⟨z,d,t⟩,h.2.1,h.2.2⟩
end Go.Proofs.YtbpgfkjhclpbdaaGreatDoor
