/- CodeT. Conditions: as each theorem states. -/
import Derived.Great.BuildSlice
import Derived.Test.YtnbbfblaipjcmaaGreatDoorPv19
import Derived.Test.YtnbbfblaipjcmaaGreatDoorPv20
namespace Go.Proofs.YtnbbfblaipjcmaaGreatDoor
open Go.RowKit
section
variable {P : Program}
theorem jC {ops:Array Oper} {rest:List Oper} {o:Oper} {a:Act} {w:World} {Q:Exit->Act->World->Prop} (hg:o.guard=none) (t e:TypeId) (x:Operand) (ho:o.op=.buildSlice t 1 #[(0,x)])
  (ie:TypeInfo) (z:Value) (s:Nat) (hu:P.underlying t=some (.slice e)) (hie:P.info? e=some ie) (hz:ie.zero=some z) (hs:ie.size=s) (h0:0 < s) (hs2:s<=1000000) (cs:Array Value) (hx:(a.eval x).cells=cs) (hcs:cs.size=s)
  (h:wpList P ops Q rest (a.put o.dst (.slice (some ⟨w.heap.size,0,none⟩) 1 1)) (w.alloc (.cells cs e))):wpList P ops Q (o :: rest) a w:=by
 refine wpList_buildSlice hg t e 1 #[(0,x)] ho cs ie z hu hie hz (by rw [hs]; omega) (by rw [hs]; omega) ?_ h
 rw [hs]
 have:=Great.fill_whole (s:=s) h0 [a.eval x] ((Array.range (1*s)).map (z.cells[· % z.cells.size]!)) (fun v hv=>by rw [List.mem_singleton] at hv; rw [hv,hx,hcs]) (by simp)
 simpa [hx] using this
end
theorem I7 {α:Type} {sz:Nat}:∀ (css:List (List α)),(∀ cs ∈ css,cs.length=sz)->∀ (i j:Nat),j < sz->css.flatten[i*sz+j]? = css[i]?.bind (·[j]?)
 | [],_,i,j,_=>by simp
 | d :: r,h,i,j,hj=>by
  have hd:=h d (by simp)
  cases i with
  | zero=>rw [List.flatten_cons,Nat.zero_mul,Nat.zero_add,List.getElem?_append_left (by omega)]; rfl
  | succ i =>
   rw [List.flatten_cons,List.getElem?_append_right (by rw [hd,Nat.succ_mul]; omega),hd,show (i+1)*sz+j - sz=i*sz+j by rw [Nat.succ_mul]; omega,I7 r (fun x hx=>h x (by simp [hx])) i j hj]
   rfl
structure FrH where
 a:Option Addr
 c:Nat
def frC (p:FrH × FrameV):List Value:=p.2.cells (.slice p.1.a p.2.tones.length p.1.c)
theorem kI {p:FrH × FrameV} (h:p.2.Len):(frC p).length=29:=FrameV.cells_len h _
def iV (L:List (FrH × FrameV)):List Value:=(L.map frC).flatten
theorem LC (L:List (FrH × FrameV)) (p:FrH × FrameV):iV (L ++ [p])=iV L ++ frC p:=by simp [iV]
theorem zP {L:List (FrH × FrameV)} (hL:∀ p ∈ L,p.2.Len) {k j:Nat} {p:FrH × FrameV} (hk:L[k]? = some p) (hj:j < 29):(iV L)[k*29+j]? = (frC p)[j]?:=by
 unfold iV
 rw [I7 (L.map frC) (fun cs hcs=>by obtain ⟨q,hq,rfl⟩:=List.mem_map.1 hcs; exact kI (hL q hq)) k j hj,List.getElem?_map,hk]
 rfl
def Tones (w:World) (p:FrH × FrameV):Prop:=p.2.tones.length<=p.1.c/\p.1.c<=9223372036854775807/\Row w w.heap.size p.1.a (aW p.2.tones)
theorem Tones.later {w w':World} {p:FrH × FrameV} (h:Tones w p) (hb:Below w.heap.size w w'):Tones w' p:=⟨h.1,h.2.1,h.2.2.later hb⟩
structure FramesAt (w:World) (A:Option Addr) (L:List (FrH × FrameV)):Prop where
 row:Row w w.heap.size A (iV L)
 len:∀ p ∈ L,p.2.Len
 tones:∀ p ∈ L,Tones w p
theorem FramesAt.later {w w':World} {A:Option Addr} {L:List (FrH × FrameV)} (h:FramesAt w A L) (hb:Below w.heap.size w w'):FramesAt w' A L:=⟨h.row.later hb,h.len,fun p hp=>(h.tones p hp).later hb⟩
theorem OQ {w:World} {A:Option Addr} {L:List (FrH × FrameV)} (h:FramesAt w A L) {k:Nat} {p:FrH × FrameV} (hk:L[k]? = some p) :
  ∃ b off,A=some ⟨b,off,none⟩/\b < w.heap.size/\∀ j v,(frC p)[j]? = some v->w.cell? ⟨b,off+k*29+j,none⟩=some v:=by
 have hl:=h.len p (List.mem_of_getElem? hk)
 have h0:0 < (frC p).length:=by rw [kI hl]; decide
 obtain ⟨b,off,hA,hb,_⟩:=h.row (k*29+0) (frC p)[0] (by rw [zP h.len hk (by decide)]; exact List.getElem?_eq_getElem h0)
 refine ⟨b,off,hA,hb,fun j v hv=>?_⟩
 have hj:j < 29:=by have:=(List.getElem?_eq_some_iff.1 hv).1; rw [kI hl] at this; exact this
 obtain ⟨b',off',hA',_,hc⟩:=h.row (k*29+j) v (by rw [zP h.len hk hj]; exact hv)
 rw [hA] at hA'
 injection hA' with hA'
 injection hA' with e1 e2
 subst e1 e2
 rw [Nat.add_assoc]
 exact hc
def FrStands (w:World) (row:Option Nat) (p:FrH × FrameV):Prop:=Tones w p/\(p.2.tones=[]\/∃ g,p.1.a=some ⟨g,0,none⟩/\row ≠ some g/\g < w.heap.size)
theorem FrStands.below {w w':World} {row:Option Nat} {p:FrH × FrameV} (h:FrStands w row p) (hb:Below w.heap.size w w'):FrStands w' row p :=
 ⟨h.1.later hb,h.2.imp id fun ⟨g,h1,h2,h3⟩=>⟨g,h1,h2,Nat.lt_of_lt_of_le h3 hb.size⟩⟩
theorem FrStands.grown {w w':World} {row row':Option Nat} {p:FrH × FrameV} (h:FrStands w row p) (hg:w.grownBy w' row) (hr:row'=row\/row'=some w.heap.size):FrStands w' row' p:=by
 obtain ⟨⟨h1,h2,h3⟩,h4⟩:=h
 rcases h4 with h4 | ⟨g,e1,e2,e3⟩
 ·exact ⟨⟨h1,h2,by rw [h4]; exact Row.none_ _ _ _⟩,.inl h4⟩
 ·refine ⟨⟨h1,h2,fun i v hv=>?_⟩,.inr ⟨g,e1,?_,Nat.lt_of_lt_of_le e3 hg.size⟩⟩
  ·obtain ⟨b,off,ha,hb,hc⟩:=h3 i v hv
   refine ⟨b,off,ha,Nat.lt_of_lt_of_le hb hg.size,?_⟩
   rw [World.cell?_of_block (w:=w) (hg.block b hb (fun he=>by
    rw [e1] at ha
    injection ha with ha
    injection ha with ha
    subst ha
    exact e2 he.symm))]
   exact hc
  ·rcases hr with rfl | rfl
   ·exact e2
   ·intro he; injection he with he; omega
theorem FrStands.aside {w V:World} {row:Option Nat} {gF:Nat} {p:FrH × FrameV} (h:FrStands w row p) (hne:∀ g,p.1.a=some ⟨g,0,none⟩->p.2.tones ≠ []->g ≠ gF) (hg:w.grownBy V (some gF)):FrStands V row p:=by
 obtain ⟨⟨h1,h2,h3⟩,h4⟩:=h
 by_cases ht:p.2.tones=[]
 ·exact ⟨⟨h1,h2,by rw [ht]; exact Row.none_ _ _ _⟩,.inl ht⟩
 ·rcases h4 with h4 | ⟨g,e1,e2,e3⟩
  ·exact absurd h4 ht
  ·have hn:=hne g e1 ht
   refine ⟨⟨h1,h2,fun i v hv=>?_⟩,.inr ⟨g,e1,e2,Nat.lt_of_lt_of_le e3 hg.size⟩⟩
   obtain ⟨b,off,ha,hb,hc⟩:=h3 i v hv
   refine ⟨b,off,ha,Nat.lt_of_lt_of_le hb hg.size,?_⟩
   rw [World.cell?_of_block (w:=w) (hg.block b hb (fun he=>by
    rw [e1] at ha
    injection ha with ha
    injection ha with ha
    subst ha
    injection he with he
    exact hn he))]
   exact hc
theorem FrStands.block {w:World} {row:Option Nat} {p:FrH × FrameV} (h:FrStands w row p):∀ g,p.1.a=some ⟨g,0,none⟩->p.2.tones ≠ []->g < w.heap.size:=fun g h1 h2=>by
 rcases h.2 with h4 | ⟨g',e1,_,e3⟩
 ·exact absurd h4 h2
 ·rw [h1] at e1
  injection e1 with e1
  injection e1 with e1
  rw [e1]; exact e3
theorem ZF {w:World} (g:Nat) (cs:Array Value):w.grownBy (w.setRow g cs) (some g):=⟨rfl,rfl,rfl,by simp,fun k _ hk=>setRow_other w g k _ (fun e=>hk (by rw [e]))⟩
theorem EQ {w:World} {base:Nat} {e:TypeId} {size n:Nat} {v:Value} {xs:List Value} (h:w.ownsRow base e size v n xs):∀ k,v.ownBlock=some k->k < w.heap.size:=by
 intro k hk
 rcases h.2 with ⟨rfl,_⟩ | ⟨g,cap,cur,rfl,hb,hh,_⟩
 ·simp [Value.ownBlock] at hk
 ·have e:g=k:=by simpa [Value.ownBlock] using hk
  subst e
  exact hlt hh
theorem tY:∀ (l:List ToneV),(aW l).length=2*l.length
 | []=>rfl
 | t :: r=>by
  have:=tY r
  unfold aW at *
  simp only [List.map_cons,List.flatten_cons,List.length_append,this,List.length_cons]
  simp [ToneV.cells]; omega
theorem FG {w w':World} {row:Option Nat} {A:Option Addr} {c:Nat} {f:FrameV} (h1:f.tones.length<=c) (h2:c<=9223372036854775807) (h3:Row w' w'.heap.size A (aW f.tones)) (h4:f.tones=[]\/∃ g,A=some ⟨g,0,none⟩/\w.heap.size<=g) (h5:∀ k,row=some k->k < w.heap.size):FrStands w' row (⟨A,c⟩,f):=by
 refine ⟨⟨h1,h2,h3⟩,?_⟩
 by_cases ht:f.tones=[]
 ·exact .inl ht
 ·rcases h4 with h4 | ⟨g,e1,e2⟩
  ·exact absurd h4 ht
  ·refine .inr ⟨g,e1,fun he=>?_,?_⟩
   ·have:=h5 _ he; omega
   ·have hl:0 < (aW f.tones).length:=by
     rw [tY]
     have:=List.length_pos_iff.2 ht
     omega
    obtain ⟨b,off,ha,hb,_⟩:=h3 0 _ (List.getElem?_eq_getElem hl)
    have h6:=e1.symm.trans ha
    injection h6 with h6
    injection h6 with h6
    show g < w'.heap.size
    rw [h6]
    exact hb
theorem mL (p:FrH × FrameV):∀ u ∈ frC p,u.oneCell'=true:=by
 intro u hu
 have lG:∀ (l:List Int),∀ u ∈ l.map (Value.int .i64),u.oneCell'=true:=fun l u hu=>by
  obtain ⟨y,_,rfl⟩:=List.mem_map.1 hu
  rfl
 unfold frC FrameV.cells at hu
 simp only [List.mem_append,List.mem_cons] at hu
 rcases hu with h | rfl | h | h | h
 ·exact lG _ u h
 ·rfl
 ·exact lG _ u h
 ·exact lG _ u h
 ·exact lG _ u h
def SF (W:World) (fs:List FrameV) (e:Ending) (w':World):Prop :=
 ∃ A c L,e=.returned (.tuple #[.slice A (List.length L) c,.int .i64 0])/\List.map Prod.snd L=fs/\List.length L<=c/\c<=9223372036854775807/\FramesAt w' A L/\Below W.heap.size W w'
theorem zR:∃ i,Tryz.prog.info? 50=some i/\(∃ z,i.zero=some z/\z.cells.size=29)/\i.size=29/\i.bytes=248:=by
 have h:(Tryz.prog.info? 50).map (fun i=>(i.zero.map (fun z=>z.cells.size),i.size,i.bytes))=some (some 29,29,248):=by kernel_rfl
 cases hi:Tryz.prog.info? 50 with
 | none=>rw [hi] at h; cases h
 | some i =>
  rw [hi] at h
  simp only [Option.map_some,Option.some.injEq,Prod.mk.injEq] at h
  obtain ⟨z,hz,hzs⟩:=Option.map_eq_some_iff.1 h.1
  exact ⟨i,rfl,⟨z,hz,hzs⟩,h.2.1,h.2.2⟩
end Go.Proofs.YtnbbfblaipjcmaaGreatDoor
