/- SampC. Conditions: as each theorem states. -/
import Derived.Test.YtbpgfkjhclpbdaaGreatDoorPw35
import Derived.Test.YtbpgfkjhclpbdaaGreatDoorPw37
set_option maxRecDepth 100000
set_option maxHeartbeats 1000000
namespace Go.Proofs.YtbpgfkjhclpbdaaGreatDoor
open Tryz
open Go.Lib (hid)
open Go.RowKit Go.Shelf
theorem SY:(prog.info? 119).map (fun i=>(i.zero,i.size,i.bytes))=some (some (.agg #[.string ⟨#[]⟩,.int .i64 0,.bool false,.int .i64 0,.int .i64 0,.slice none 0 0]),6,72):=by kernel_rfl
def qE(L:List (aFR × aFM)):List aFZ:=L.zipIdx.map fun p=>⟨(p.2:Int),p.1.1,p.1.2⟩
theorem DD{α β:Type}(f:α->β)(L:List α):∀ k,(L.zipIdx k).map (fun p=>f p.1)=L.map f:=by
 induction L with
 | nil=>intro k;rfl
 | cons x r d=>intro k;rw[List.zipIdx_cons,aHF,aHF,d]
theorem YO(L:List (aFR × aFM)):((qE L).map aFZ.cells).flatten=fK L:=by
 unfold qE fK;rw[aHj]
 congr 1
 exact DD (fun p:aFR × aFM=>p.1.cells) L 0
theorem aDF(L:List (aFR × aFM)):(qE L).map (·.s)=L.map (·.2):=by
 unfold qE;rw[aHj];exact DD (fun p:aFR × aFM=>p.2) L 0
theorem tN(L:List (aFR × aFM)):(qE L).length=L.length:=by unfold qE;simp
theorem aDE(L:List (aFR × aFM)):(qE L).map (fun x=>(x.idx,x.s))=((qE L).map (·.s)).zipIdx.map fun p=>((p.2:Int),p.1):=by
 rw[aDF];unfold qE;rw[aHj,List.zipIdx_map,aHj]
 rfl
theorem UA{L:List (aFR × aFM)}{x:aFZ}(h:x∈qE L):(x.h,x.s)∈L:=by
 unfold qE at h;obtain⟨p,d,rfl⟩:=aGq.1 h;exact List.fst_mem_of_mem_zipIdx d
def EJ(W:World)(l:List aFZ)(e:Ending)(w':World):Prop:=∃ A c,e=.returned (.slice A l.length c)/\l.length<=c/\c<=9223372036854775807/\(A=none->c=0)/\kH aFZ.cells 6 W.heap.size w' A l/\Below W.heap.size W w'
theorem WQ(l:List aFZ)(A:Option Addr)(cap:Nat)(w:World)(hl:l.length<=1000000)(d:A=none->cap=0)(G:Row w w.heap.size A ((l.map aFZ.cells).flatten)):
  Calls prog 139 #[.slice A l.length cap] w (EJ w l):=by
 obtain⟨i0,hi,aK,aL,aM⟩:=aHx SY;have hq:=fun (W:World) (a:Option Addr) (n c:Nat)=>aJG (P:=prog) W 22 119 a n c 0 0 underlying22
 rcases A with _|ad
 ·have h0:l=[]:=by
   cases l with
   | nil=>rfl
   | cons z r=>obtain⟨b,off,h,_⟩:=G 0 (.string z.h.nm) rfl;cases h
  subst h0;obtain rfl:=d rfl;go_enter func139,ntmps139;go_wp2
  go_ret
  exact⟨none,0,rfl,LE _,by omega,fun _=>rfl,.inl rfl,aGj _ _⟩
 ·clear d;have Hr:=hid G;have V:=hid (oU OD l);have J:∀ u∈(l.map aFZ.cells).flatten,u.oneCell'=true:=by
   intro u I;obtain⟨cs,aG,I⟩:=aIs.1 I;obtain⟨z,_,rfl⟩:=aGq.1 aG;exact YB z u I
  have Z:=hid J;clear G J;obtain⟨n,d⟩:∃ n,l.length=n:=⟨_,rfl⟩;have F:=hid d;rw[d]at hl ⊢;clear d;go_enter func139,ntmps139;go_wp2_with (at_builtin;refine cF _ rfl (.tmp 5) (.tmp 6) 22 rfl w.heap.size 119 i0 _ 6 72 underlying22 hi aK aL aM rfl (by omega) _ 0 [] rfl (nS w _ _) w.heap.size (some ad) n cap ((l.map aFZ.cells).flatten) rfl (by rw[V.out,F.out]) (Hr.out.below (aP _ _)) Z.out (by omega) (by omega) (by simp) ?_;intro U cc w2 t aH aS O)
  go_ret
  rw[aGn]at t O;rw[List.nil_append]at t;obtain⟨A3,c3,h3,_,aJ⟩:=jK t;injection h3 with e1 _ e3
  subst e1 e3;exact⟨U,cc,by rw[F.out];rfl,by rw[F.out];exact O,gK t,fun h=>(aJ h).2,LA OD (by omega) t,(aP _ _).grown aH (by simp) (bO (nS w 119 6))⟩
def VZ(W:World)(h:List aFM)(e:Ending)(w':World):Prop :=
 ∃ A c d,e=.returned (.slice A (List.length d) c)/\d.map (·.2)=h/\List.length d<=c/\c<=9223372036854775807/\(A=none->c=0)/\aFX w' w'.heap.size A d/\Below W.heap.size W w'
theorem PQ(L:List (aFR × aFM))(A:Option Addr)(cap:Nat)(w:World)(hl:L.length<=19)(hn:A=none->cap=0)(t:aFX w w.heap.size A L):
  Calls prog 93 #[.slice A L.length cap] w (VZ w (cV (L.map (·.2)))):=by
 have U:=ZH (qE L) (fun x W=>(t.fits _ (UA W)).1.1) (aDE L);rw[aDF]at U;have O:=iE (ltOf nJ) U2 (qE L);have V:=t.row;rw[<-YO]at V;have HC:=hid (WQ (qE L) A cap w (by rw[tN];omega) hn V);have d:=hid (fun Z c w' (hh:kH aFZ.cells 6 w.heap.size w' Z (qE L))=>UT nJ 141 U2 aBz (fun args w=>by kernel_rfl) (qE L) Z c w.heap.size w' hh (by rw[tN];exact hl));have aH:∀ p∈(dW (ltOf nJ) (qE L)).map (fun x=>(x.h,x.s)),p.1.fits w w.heap.size p.2:=by
  intro p J;obtain⟨x,W,rfl⟩:=aGq.1 J;exact t.fits _ (UA (O.subset W))
 have aK:((dW (ltOf nJ) (qE L)).map (fun x=>(x.h,x.s))).length=L.length:=by rw[aF7,O.length_eq,tN]
 rw[tN]at d;have HF:=hid aH;have HP:=hid U;have z:=hid aK;have F:=hid (tN L);clear U O V aH aK hn t;generalize dW (ltOf nJ) (qE L)=S at *
 generalize qE L=M at *
 obtain⟨n,I⟩:∃ n,L.length=n:=⟨_,rfl⟩;rw[I]at d z F hl ⊢;have Hn:=hid I;clear I;go_enter func93,ntmps93;go_wp2_with fail
 have aC:=hid (show Calls prog 139 #[.slice A n cap] w (EJ w M) by have:=HC.out;rw[F.out]at this;exact this);refine aC.out.mono ?_;rintro e w1 ⟨A1,c1,rfl,h1,h2,h3,hh,aF⟩;rw[F.out]at h1 ⊢;have aP:=hid (d.out A1 c1 w1 hh);have aQ:=hid aF;have H3:=hid h3;clear hh aF h3 d HC aC;go_wp2_with fail
 refine aP.out.mono ?_;rintro e w2 ⟨rfl,aI,aG⟩;have aR:=hid aI;have G:=hid (aQ.out.trans aG);clear aI aG;go_wp2_with fail
 go_ret
 refine⟨A1,c1,S.map (fun x=>(x.h,x.s)),by rw[z.out];rfl,by rw[aHj];exact HP.out,by rw[z.out];exact h1,h2,H3.out,⟨?_,?_⟩,G.out⟩
 ·have:=LC OD aR.out;unfold fK;rw[aHj];exact this
 ·intro p J;exact ((HF.out p J).below G.out).more G.out.size
end Go.Proofs.YtbpgfkjhclpbdaaGreatDoor
