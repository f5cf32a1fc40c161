/- ParI, ParJ, ParK, ParL, ParM, ParN, ParO, ParQ2, ParR, ParT. Conditions: as each theorem states. -/
import Derived.Test.YtbpgfkjhclpbdaaGreatDoorPw47
set_option maxRecDepth 100000
set_option maxHeartbeats 16000000
namespace Go.Proofs.YtbpgfkjhclpbdaaGreatDoor
open Tryz
open Go.RowKit Go.Lib
def MU:aFK:=⟨⟨#[]⟩,0,0,0,false,0,0,0,0⟩
def NoBank(w:World)(v:Value):Prop:=v=.pointer none\/∃ g,v=.pointer (some ⟨g,0,none⟩)/\Blk w g 146 [.slice none 0 0,.int .i64 0,.slice none 0 0]
theorem NoBank.later{w w':World}{v:Value}(h:NoBank w v)(hb:Below w.heap.size w w'):NoBank w' v:=by
 rcases h with h|⟨g,h1,h2⟩
 ·exact .inl h
 ·exact .inr ⟨g,h1,h2.below hb h2.lt⟩
theorem aAt{w:World}{g size:Nat}{bs:List Nat}{D:List aFK}(h:aF2 w g bs size D)(t:0<size):Calls prog 85 #[.pointer (some ⟨g,0,none⟩)] w fun e w'=>e=.returned (.bool false)/\w=w':=by
 obtain⟨Ai,ci,Ad,cd,h1,_⟩:=h.at_;have d:=aH (show Blk w g 146 [.slice Ai bs.length ci,.int .i64 size,.slice Ad D.length cd] from h1) 1;have z:((size:Int) == 0)=false:=aG8.2 (by omega);clear h1 h;go_enter func85,ntmps85;go_wp2
 go_ret
 exact⟨rfl,rfl⟩
def fF(D:List aFK)(i:Int):aFK:=if i<0\/(D.length:Int)<=i then MU else D.getD i.toNat MU
def i8(D:List aFK)(i:Int):Int:=if i<0\/(D.length:Int)<=i then 7 else 0
theorem pI(g size:Nat)(bs:List Nat)(D:List aFK)(i:Int)(w:World)(h:aF2 w g bs size D)(hs:0<size)(_:D.length<=1000000):
  Calls prog 36 #[.pointer (some ⟨g,0,none⟩),.int .i64 i] w fun e w'=>e=.returned (.tuple #[.agg (fF D i).cells.toArray,.int .i64 (i8 D i)])/\Below w.heap.size w w':=by
 have t:=hid (show (prog.info? 101).map (·.size)=some 9 by kernel_rfl);obtain⟨d,aK⟩:∃ d,w.alloc (.cells #[.string ⟨#[]⟩,.int .i64 0,.int .i64 0,.int .i64 0,.bool false,.int .i64 0,.int .i64 0,.int .i64 0,.int .i64 0] 101)=d:=⟨_,rfl⟩;have F:=hid (show Below w.heap.size w d by rw[<-aK];exact aP w _);have z:=hid (show d.heap[w.heap.size]? = some (.cells #[.string ⟨#[]⟩,.int .i64 0,.int .i64 0,.int .i64 0,.bool false,.int .i64 0,.int .i64 0,.int .i64 0,.int .i64 0] 101 (0,0)) by rw[<-aK];exact LT w _);have W:=hid (aAt (h.later F.out) hs);have aB:=h.later F.out;obtain⟨Ai,ci,Ad,cd,h1,_,Z,_⟩:=aB.at_;have c2:=aH (show Blk d g 146 [.slice Ai bs.length ci,.int .i64 size,.slice Ad D.length cd] from h1) 2;have Z:=hid Z
 by_cases hi:i<0\/(D.length:Int)<=i
 ·have G:=hid (tL MU);have U:=hid (show fF D i=MU from FN hi);have O:=hid (show i8 D i=7 from FN hi);obtain⟨n,I⟩:∃ n,D.length=n:=⟨_,rfl⟩;rw[I]at hi c2;clear h1 aB h I;rcases aIg i 0 with q|q
  ·clear hi;go_enter func36,ntmps36;go_wp2_with (first|(go_at_call 85;refine W.out.mono ?_;rintro e w2 ⟨rfl,rfl⟩)|(refine aA rfl 101 (.tmp 4) (.tmp 22) rfl w.heap.size rfl _ _ #[.string ⟨#[]⟩,.int .i64 0,.int .i64 0,.int .i64 0,.bool false,.int .i64 0,.int .i64 0,.int .i64 0,.int .i64 0] rfl z.out t.out rfl G.out ?_))
   refine aGk (v:=.tuple #[.agg #[.string ⟨#[]⟩,.int .i64 0,.int .i64 0,.int .i64 0,.bool false,.int .i64 0,.int .i64 0,.int .i64 0,.int .i64 0],.int .i64 7]) (aX results36 _ _ w.heap.size 101 _ (0,0) _ _ rfl rfl (bA d _ _ _ _ z.out) underlying101 rfl t.out) rfl ?_;exact⟨by rw[U.out,O.out];rfl,aIU F.out (LE _) _⟩
  ·have q0:¬ i<0:=by omega
   have q1:(n:Int)<=i:=by omega
   clear hi q;go_enter func36,ntmps36;go_wp2_with (first|(go_at_call 85;refine W.out.mono ?_;rintro e w2 ⟨rfl,rfl⟩)|(refine aA rfl 101 (.tmp 4) (.tmp 22) rfl w.heap.size rfl _ _ #[.string ⟨#[]⟩,.int .i64 0,.int .i64 0,.int .i64 0,.bool false,.int .i64 0,.int .i64 0,.int .i64 0,.int .i64 0] rfl z.out t.out rfl G.out ?_))
   refine aGk (v:=.tuple #[.agg #[.string ⟨#[]⟩,.int .i64 0,.int .i64 0,.int .i64 0,.bool false,.int .i64 0,.int .i64 0,.int .i64 0,.int .i64 0],.int .i64 7]) (aX results36 _ _ w.heap.size 101 _ (0,0) _ _ rfl rfl (bA d _ _ _ _ z.out) underlying101 rfl t.out) rfl ?_;exact⟨by rw[U.out,O.out];rfl,aIU F.out (LE _) _⟩
 ·obtain⟨m,rfl⟩:=aGF (show 0<=i by omega);have hm:m<D.length:=by omega
  obtain⟨x,hx⟩:∃ x,D[m]? = some x:=⟨_,TT hm⟩;have U:=hid (show fF D m=x by
   unfold fF;rw[sL hi,Int.toNat_natCast,aGz,hx];rfl)
  have O:=hid (show i8 D m=0 from sL hi);have G:=hid (tL x);obtain⟨b,o,rfl,hb,hc⟩:=iD Z.out hx;have HX:=hid hc;have aE:=hid (show (prog.info? 101).map (·.size)=some x.cells.length from t.out);have V:=hid (show (prog.info? 101).map (·.size)=some x.cells.toArray.size from t.out);have aF:=hid (show (9:Nat)=x.cells.toArray.size from rfl);obtain⟨J,aC⟩:∃ J,x.cells=J:=⟨_,rfl⟩;have aM:=hid aC;rw[aC]at aE V aF HX G;obtain⟨n,I⟩:∃ n,D.length=n:=⟨_,rfl⟩;rw[I]at hm c2;have q0:¬ (m:Int)<0:=by omega
  have q1:¬ (n:Int)<=(m:Int):=by omega
  have q2:(m:Int)<(n:Int):=by omega
  have q3:(0:Int)<=(m:Int):=by omega
  clear h1 aB h I hi hx hc aC;go_enter func36,ntmps36;go_wp2_with (first|(go_at_call 85;refine W.out.mono ?_;rintro e w2 ⟨rfl,rfl⟩)|(refine aL rfl 101 (.tmp 28) rfl b (o+m*9) rfl J _ HX.out underlying101 rfl aE.out ?_)|(refine aA rfl 101 (.tmp 4) (.tmp 29) rfl w.heap.size rfl _ _ J.toArray rfl z.out V.out aF.out G.out ?_))
  refine aGk (v:=.tuple #[.agg J.toArray,.int .i64 0]) (aX results36 _ _ w.heap.size 101 _ (0,0) _ _ rfl rfl (bA d _ _ _ _ z.out) underlying101 rfl V.out) rfl ?_;exact⟨by rw[U.out,O.out,aM.out],aIU F.out (LE _) _⟩
def Byt(l:List Nat):Prop:=∀ x∈l,x<256
theorem aBH{L:List Nat}(h:Bin L):Byt (jL L):=fun x d=>by
 unfold jL at d;obtain⟨j,_,rfl⟩:=aGq.1 d;exact KN h j
theorem FV(f:aFJ)(size:Nat):Byt (aM f size):=fun x d=>by
 unfold aM at d;rcases aGJ.1 d with h|h
 ·exact aBH (FU f) x h
 ·obtain⟨_,rfl⟩:=List.mem_replicate.1 h;omega
theorem qD(size v:Nat):Byt (cY size v):=fun x d=>by
 unfold cY at d;obtain⟨j,_,rfl⟩:=aGq.1 d;exact aG6 _ (by decide)
theorem LQ(s:ByteArray):Byt (j1 s):=fun x d=>by
 unfold j1 at d;obtain⟨j,_,rfl⟩:=aGq.1 d;exact j.toNat_lt
theorem MG{bs xs:List Nat}{o:Nat}(h:Byt bs)(d:Byt xs):Byt (aW bs o xs):=fun x hm=>by
 unfold aW at hm;rcases aGJ.1 hm with h1|h1
 ·rcases aGJ.1 h1 with h2|h2
  ·exact h x (aIJ h2)
  ·exact d x h2
 ·exact h x (aJU h1)
def aAE(l:List (Nat × List Nat)):Prop:=∀ p∈l,Byt p.2
theorem GS:∀ {l:List (Nat × List Nat)} {bs:List Nat},Byt bs->aAE l->Byt (lays bs l)
 | [],_,h,_=>h
 | p::r,bs,h,hl=>GS (l:=r) (MG h (hl p (by simp))) (fun q d=>hl q (by simp[d]))
theorem KO{first sums size ch k:Nat}{fs:List aFJ}:∀ i,aAE (gM first sums size ch k fs i)
 | 0=>fun p d=>by simp[gM]at d
 | i+1=>fun p d=>by
  unfold gM at d;rcases aGJ.1 d with h|h
  ·exact KO i p h
  ·cases t:fs[i]? with
   | none=>rw[t]at h;simp at h
   | some x =>
    rw[t]at h;simp only[nY,aGw,aGV,aGS]at h;rcases h with rfl|rfl
    ·exact FV _ _
    ·exact qD _ _
theorem LI{first sums size:Nat}{rows:List (List Int)}:∀ k,aAE (fJ first sums size rows k)
 | 0=>fun p t=>by simp[fJ]at t
 | k+1=>fun p t=>by
  unfold fJ at t;rcases aGJ.1 t with h|h
  ·exact LI k p h
  ·cases z:rows[k]? with
   | none=>rw[z]at h;simp at h
   | some d=>rw[z]at h;exact KO _ p h
theorem IG{size:Nat}{SS:List aFM}{z:List aFK}:∀ m,aAE (cT size SS z m)
 | 0=>fun p d=>by simp[cT]at d
 | m+1=>fun p d=>by
  unfold cT at d;rcases aGJ.1 d with h|h
  ·exact IG m p h
  ·cases t:SS[m]? with
   | none=>rw[t]at h;simp at h
   | some s =>
    cases F:z[m]? with
    | none=>rw[t,F]at h;simp at h
    | some x=>rw[t,F]at h;exact LI _ p h
theorem W9{o:Nat}{x:aFK}(h:x.channels<=255):aAE (d9 o x):=fun p d=>by
 have z:Byt [x.channels.toNat]:=fun y t=>by rw[aGx]at t;omega
 have h1:Byt [1]:=fun y t=>by rw[aGx]at t;omega
 unfold d9 at d;split at d
 ·simp only[aGJ,aGw,aGV,aGS]at d;rcases d with (rfl|rfl|rfl|rfl|rfl|rfl|rfl|rfl)|rfl
  all_goals first|exact LQ _|exact qD _ _|exact z|exact h1
 ·simp only[aGJ,aGw,aGV,aGS]at d;rcases d with rfl|rfl|rfl|rfl|rfl|rfl|rfl|rfl
  all_goals first|exact LQ _|exact qD _ _|exact z|exact h1
theorem FQ{L:List aFK}(hL:∀ x∈L,x.channels<=255):∀ m,aAE (cZ L m)
 | 0=>fun p d=>by simp[cZ]at d
 | m+1=>fun p d=>by
  unfold cZ at d;rcases aGJ.1 d with h|h
  ·exact FQ hL m p h
  ·cases t:L[m]? with
   | none=>rw[t]at h;simp at h
   | some x=>rw[t]at h;exact W9 (hL x (aGh t)) p h
theorem PS{bs:List Nat}{L:List aFK}{size:Nat}(hb:Byt bs)(hL:∀ x∈L,x.channels<=255)(z:size<=255):Byt (bF bs L size):=by
 unfold bF;refine MG (GS hb fun p t=>?_) (qD _ _);rcases aGJ.1 t with h|h
 ·unfold fI at h;simp only[aGw,aGV,aGS]at h;rcases h with rfl|rfl|rfl|rfl
  ·intro y d;simp at d;omega
  ·exact qD _ _
  ·exact qD _ _
  ·intro y d;rw[aGx]at d;omega
 ·exact FQ hL _ p h
theorem LV{size:Nat}{SS:List aFM}(h:aFY size SS):Byt (bC size SS):=by
 rw[oF];refine PS (GS (fun x d=>by obtain⟨_,rfl⟩:=List.mem_replicate.1 d;omega) (IG _)) (fun x d=>(h.goodE x d).1.ch.2) (by have:=h.hi;omega)
theorem xZ{w:World}{g:Nat}{bs:List Nat}(h:BytesAt w g bs):Row w w.heap.size (some ⟨g,0,none⟩) (u8s bs):=fun i v d=>by
 refine⟨g,0,rfl,h.lt,?_⟩;have:=aH h i;rw[aGn,this];exact d
theorem NE{size:Nat}{SS:List aFM}(h:aFY size SS)(g:Nat)(w:World)(hb:BytesAt w g (bC size SS)):
  Calls prog 54 #[.slice (some ⟨g,0,none⟩) (b6 size SS) (b6 size SS)] w fun e w'=>∃ x,e=.returned (.tuple #[.pointer (some ⟨x,0,none⟩),.int .i64 0])/\w.heap.size<=x/\aF2 w' x (bC size SS) size (aG size SS)/\Below w.heap.size w w':=by
 have F:=h.len_bd;refine (aAO (bC size SS) (some ⟨g,0,none⟩) (b6 size SS) (b6 size SS) w (kS h) (LE _) (by omega) (by omega) (fun h=>by cases h) (xZ hb) (LV h)).mono ?_;rintro e w' (⟨h1,_⟩|⟨_,x,he,z,d,t⟩)
 ·exact absurd (CT h) h1
 ·rw[IH h,LW h,LY h]at d;exact⟨x,he,z,d,t⟩
theorem mG{P:Program}{fn:Func}{p q r:Tmp}(h:fn.results=#[.tmp p,.tmp q,.tmp r])(tmps:Array Value)(w:World):(results fn tmps).run P w=.ok (.tuple #[tmps.getD p undef,tmps.getD q undef,tmps.getD r undef]) w:=by
 simp[results,h]
structure aGb(bs:List Nat)(size:Nat)(D:List aFK):Prop where
 lo:24<=size
 hi:size<=96
 many:D.length<=64
 long:bs.length<=4000000
 byt:Byt bs
 right:∀ x∈D,x.right=true
 lie:∀ x∈D,0<=x.sums/\x.sums+4*bE x<=x.first/\x.first+size*bE x<=bs.length
theorem I6(n:Int):n<=upZ n 16:=by unfold upZ;omega
theorem aD8(n:Int):n<=upZ n 64:=by unfold upZ;omega
theorem XV{size:Int}{L:List aFK}(h1:24<=size)(hL:∀ x∈L,aGc x)(m:Nat):bX size L m<=bX size L (m+1):=by
 cases d:L[m]? with
 | none =>
  have e:bX size L (m+1)=bX size L m:=by
   show (match L[m]? with|some x=>_|none=>_)=_;rw[d]
  rw[e];exact aHd _
 | some x =>
  rw[gL d];have hF:=(hL x (aGh d)).fr;have h:0<=size*bE x:=aIZ (by omega) hF.1;have t:=I6 (bX size L m+4*bE x);omega
theorem XU{size:Int}{L:List aFK}(h1:24<=size)(hL:∀ x∈L,aGc x){m n:Nat}(h:m<=n):bX size L m<=bX size L n:=by
 induction n with
 | zero =>
  have:m=0:=by omega
  subst this;exact aHd _
 | succ n d =>
  by_cases hm:m=n+1
  ·subst hm;exact aHd _
  ·exact aIY (d (by omega)) (XV h1 hL n)
theorem XL{bs:List Nat}(h:fB bs=0)(V:bs.length<=4000000)(hb:Byt bs):aGb bs (lP bs) (eT bs (iV bs)):=by
 unfold fB at h;split at h
 ·cases h
 split at h
 ·cases h
 split at h
 ·cases h
 rename_i J
 split at h
 ·cases h
 split at h
 ·cases h
 split at h
 ·cases h
 rename_i F
 split at h
 ·cases h
 rename_i I
 have F:lE bs (iV bs)=true:=by simpa using F
 have U:=tC _ F;unfold kF at J;simp only[aHw,aGy,not_or]at J;obtain⟨h1,h2,h3,h4⟩:=J;unfold qI at I;simp only[aHw,aGy,aIQ,not_or,Bool.not_eq_false,Decidable.not_not]at I;obtain⟨h5,h6,z⟩:=I;have z:=QM z;have G:∀ x∈eT bs (iV bs),aGc x:=fun x t=>rG (U x t)
 refine⟨by omega,by omega,by rw[mS];omega,V,hb,U,fun x t=>?_⟩;obtain⟨m,hm,rfl⟩:=aHz.1 t;have W:m<iV bs:=by rw[mS]at hm;exact hm
 have O:(eT bs (iV bs))[m]? = some (eT bs (iV bs))[m]:=TT hm;have d:=iR (size:=(lP bs:Int)) O (iV bs);rw[FN W,z,O]at d;injection d with d
 have hF:=(G _ t).fr;have aF:=GD (size:=(lP bs:Int)) (by omega) (by omega) G (by rw[mS];omega) m;have Z:=XU (size:=(lP bs:Int)) (by omega) G (show m+1<=iV bs by omega);rw[gL O]at Z;have hu:=aD8 (bX (lP bs) (eT bs (iV bs)) (iV bs));have aG:=I6 (bX (lP bs) (eT bs (iV bs)) m+4*bE (eT bs (iV bs))[m]);have hs:((eT bs (iV bs))[m]).sums=bX (lP bs) (eT bs (iV bs)) m:=by
  have:=aGp aFK.sums d;exact this
 have hf:((eT bs (iV bs))[m]).first=upZ (bX (lP bs) (eT bs (iV bs)) m+4*bE (eT bs (iV bs))[m]) 16:=by
  have:=aGp aFK.first d;exact this
 rw[hs,hf];omega
/-! The methods. -/
theorem J2{w:World}{g size:Nat}{bs:List Nat}{D:List aFK}(h:aF2 w g bs size D)(t:0<size):Calls prog 103 #[.pointer (some ⟨g,0,none⟩)] w fun e w'=>e=.returned (.int .i64 size)/\w=w':=by
 have d:=aGC (aAt h t);obtain⟨Ai,ci,Ad,cd,h1,_⟩:=h.at_;have z:=aH (show Blk w g 146 [.slice Ai bs.length ci,.int .i64 size,.slice Ad D.length cd] from h1) 1;clear h1 h;go_enter func103,ntmps103;go_wp2_with (go_at_call 85;refine d.out.mono ?_;rintro e w2 ⟨rfl,rfl⟩)
 go_ret
 exact⟨rfl,rfl⟩
def bR(D:List aFK)(i c b:Int):Int:=if i8 D i≠0 then 7 else if c<0\/(fF D i).channels<=c\/b<0\/dZ (fF D i).length<=b then 5 else 0
def nK(D:List aFK)(i c b:Int):Int:=b*(fF D i).channels+c
def bL(D:List aFK)(size:Nat)(i c b:Int):Int:=if bR D i c b=0 then (fF D i).first+nK D i c b*size else 0
def eG(D:List aFK)(bs:List Nat)(i c b:Int):Nat:=if bR D i c b=0 then bU bs ((fF D i).sums+4*nK D i c b).toNat 4 else 0
theorem LP{D:List aFK}{i:Int}(h:i8 D i=0):fF D i∈D:=by
 unfold i8 at h;split at h
 ·cases h
 ·rename_i hi
  unfold fF;rw[sL hi];have hm:i.toNat<D.length:=by omega
  rw[aGz,TT hm];exact aIj hm
theorem aBw(D:List aFK)(i:Int):i8 D i=0\/i8 D i=7:=by unfold i8;split <;> simp
theorem sA{bs:List Nat}{size:Nat}{D:List aFK}(h:aGb bs size D){i c b:Int}(G:bR D i c b=0):
  ∃ x∈D,fF D i=x/\∃ (ch t d S F q P:Nat),x.channels=ch/\c=t/\b=d/\x.sums=S/\x.first=F/\(d:Int)*(ch:Int)=((d*ch:Nat):Int)/\d*ch+t=q/\q*size=P/\(q:Int)*(size:Int)=(P:Int)/\S+4*q+4<=F/\F+P+size<=bs.length/\(0<=c/\c<x.channels)/\0<=b/\b<dZ x.length/\d*ch<=1000000:=by
 unfold bR at G;split at G
 ·cases G
 split at G
 ·cases G
 rename_i h1 h2
 have h1:i8 D i=0:=by simpa using h1
 have I:=LP h1;obtain⟨x,V⟩:∃ x,fF D i=x:=⟨_,rfl⟩;rw[V]at h2 I;obtain⟨r1,r2,r3,r4,r5⟩:=qK (h.right x I);obtain⟨l1,l2,l3⟩:=h.lie x I;obtain⟨ch,O⟩:=aGF (show 0<=x.channels by omega);obtain⟨t,aC⟩:=aGF (show 0<=c by omega);obtain⟨d,aA⟩:=aGF (show 0<=b by omega);obtain⟨S,J⟩:=aGF (show 0<=x.sums by omega);have aI:0<=bE x:=by
  have:=(rG (h.right x I)).fr;omega
 obtain⟨F,hF⟩:=aGF (show 0<=x.first by omega);have aD:0<=dZ x.length/\dZ x.length<=65536:=by unfold dZ;split <;> omega
 obtain⟨z,aE⟩:=aGF aD.1;have U:bE x=((z*ch:Nat):Int):=by
  unfold bE;rw[aE,O]
  push_cast;rfl
 have hq:d*ch+t+1<=z*ch:=by
  have:=aHq ch (show d+1<=z by omega);rw[aHb]at this;omega
 have hP:(d*ch+t)*size+size<=size*(z*ch):=by
  have:=aHq size hq;rw[aHb,aH1 (z*ch) size]at this;exact this
 have W:(size:Int)*((z*ch:Nat):Int)=((size*(z*ch):Nat):Int):=by push_cast;rfl
 rw[U,J,hF]at l2;rw[U,hF,W]at l3;have Z:d*ch<=1000000:=by
  have aB:ch<=2:=by omega
  have:=Nat.mul_le_mul (show d<=65536 by omega) aB;omega
 refine⟨x,I,V,ch,t,d,S,F,d*ch+t,(d*ch+t)*size,O,aC,aA,J,hF,by push_cast;rfl,rfl,rfl,by push_cast;rfl,?_,?_,by omega,by omega,by omega,Z⟩
 ·generalize z*ch=T at *
  generalize d*ch+t=q at *
  omega
 ·generalize size*(z*ch)=T at *
  generalize (d*ch+t)*size=P at *
  omega
def pM(w:World)(D:List aFK)(bs:List Nat)(size:Nat)(i c b:Int)(e:Ending)(w':World):Prop :=
 e=.returned (.tuple #[.int .i64 (bL D size i c b),.int .u32 (eG D bs i c b:Nat),.int .i64 (bR D i c b)])/\Below w.heap.size w w'
theorem zP(g size:Nat)(bs:List Nat)(D:List aFK)(i c b:Int)(w:World)(h:aF2 w g bs size D)(hf:aGb bs size D):
  Calls prog 12 #[.pointer (some ⟨g,0,none⟩),.int .i64 i,.int .i64 c,.int .i64 b] w (pM w D bs size i c b):=by
 have I:=hid (pI g size bs D i w h (by have:=hf.lo;omega) (by have:=hf.many;omega));have aB:=hid (show (prog.info? 101).map (·.size)=some 9 by kernel_rfl);have U:=hid (tL (fF D i));have Hh:=hid h;have Hf:=hid hf;unfold pM
 by_cases J:i8 D i=0
 rotate_left
 ·have a0:i8 D i=7:=(aBw D i).resolve_left J;have hW:bR D i c b=7:=FN J;have hA:bL D size i c b=0:=by unfold bL;rw[hW];rfl
  have hS:eG D bs i c b=0:=by unfold eG;rw[hW];rfl
  rw[hW,hA,hS];rw[a0]at I;generalize fF D i=x at *
  obtain⟨nm,len,rate,ch,lp,f,t,sums,first⟩:=x;clear J a0 hW hA hS h hf;go_enter func12,ntmps12;go_wp2_with (go_at_call 36;fail)
  refine I.out.mono ?_;rintro e w2 ⟨rfl,d⟩;go_wp2_with (refine aA rfl 101 (.tmp 11) (.tmp 18) rfl w2.heap.size rfl _ _ #[.string nm,.int .i64 len,.int .i64 rate,.int .i64 ch,.bool lp,.int .i64 f,.int .i64 t,.int .i64 sums,.int .i64 first] rfl (LT w2 _) aB.out rfl U.out ?_;rw[aGT])
  refine aGk (mG results12 _ _) rfl ?_;exact⟨rfl,aC d (aP w2 _)⟩
 rw[J]at I
 by_cases O:c<0\/(fF D i).channels<=c\/b<0\/dZ (fF D i).length<=b
 ·have hW:bR D i c b=5:=by unfold bR;rw[sL (by simp[J]),FN O]
  have hA:bL D size i c b=0:=by unfold bL;rw[hW];rfl
  have hS:eG D bs i c b=0:=by unfold eG;rw[hW];rfl
  rw[hW,hA,hS];obtain⟨r1,_,r3,_⟩:=qK (hf.right _ (LP J));have aI:=hid (fun W=>vS (fF D i).length W (by omega));generalize fF D i=x at *
  obtain⟨nm,len,rate,ch,lp,f,t,sums,first⟩:=x;clear J hW hA hS h hf;simp only at O;generalize dZ len=cz at *
  by_cases q1:c<0
  ·clear O;go_enter func12,ntmps12;go_wp2_with (go_at_call 36;fail)
   refine I.out.mono ?_;rintro e w2 ⟨rfl,d⟩;go_wp2_with (refine aA rfl 101 (.tmp 11) (.tmp 18) rfl w2.heap.size rfl _ _ #[.string nm,.int .i64 len,.int .i64 rate,.int .i64 ch,.bool lp,.int .i64 f,.int .i64 t,.int .i64 sums,.int .i64 first] rfl (LT w2 _) aB.out rfl U.out ?_;rw[aGT])
   refine aGk (mG results12 _ _) rfl ?_;exact⟨rfl,aC d (aP w2 _)⟩
  by_cases q2:ch<=c
  ·clear O;go_enter func12,ntmps12;go_wp2_with (go_at_call 36;fail)
   refine I.out.mono ?_;rintro e w2 ⟨rfl,d⟩;go_wp2_with (refine aA rfl 101 (.tmp 11) (.tmp 18) rfl w2.heap.size rfl _ _ #[.string nm,.int .i64 len,.int .i64 rate,.int .i64 ch,.bool lp,.int .i64 f,.int .i64 t,.int .i64 sums,.int .i64 first] rfl (LT w2 _) aB.out rfl U.out ?_;rw[aGT])
   refine aGk (mG results12 _ _) rfl ?_;exact⟨rfl,aC d (aP w2 _)⟩
  by_cases q3:b<0
  ·clear O;go_enter func12,ntmps12;go_wp2_with (go_at_call 36;fail)
   refine I.out.mono ?_;rintro e w2 ⟨rfl,d⟩;go_wp2_with (refine aA rfl 101 (.tmp 11) (.tmp 18) rfl w2.heap.size rfl _ _ #[.string nm,.int .i64 len,.int .i64 rate,.int .i64 ch,.bool lp,.int .i64 f,.int .i64 t,.int .i64 sums,.int .i64 first] rfl (LT w2 _) aB.out rfl U.out ?_;rw[aGT])
   refine aGk (mG results12 _ _) rfl ?_;exact⟨rfl,aC d (aP w2 _)⟩
  have q4:cz<=b:=by omega
  clear O;go_enter func12,ntmps12;go_wp2_with (go_at_call 36;fail)
  refine I.out.mono ?_;rintro e w2 ⟨rfl,d⟩;go_wp2_with (first|(refine aA rfl 101 (.tmp 11) (.tmp 18) rfl w2.heap.size rfl _ _ #[.string nm,.int .i64 len,.int .i64 rate,.int .i64 ch,.bool lp,.int .i64 f,.int .i64 t,.int .i64 sums,.int .i64 first] rfl (LT w2 _) aB.out rfl U.out ?_;rw[aGT])|(go_at_call 61;refine (aI.out _).mono ?_;rintro e G ⟨rfl,rfl⟩))
  refine aGk (mG results12 _ _) rfl ?_;exact⟨rfl,aC d (aP w2 _)⟩
 ·have hW:bR D i c b=0:=by unfold bR;rw[sL (by simp[J]),sL O]
  obtain⟨x,a3,aM,Z,cn,bn,S,F,q,P,e1,rfl,rfl,e2,e3,aT,hq,hP,bH,l1,l2,⟨c0,c1⟩,b0,b1,bG⟩:=sA hf hW;have HA:=hid (show bL D size i cn bn=((F+P:Nat):Int) by
   unfold bL nK;rw[FN hW,aM,e1,e3,aT,<-Int.natCast_add,hq,bH]
   push_cast;rfl)
  obtain⟨V,hV⟩:∃ V,bU bs (S+4*q) 4=V:=⟨_,rfl⟩;have HS:=hid (show eG D bs i cn bn=V by
   unfold eG nK;rw[FN hW,aM,e1,e2,aT,<-Int.natCast_add,hq,<-hV]
   congr 1)
  have bS:V<4294967296:=by rw[<-hV];exact qJ hf.byt _ 4
  obtain⟨r1,_,r3,_⟩:=qK (hf.right _ a3);have aI:=hid (fun W=>vS x.length W (by omega));have bV:=hf.long;have bW:=hf.lo;have bT:=hf.hi;obtain⟨Ai,ci,Ad,cd,h1,h2,_,h4,_⟩:=h.at_;have a9:=hid (fun W (hW:Below w.heap.size w W)=>(show Calls prog 62 #[.slice Ai bs.length ci,.int .i64 ((S:Int)+4*(q:Int)),.int .i64 4] W (fun e w'=>e=.returned (.int .i64 (V:Nat))/\W=w') from by
   have:=IM bs Ai bs.length ci (S+4*q) 4 W rfl (h2.later hW) hf.byt (by omega) (by omega) (by omega);rw[hV,show ((S+4*q:Nat):Int)=(S:Int)+4*(q:Int) by push_cast;rfl]at this;exact this))
  have aY:=hid (fun W (hW:Below w.heap.size w W) j v (hv:([.slice Ai bs.length ci,.int .i64 size,.slice Ad D.length cd]:List Value)[j]? = some v)=>(show W.cell? ⟨g,j,none⟩=some v from by
   have hB:Blk w g 146 [.slice Ai bs.length ci,.int .i64 size,.slice Ad D.length cd]:=h1;rw[aH (hB.below hW hB.lt) j];exact hv))
  rw[HA.out,HS.out,hW];rw[aM]at I U;clear O J hW aM hf h h1 h2 h4 a3 hV HA HS Hf Hh;obtain⟨nm,len,rate,ch,lp,f,t,sums,first⟩:=x;simp only at e1 e2 e3 c1 b1 r1 r3 aI;subst e1 e2 e3;generalize dZ len=cz at *
  generalize bs.length=n at *
  generalize D.length=dn at *
  obtain⟨Q0,a1⟩:∃ Q0,bn*Z=Q0:=⟨_,rfl⟩;rw[a1]at aT hq bG;have bX:(Q0:Int)+(cn:Int)=(q:Int):=by omega
  have a7:=hid (show (F:Int)+(P:Int)=((F+P:Nat):Int) by push_cast;rfl);have bY:IntKind.u32.wrap (V:Int)=(V:Int):=by rw[aJE];omega
  have k1:¬ (cn:Int)<0:=by omega
  have k2:¬ (Z:Int)<=(cn:Int):=by omega
  have k3:¬ (bn:Int)<0:=by omega
  have k4:¬ cz<=(bn:Int):=by omega
  clear a1 hq hP;go_enter func12,ntmps12;go_wp2_with (go_at_call 36;fail)
  refine I.out.mono ?_;rintro e w2 ⟨rfl,d⟩;have B2:=hid (aC d (aP w2 (.cells #[.string nm,.int .i64 len,.int .i64 rate,.int .i64 Z,.bool lp,.int .i64 f,.int .i64 t,.int .i64 S,.int .i64 F] 101)));clear d;go_wp2_with (first|(refine aA rfl 101 (.tmp 11) (.tmp 18) rfl w2.heap.size rfl _ _ #[.string nm,.int .i64 len,.int .i64 rate,.int .i64 Z,.bool lp,.int .i64 f,.int .i64 t,.int .i64 S,.int .i64 F] rfl (LT w2 _) aB.out rfl U.out ?_;rw[aGT])|(go_at_call 61;refine (aI.out _).mono ?_;rintro e G ⟨rfl,rfl⟩))
  obtain⟨G,aV⟩:∃ G,w2.alloc (.cells #[.string nm,.int .i64 len,.int .i64 rate,.int .i64 Z,.bool lp,.int .i64 f,.int .i64 t,.int .i64 S,.int .i64 F] 101)=G:=⟨_,rfl⟩;rw[aV]at B2 ⊢;have M3:=hid (show Blk G w2.heap.size 101 [.string nm,.int .i64 len,.int .i64 rate,.int .i64 Z,.bool lp,.int .i64 f,.int .i64 t,.int .i64 S,.int .i64 F] by rw[<-aV];exact Blk.new w2 _ [.string nm,.int .i64 len,.int .i64 rate,.int .i64 Z,.bool lp,.int .i64 f,.int .i64 t,.int .i64 S,.int .i64 F]);clear aV;have m7:=fun (z:GW G)=>(show z.1.cell? ⟨w2.heap.size,7,none⟩=some (.int .i64 S) from aH (M3.out.below z.2 M3.out.lt) 7)
  have m8:=fun (z:GW G)=>(show z.1.cell? ⟨w2.heap.size,8,none⟩=some (.int .i64 F) from aH (M3.out.below z.2 M3.out.lt) 8)
  have x0:=fun (z:GW G)=>aY.out z.1 (aC B2.out z.2) 0 _ rfl
  have x1:=fun (z:GW G)=>aY.out z.1 (aC B2.out z.2) 1 _ rfl
  have a8:=hid (fun (z:GW G)=>a9.out z.1 (aC B2.out z.2));refine aU (by kernel_rfl) (by kernel_rfl) ?_
  repeat (go_big_quiet_step ((go_at_call 62;exact dA (a8.out _))))
  refine aGv ?_;intro w5 a2;have B5:=hid (aQ a2);clear a2 m7 m8 x0 x1;go_wp2;refine aGk (mG results12 _ _) rfl ?_;exact⟨by rw[<-a7.out];rfl,aC B2.out B5.out⟩
def aCp(w:World)(D:List aFK)(bs:List Nat)(size:Nat)(i c b:Int)(e:Ending)(w':World):Prop :=
 Below w.heap.size w w'/\((bR D i c b≠0/\e=.returned (.tuple #[.slice none 0 0,.int .i64 (bR D i c b)])) \/
  (bR D i c b=0/\∃ A d,e=.returned (.tuple #[.slice A size d,.int .i64 0])/\size<=d/\d<=9223372036854775807/\(A=none->d=0)/\Row w' w'.heap.size A (u8s (cC bs (bL D size i c b).toNat size))))
theorem J4(g size:Nat)(bs:List Nat)(D:List aFK)(i c b:Int)(w:World)(h:aF2 w g bs size D)(hf:aGb bs size D):
  Calls prog 82 #[.pointer (some ⟨g,0,none⟩),.int .i64 i,.int .i64 c,.int .i64 b] w (aCp w D bs size i c b):=by
 have G:=hid (zP g size bs D i c b w h hf);unfold aCp;unfold pM at G
 by_cases t:bR D i c b=0
 rotate_left
 ·have hA:bL D size i c b=0:=sL t;have hS:eG D bs i c b=0:=sL t;rw[hA,hS]at G;generalize bR D i c b=E at *
  have t1:(E != 0)=true:=by rw[aHk];exact t
  have t2:(E == 0)=false:=aG8.2 t;have HE:=hid t;clear t hA hS h hf;go_enter func82,ntmps82;go_wp2_with (go_at_call 12;fail)
  refine G.out.mono ?_;rintro e w2 ⟨rfl,Z⟩;go_wp2;refine aGk (aGN results82 _ _ _) rfl ?_;exact⟨Z,.inl ⟨HE.out,rfl⟩⟩
 ·obtain⟨x,bE,aT,bM,J,I,S,F,q,P,e1,rfl,rfl,e2,e3,aM,hq,hP,aN,l1,l2,_,b0,b1,bC⟩:=sA hf t;have hA:bL D size i J I=((F+P:Nat):Int):=by
   unfold bL nK;rw[FN t,aT,e1,e3,aM,<-Int.natCast_add,hq,aN]
   push_cast;rfl
  have bA:eG D bs i J I<4294967296:=by
   rw[show eG D bs i J I=bU bs ((fF D i).sums+4*nK D i J I).toNat 4 from FN t];exact qJ hf.byt _ 4
  rw[hA,t]at G;obtain⟨V,hV⟩:∃ V,eG D bs i J I=V:=⟨_,rfl⟩;rw[hV]at G bA;have bJ:=hid t;obtain⟨d,aG⟩:∃ d,F+P=d:=⟨_,rfl⟩;rw[aG]at G hA l2;have aB:=hid (show (bL D size i J I).toNat=d by rw[hA];rfl);rw[aB.out,t];have bS:=hf.long;have bT:=hf.lo;have bQ:=hf.hi;obtain⟨Ai,ci,Ad,cd,h1,h2,_,h4,h5,_,_,_,_⟩:=h.at_;obtain⟨y0,aU⟩:∃ y0,bs[0]? = some y0:=⟨_,TT (by omega)⟩;obtain⟨U,off,rfl,_,_⟩:=h2 0 _ (eL aU);have aD:=hid (fun W (hW:Below w.heap.size w W) j v (hv:([.slice (some ⟨U,off,none⟩) bs.length ci,.int .i64 size,.slice Ad D.length cd]:List Value)[j]? = some v)=>(show W.cell? ⟨g,j,none⟩=some v from by
   have hB:Blk w g 146 [.slice (some ⟨U,off,none⟩) bs.length ci,.int .i64 size,.slice Ad D.length cd]:=h1;rw[aH (hB.below hW hB.lt) j];exact hv))
  have aZ:=hid (fun W (hW:Below w.heap.size w W)=>(show Calls prog 99 #[.slice (some ⟨U,off+d,none⟩) size (ci-d)] W (aCq W 5 1 size (u8s (cC bs d size))) from by
   have hr:=(((h2.later hW).drop_ d).take size);rw[VG,VH,aCd (by omega)]at hr;exact FC (cC bs d size) (some ⟨U,off+d,none⟩) size (ci-d) W (eM _ _ _) (by omega) nofun hr))
  clear t aT hf h h1 h2 bE hV hA e1 e2 e3 aM hq hP aN aG aU b1 b0 aB bC l1;generalize bR D i J I=E at *
  generalize bs.length=n at *
  generalize D.length=dn at *
  have k1:d+size<=n:=by omega
  have k2:n<=ci:=by omega
  have aL:(d:Int)+(size:Int)=((d+size:Nat):Int):=by push_cast;rfl
  have bK:=hid aL;clear aL l2;go_enter func82,ntmps82;go_wp2_with (go_at_call 12;fail)
  refine G.out.mono ?_;rintro e w2 ⟨rfl,Z⟩;have O:=hid Z;clear Z;go_wp2_with fail
  have x0:=fun (z:GW w2)=>aD.out z.1 (aC O.out z.2) 0 _ rfl
  have x1:=fun (z:GW w2)=>aD.out z.1 (aC O.out z.2) 1 _ rfl
  refine aJ 12 (by kernel_rfl) (by kernel_rfl) ?_;simp only[List.take_succ_cons,List.take_zero,aGO,aGR]
  repeat (go_big_quiet_step (fail))
  refine aGv ?_;intro w5 aS;have B5:=hid (aQ aS);clear aS x0 x1;have aY:=hid (aZ.out w5 (aC O.out B5.out));go_wp2_with (go_at_call 99;fail)
  refine aY.out.mono ?_;rintro e w6 ⟨A6,c6,rfl,a6,a7,a8,aO,bB⟩;have R6:=hid (Row.of_own aO);clear aO;go_wp2;refine aGk (aGN results82 _ _ _) rfl ?_;exact⟨aC (aC O.out B5.out) bB,.inr ⟨trivial,A6,c6,rfl,a6,a7,a8,R6.out⟩⟩
section
theorem TC{i V:Nat}:∀ {W:List (Nat × List Nat)} {v:Nat},(∀ p∈W,p.1<=i/\i<p.1+p.2.length->p.2.getD (i-p.1) 0=V)->(∃ p∈W,p.1<=i/\i<p.1+p.2.length)->fP W i v=V
 | [],_,_,he=>by obtain⟨p,F,_⟩:=he;simp at F
 | p::r,v,h,he=>by
  show fP r i _=V
  by_cases z:∃ q∈r,q.1<=i/\i<q.1+q.2.length
  ·exact TC (fun q d=>h q (by simp[d])) z
  ·rw[mX (fun q d=>by
    have:¬ (q.1<=i/\i<q.1+q.2.length):=fun t=>z ⟨q,d,t⟩
    omega)]
   obtain⟨q,d,t⟩:=he;rcases aGw.1 d with rfl|d
   ·rw[FN t];exact h q (by simp) t
   ·exact absurd ⟨q,d,t⟩ z
structure FrW(first sums size:Nat)(rows:List (List Int))(p:Nat × List Nat)(k i:Nat)(d:List Int)(x:aFJ):Prop where
 hk:k<rows.length
 row:rows[k]? = some d
 hi:i<aS d.length
 fr:(bK d size)[i]? = some x
 eq:p=(first+(i*rows.length+k)*size,aM x size)\/p=(sums+4*(i*rows.length+k),cY 4 (l6 (aM x size)).toNat)
theorem LO{first sums size ch k:Nat}{fs:List aFJ}{p:Nat × List Nat}:∀ n,p∈gM first sums size ch k fs n->∃ i x,i<n/\fs[i]? = some x/\p∈nY first sums size (i*ch+k) x
 | 0,h=>by simp[gM]at h
 | n+1,h=>by
  unfold gM at h;rcases aGJ.1 h with h|h
  ·obtain⟨i,x,h1,h2,t⟩:=LO n h;exact⟨i,x,by omega,h2,t⟩
  ·cases d:fs[n]? with
   | none=>rw[d]at h;simp at h
   | some x=>rw[d]at h;exact⟨n,x,by omega,d,h⟩
theorem uJ{first sums size:Nat}{rows:List (List Int)}{p:Nat × List Nat}:∀ K,K<=rows.length->p∈fJ first sums size rows K->∃ k i d x,FrW first sums size rows p k i d x
 | 0,_,h=>by simp[fJ]at h
 | K+1,F,h=>by
  unfold fJ at h;rcases aGJ.1 h with h|h
  ·exact uJ K (by omega) h
  ·cases t:rows[K]? with
   | none=>rw[t]at h;simp at h
   | some d =>
    rw[t]at h;obtain⟨i,x,h1,h2,z⟩:=LO _ h;simp only[nY,aGw,aGV,aGS]at z;exact⟨K,i,d,x,by omega,t,h1,h2,z⟩
theorem KP{first sums size ch k:Nat}{fs:List aFJ}{i:Nat}{x:aFJ}{p:Nat × List Nat}(t:fs[i]? = some x)(d:p∈nY first sums size (i*ch+k) x):∀ n,i<n->p∈gM first sums size ch k fs n
 | 0,h=>by omega
 | n+1,h=>by
  unfold gM
  by_cases hi:i=n
  ·subst hi;rw[t];exact aJS _ d
  ·exact aJR _ (KP t d n (by omega))
theorem AG{first sums size:Nat}{rows:List (List Int)}{p:Nat × List Nat}{k i:Nat}{d:List Int}{x:aFJ}(h:FrW first sums size rows p k i d x):∀ K,k<K->p∈fJ first sums size rows K
 | 0,t=>by omega
 | K+1,t=>by
  unfold fJ
  by_cases hk:k=K
  ·subst hk;rw[h.row];refine aJS _ (KP h.fr ?_ _ h.hi);simp only[nY,aGw,aGV,aGS];exact h.eq
  ·exact aJR _ (AG h K (by omega))
theorem aFl{R i k d t:Nat}(hk:k<R)(z:t<R)(h:i*R+k=d*R+t):i=d/\k=t:=by
 have h1:(i*R+k) / R=i:=by rw[aH1,Nat.mul_add_div (by omega),aI4 hk];omega
 have h2:(d*R+t) / R=d:=by rw[aH1,Nat.mul_add_div (by omega),aI4 z];omega
 have:i=d:=by rw[<-h1,<-h2,h]
 subst this;exact⟨rfl,by omega⟩
section
variable {size : Nat} {SS : List aFM}
theorem rL{t:List aFK}{p:Nat × List Nat}:∀ M,p∈cT size SS t M->∃ m s x,m<M/\SS[m]? = some s/\t[m]? = some x/\p∈fJ x.first.toNat x.sums.toNat size s.rows s.rows.length
 | 0,h=>by simp[cT]at h
 | M+1,h=>by
  unfold cT at h;rcases aGJ.1 h with h|h
  ·obtain⟨m,s,x,h1,h2⟩:=rL M h;exact⟨m,s,x,by omega,h2⟩
  ·cases d:SS[M]? with
   | none=>rw[d]at h;simp at h
   | some s =>
    cases z:t[M]? with
    | none=>rw[d,z]at h;simp at h
    | some x=>rw[d,z]at h;exact⟨M,s,x,by omega,d,z,h⟩
theorem wV{d:List aFK}{p:Nat × List Nat}{m:Nat}{s:aFM}{x:aFK}(z:SS[m]? = some s)(F:d[m]? = some x)(t:p∈fJ x.first.toNat x.sums.toNat size s.rows s.rows.length):∀ M,m<M->p∈cT size SS d M
 | 0,h=>by omega
 | M+1,h=>by
  unfold cT
  by_cases hm:m=M
  ·subst hm;rw[z,F];exact aJS _ t
  ·exact aJR _ (wV z F t M (by omega))
structure aGa(size:Nat)(SS:List aFM)(m:Nat)(s:aFM)(F S cnt R A B:Nat):Prop where
 fst:((aG size SS)[m]?).map (·.first)=some (F:Int)
 sum:((aG size SS)[m]?).map (·.sums)=some (S:Int)
 hcnt:aS (dD s.rows)=cnt
 hR:s.rows.length=R
 ha:bX size (SS.map aN) m=A
 hb:bX size (SS.map aN) (m+1)=B
 lo:A=S
 mid:S+4*(cnt*R)<=F
 up:F+size*(cnt*R)=B
theorem aFY.place(h:aFY size SS){m:Nat}{s:aFM}(d:SS[m]? = some s):∃ F S cnt R A B,aGa size SS m s F S cnt R A B:=by
 have hm:=(aGi.1 d).1;have V:(SS.map aN)[m]? = some (aN s):=by rw[aF5,d];rfl
 have hb:=h.bd m (by omega);have O:=h.bd (m+1) (by omega);have I:=gL (size:=(size:Int)) V;have t:=BU s;rw[t]at I;have G:=I6 (bX size (SS.map aN) m+4*bE (aN s));rw[t]at G;obtain⟨A,hA⟩:=aGF hb.1;obtain⟨B,z⟩:=aGF O.1;have U:0<=upZ (bX size (SS.map aN) m+4*((aS (dD s.rows)*s.rows.length:Nat):Int)) 16:=by omega
 obtain⟨F,hF⟩:=aGF U;have J:(size:Int)*((aS (dD s.rows)*s.rows.length:Nat):Int)=((size*(aS (dD s.rows)*s.rows.length):Nat):Int):=by push_cast;rfl
 rw[hF,J,z]at I;rw[hF,hA]at G;refine⟨F,A,_,_,A,B,?_,?_,rfl,rfl,hA,z,rfl,?_,?_⟩
 ·rw[fZ d];show some (upZ (bX size (SS.map aN) m+4*bE (aN s)) 16)=_;rw[t,hF]
 ·rw[fZ d];show some (bX size (SS.map aN) m)=_;rw[hA]
 ·generalize aS (dD s.rows)*s.rows.length=T at *
  omega
 ·generalize size*(aS (dD s.rows)*s.rows.length)=T at *
  omega
theorem FrW.lies{m:Nat}{s:aFM}{F S cnt R A B:Nat}(h:aFY size SS)(V:SS[m]? = some s)(t:aGa size SS m s F S cnt R A B){p:Nat × List Nat}{k i:Nat}{d:List Int}{x:aFJ}(hf:FrW F S size s.rows p k i d x):
  ∃ q,q=i*R+k/\q+1<=cnt*R/\q*size+size<=size*(cnt*R)/\(aM x size).length=size/\(p=(F+q*size,aM x size)\/p=(S+4*q,cY 4 (l6 (aM x size)).toNat))/\S<=p.1/\p.1+p.2.length<=B:=by
 have I:=h.fine s (aGh V);have G:=aGh hf.row;have z:=dO (I.good.2 d G).2 (size:=(size:Int)) (by have:=h.lo;omega) (by have:=h.hi;omega) x (aGh hf.fr);have J:=eA z.1 z.2;have hi:i<cnt:=by have:=hf.hi;rw[I.same d G,t.hcnt]at this;exact this
 have hk:k<R:=by have:=hf.hk;rw[t.hR]at this;exact this
 have O:i*R+k+1<=cnt*R:=by
  have:=aHq R (show i+1<=cnt by omega);rw[aHb]at this;omega
 have U:(i*R+k)*size+size<=size*(cnt*R):=by
  have:=aHq size O;rw[aHb,aH1 (cnt*R) size]at this;exact this
 have he:=hf.eq;rw[t.hR]at he;have h1:=t.mid;have h2:=t.up;refine⟨i*R+k,rfl,O,U,J,he,?_⟩;generalize size*(cnt*R)=T at *
 generalize cnt*R=W at *
 rcases he with rfl|rfl
 ·rw[J];show S<=F+_/\F+_+size<=B;generalize (i*R+k)*size=P at *
  omega
 ·rw[bG];show S<=S+4*_/\S+4*_+4<=B;generalize i*R+k=q at *
  omega
theorem aGa.nat{m:Nat}{s:aFM}{F S cnt R A B:Nat}(d:aGa size SS m s F S cnt R A B){x:aFK}(z:(aG size SS)[m]? = some x):x.first.toNat=F/\x.sums.toNat=S:=by
 have h1:=d.fst;have h2:=d.sum;rw[z]at h1 h2;have h:x.first=F:=aG7 h1
 have t:x.sums=S:=aG7 h2;rw[h,t];exact⟨rfl,rfl⟩
theorem aFY.apart(h:aFY size SS){p J:Nat × List Nat}(hp:p∈cT size SS (aG size SS) SS.length)(a7:J∈cT size SS (aG size SS) SS.length){j:Nat}
 (G:p.1<=j/\j<p.1+p.2.length)(z:J.1<=j/\j<J.1+J.2.length):p=J:=by
 obtain⟨m,s,x,hm,hs,O,hl⟩:=rL _ hp;obtain⟨m',s',x',bJ,aA,aB,aP⟩:=rL _ a7;obtain⟨F,S,cnt,R,A,B,t⟩:=h.place hs;obtain⟨F',S',bF,R',A',B',I⟩:=h.place aA;rw[(t.nat O).1,(t.nat O).2]at hl;rw[(I.nat aB).1,(I.nat aB).2]at aP;obtain⟨k,i,d,y,hf⟩:=uJ _ (LE _) hl;obtain⟨k',i',d',y',aE⟩:=uJ _ (LE _) aP;obtain⟨q,hq,q1,q2,aI,he,l1,l2⟩:=hf.lies h hs t;obtain⟨U,aJ,aT,bR,aQ,aN,bN,bP⟩:=aE.lies h aA I;have aR:=fun (a b:Nat) (a1:a<=b)=>tZ (size:=(size:Int)) (by have:=h.lo;omega) h.few a1
 rcases aJu m m' with hlt|a2|a3
 ·have:=aR (m+1) m' hlt;rw[t.hb,I.ha,I.lo]at this;omega
 ·subst a2;rw[hs]at aA;injection aA with aA
  subst aA;rw[O]at aB;injection aB with aB
  subst aB;have e1:=(t.nat O).1.symm.trans (I.nat O).1;have e2:=(t.nat O).2.symm.trans (I.nat O).2;have e3:=t.hR.symm.trans I.hR;have e4:=t.hcnt.symm.trans I.hcnt;subst e1 e2 e3 e4;have bK:=t.mid;have a4:k<R:=by have:=hf.hk;rw[t.hR]at this;exact this
  have a5:k'<R:=by have:=aE.hk;rw[t.hR]at this;exact this
  have same:q=U->p=J\/(p=(F+q*size,aM y size)/\J=(S+4*q,cY 4 (l6 (aM y size)).toNat))\/(J=(F+q*size,aM y size)/\p=(S+4*q,cY 4 (l6 (aM y size)).toNat)):=fun e=>by
   rw[hq,aJ]at e;obtain⟨ei,ek⟩:=aFl a4 a5 e;subst ei ek;have er:=hf.row.symm.trans aE.row;injection er with er
   subst er;have ef:=hf.fr.symm.trans aE.fr;injection ef with ef
   subst ef;rw[<-hq]at aJ;subst aJ;rcases he with rfl|rfl <;> rcases aN with rfl|rfl
   ·exact .inl rfl
   ·exact .inr (.inl ⟨rfl,rfl⟩)
   ·exact .inr (.inr ⟨rfl,rfl⟩)
   ·exact .inl rfl
  have Z:∀ (a b:Nat),a+1<=cnt*R->F+b*size<=j->¬ (S+4*a<=j/\j<S+4*a+4):=fun a b h1 h2 h3=>by
   generalize cnt*R=T at *
   generalize b*size=P at *
   omega
  have a9:∀ a b:Nat,a*size<=j-F->j-F<a*size+size->b*size<=j-F->j-F<b*size+size->a=b:=fun a b h1 h2 h3 h4=>by
   have ha:(j-F) / size=a:=by
    rw[aJZ (by have:=h.lo;omega)];constructor <;> omega
   have hb:(j-F) / size=b:=by
    rw[aJZ (by have:=h.lo;omega)];constructor <;> omega
   omega
  rcases he with aC|aC <;> rcases aN with aD|aD
  ·have V:=G;have W:=z;rw[aC,aI]at V;rw[aD,aQ]at W;simp only at V W;have e:=a9 q U (by omega) (by omega) (by omega) (by omega);rcases same e with h1|⟨_,h1⟩|⟨_,h1⟩
   ·exact h1
   ·rw[h1]at z;rw[bG]at z;exact absurd z (Z q q q1 (by omega))
   ·rw[h1]at G;rw[bG]at G;exact absurd G (Z q q q1 (by omega))
  ·rw[aC,aI]at G;rw[aD,bG]at z;exact absurd z (Z U q aT G.1)
  ·rw[aC,bG]at G;rw[aD,aQ]at z;exact absurd G (Z q U q1 z.1)
  ·have V:=G;have W:=z;rw[aC,bG]at V;rw[aD,bG]at W;simp only at V W;have e:q=U:=by omega
   rcases same e with h1|⟨h1,_⟩|⟨h1,_⟩
   ·exact h1
   ·rw[h1,aI]at G;exact absurd V (Z q q q1 G.1)
   ·rw[h1]at z;rw[e]at z;exact absurd W (Z U U aT z.1)
 ·have:=aR (m'+1) m a3;rw[I.hb,t.ha,t.lo]at this;omega
theorem aFY.frame_gd(h:aFY size SS){p:Nat × List Nat}(z:p∈cT size SS (aG size SS) SS.length){j:Nat}(Z:j<p.2.length):(bC size SS).getD (p.1+j) 0=p.2.getD j 0:=by
 have V:oQ (b6 size SS) (cT size SS (aG size SS) SS.length):=o4 h.lo h.hi h.fine h.len_eq SS.length;obtain⟨m,s,x,hm,I,J,G⟩:=rL _ z;obtain⟨F,S,cnt,R,A,B,t⟩:=h.place I;rw[(t.nat J).1,(t.nat J).2]at G;obtain⟨k,i,d,y,hf⟩:=uJ _ (LE _) G;obtain⟨q,hq,q1,q2,aA,he,l1,l2⟩:=hf.lies h I t;have O:=h.base m;rw[t.ha,t.lo]at O;rw[oF,h.head.far (by omega),yR (by rw[aHQ];exact V)];refine TC (fun p' W U=>?_) ⟨p,z,by omega,by omega⟩;have:=h.apart z W (j:=p.1+j) (by omega) U;subst this
 congr 1
 omega
theorem aFY.frame_at(h:aFY size SS){m:Nat}{s:aFM}{F S cnt R A B:Nat}(z:SS[m]? = some s)(t:aGa size SS m s F S cnt R A B){k i:Nat}{d:List Int}{x:aFJ}(hk:k<R)(J:s.rows[k]? = some d)(hi:i<cnt)(W:(bK d size)[i]? = some x):
  cC (bC size SS) (F+(i*R+k)*size) size=aM x size/\(bU (bC size SS) (S+4*(i*R+k)) 4:Int)=l6 (aM x size):=by
 have hm:=(aGi.1 z).1;have aC:=h.fine s (aGh z);have V:d.length=dD s.rows:=aC.same d (aGh J);have aD:=fZ (size:=size) z;obtain⟨xm,O⟩:∃ xm,(aG size SS)[m]? = some xm:=⟨_,aD⟩;have I:=t.nat O;have f1:FrW F S size s.rows (F+(i*s.rows.length+k)*size,aM x size) k i d x:=⟨by rw[t.hR];exact hk,J,by rw[V,t.hcnt];exact hi,W,.inl rfl⟩;have f2:FrW F S size s.rows (S+4*(i*s.rows.length+k),cY 4 (l6 (aM x size)).toNat) k i d x:=⟨by rw[t.hR];exact hk,J,by rw[V,t.hcnt];exact hi,W,.inr rfl⟩;have Z:=wV z O (by rw[I.1,I.2];exact AG f1 _ (by rw[t.hR];exact hk)) SS.length hm;have m2:=wV z O (by rw[I.1,I.2];exact AG f2 _ (by rw[t.hR];exact hk)) SS.length hm;obtain⟨q,hq,q1,q2,U,he,l1,l2⟩:=f1.lies h z t;rw[t.hR]at Z m2;constructor
 ·refine aGL fun j=>?_
  by_cases G:j<size
  ·rw[gR G,h.frame_gd Z (by rw[U];exact G),aGz,TT (by rw[U];exact G)]
   rfl
  ·rw[aGr (by rw[eM];omega),aGr (by omega)]
 ·have hb:=uD (aM x size);have:=f4 (X:=bC size SS) (a:=S+4*(i*R+k)) (v:=(l6 (aM x size)).toNat) (fun j G=>h.frame_gd m2 (by rw[bG];exact G)) (by omega);rw[this];omega
end
end
section
section
variable {size : Nat} {SS : List aFM}
theorem aFY.fit(h:aFY size SS):aGb (bC size SS) size (aG size SS):=by
 have d:=h.len_bd;have:=XL (CT h) (by rw[kS h];omega) (LV h);rw[IH h,LW h,LY h]at this;exact this
theorem aFY.asked(h:aFY size SS){i c b:Int}(G:bR (aG size SS) i c b=0):
  ∃ m s d x,i=(m:Nat)/\SS[m]? = some s/\s.rows[c.toNat]? = some d/\(bK d size)[b.toNat]? = some x/\cC (bC size SS) (bL (aG size SS) size i c b).toNat size=aM x size/\(eG (aG size SS) (bC size SS) i c b:Int)=l6 (aM x size):=by
 have V:i8 (aG size SS) i=0:=by
  unfold bR at G;split at G
  ·cases G
  ·rename_i h1;simpa using h1
 have hi:¬ (i<0\/((aG size SS).length:Int)<=i):=by
  intro hc;unfold i8 at V;rw[FN hc]at V;cases V
 obtain⟨m,rfl⟩:=aGF (show 0<=i by omega);rw[dJ]at hi;have hm:m<SS.length:=by omega
 obtain⟨s,I⟩:∃ s,SS[m]? = some s:=⟨_,TT hm⟩;obtain⟨F,S,cnt,R,A,B,t⟩:=h.place I;have aA:=fZ (size:=size) I;have Z:fF (aG size SS) (m:Int)=plc size (SS.map aN) m (aN s):=by
  unfold fF;rw[dJ,sL hi,Int.toNat_natCast,aGz,aA]
  rfl
 obtain⟨x,a5,z,ch,O,J,S',F',q,P,e1,rfl,rfl,e2,e3,aH,U,hP,aT,l1,l2,⟨c0,c1⟩,b0,b1,a0⟩:=sA h.fit G;rw[Z]at z;have a2:x.first=F:=by
  have:=t.fst;rw[aA,z]at this;exact aG7 this
 have a4:x.sums=S:=by
  have:=t.sum;rw[aA,z]at this;exact aG7 this
 have a1:x.channels=R:=by
  rw[<-z,<-t.hR]
  rfl
 have a3:dZ x.length=cnt:=by
  rw[<-z,<-t.hcnt,<-FE]
  rfl
 have hF:F'=F:=by omega
 have hS:S'=S:=by omega
 have hR:ch=R:=by omega
 subst hF hS hR;have aS:=h.fine s (aGh I);have aF:O<ch:=by omega
 obtain⟨d,W⟩:∃ d,s.rows[O]? = some d:=⟨_,TT (by rw[t.hR];exact aF)⟩;have aE:J<cnt:=by omega
 have aR:d.length=dD s.rows:=aS.same d (aGh W);obtain⟨y,hy⟩:∃ y,(bK d size)[J]? = some y:=⟨_,TT (by rw[eU,aR,t.hcnt];exact aE)⟩;obtain⟨r1,r2⟩:=h.frame_at I t aF W aE hy;have hA:bL (aG size SS) size m O J=((F'+P:Nat):Int):=by
  unfold bL nK;rw[FN G,Z,z,e1,e3,aH,<-Int.natCast_add,U,aT]
  push_cast;rfl
 have aP:eG (aG size SS) (bC size SS) m O J=bU (bC size SS) (S'+4*q) 4:=by
  unfold eG nK;rw[FN G,Z,z,e1,e2,aH,<-Int.natCast_add,U]
  congr 1
 refine⟨m,s,d,y,rfl,I,W,hy,?_,?_⟩
 ·rw[hA,Int.toNat_natCast,<-hP,<-U];exact r1
 ·rw[aP,<-U];exact r2
end
end
def sK(size:Int)(d:List aFM):Int:=if size<24\/96<size then 12 else dM d
def aE5(w:World)(size:Int)(d:List aFM)(e:Ending)(w':World):Prop :=
 Below w.heap.size w w'/\((sK size d≠0/\e=.returned (.tuple #[.slice none 0 0,.int .i64 (sK size d)])) \/
  (sK size d=0/\∃ (sz g:Nat),size=sz/\aFY sz (cV d)/\w.heap.size<=g/\BytesAt w' g (bC sz (cV d))/\e=.returned (.tuple #[.slice (some ⟨g,0,none⟩) (b6 sz (cV d)) (b6 sz (cV d)),.int .i64 0])))
theorem aCC(size:Int)(L:List (aFR × aFM))(A:Option Addr)(cap:Nat)(w:World)(z:L.length<=8)(O:A=none->cap=0)(h:aFX w w.heap.size A L)(G:∀ p∈L,p.2.small):
  Calls prog 52 #[.int .i64 size,.slice A L.length cap] w (aE5 w size (L.map (·.2))):=by
 by_cases F:size<24\/96<size
 ·have d:sK size (L.map (·.2))=12:=FN F;refine (aAN size A L.length cap w F).mono ?_;rintro e w' ⟨he,hb⟩;exact⟨hb,.inl ⟨by rw[d];decide,by rw[d];exact he⟩⟩
 ·have t:sK size (L.map (·.2))=dM (L.map (·.2)):=sL F
  by_cases d:dM (L.map (·.2))=0
  ·obtain⟨sz,rfl⟩:=aGF (show 0<=size by omega);refine (aEf sz L A cap w (by omega) (by omega) z O h G d).mono ?_;rintro e w' ⟨g,he,J,hb,I⟩;refine⟨I,.inr ⟨by rw[t];exact d,sz,g,rfl,aEk (by omega) (by omega) (by rw[aF7];exact z) (fun s h=>?_) d,J,hb,he⟩⟩;obtain⟨p,U,rfl⟩:=aGq.1 h;exact G p U
  ·refine (aCD size _ L A cap w (by omega) (by omega) z h rfl d).mono ?_;rintro e w' ⟨he,hb⟩;exact⟨hb,.inl ⟨by rw[t];exact d,by rw[t];exact he⟩⟩
end Go.Proofs.YtbpgfkjhclpbdaaGreatDoor
