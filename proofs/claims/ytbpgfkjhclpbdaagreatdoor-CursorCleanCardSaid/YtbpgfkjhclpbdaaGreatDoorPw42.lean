/- BankE, BankF, BankG, BankH, BankI, BankJ, BankK, ParC, PlaceG. Conditions: as each theorem states. -/
import Derived.Test.YtbpgfkjhclpbdaaGreatDoorPw32
import Derived.Test.YtbpgfkjhclpbdaaGreatDoorPw40
import Derived.Test.YtbpgfkjhclpbdaaGreatDoorPw41
set_option maxRecDepth 100000
set_option maxHeartbeats 16000000
namespace Go.Proofs.YtbpgfkjhclpbdaaGreatDoor
open Tryz
open Go.RowKit Go.Lib
def aFK.cells(m:aFK):List Value:=[.string m.name,.int .i64 m.length,.int .i64 m.rate,.int .i64 m.channels,.bool m.loop,.int .i64 m.from_,.int .i64 m.to_,.int .i64 m.sums,.int .i64 m.first]
def bB(L:List aFK):List Value:=(L.map aFK.cells).flatten
theorem iQ(L:List aFK){k:Nat}{p:aFK}(h:L[k]? = some p)(j:Nat)(t:j<9):(bB L)[k*9+j]? = p.cells[j]?:=by
 unfold bB;rw[mU 9 (L.map aFK.cells) (fun F d=>by obtain⟨z,_,rfl⟩:=aGq.1 d;rfl) k j t];simp[h]
theorem iD{w:World}{B:Nat}{A:Option Addr}{L:List aFK}(t:Row w B A (bB L)){k:Nat}{p:aFK}(h:L[k]? = some p):
  ∃ b off,A=some ⟨b,off,none⟩/\b<B/\∀ j v,p.cells[j]? = some v->w.cell? ⟨b,off+k*9+j,none⟩=some v:=by
 have I:=iQ L h 0 (by omega);obtain⟨b,off,hA,hb,_⟩:=t (k*9+0) (.string p.name) I;refine⟨b,off,hA,hb,fun j v z=>?_⟩;have O:j<9:=by have:=(aGi.1 z).1;simpa[aFK.cells] using this
 have h1:=iQ L h j O;rw[z]at h1;obtain⟨U,V,d,_,J⟩:=t (k*9+j) v h1;rw[hA]at d;injection d with d
 injection d with F G
 subst F G;rw[aG4];exact J
structure aGe(m:aFK):Prop where
 name:m.name.size<=32
 len:0<=m.length
 rate:0<=m.rate
 ch0:0<=m.channels
 ch1:m.channels<=255
 f:0<=m.from_
 t:0<=m.to_
 sums:0<=m.sums
 first:0<=m.first
theorem aBd(bs:List Nat)(g off n cap:Nat)(m:aFK)(w:World)(hm:aGe m)(hb:BytesAt w g bs)(V:off+n<=bs.length)(O:58<=n)(U:n<=1000000000):
  Calls prog 149 #[.slice (some ⟨g,off,none⟩) n cap,.agg m.cells.toArray] w (iJ w g (lays bs (d9 off m))):=by
 obtain⟨h1,h2,d,h,J,z,F,G,I⟩:=hm;obtain⟨nm,len,rate,ch,lp,f,t,sums,first⟩:=m;simp only at h1 h2 d h J z F G I;obtain⟨len,rfl⟩:=aGF h2;obtain⟨rate,rfl⟩:=aGF d;obtain⟨ch,rfl⟩:=aGF h;obtain⟨f,rfl⟩:=aGF z;obtain⟨t,rfl⟩:=aGF F;obtain⟨sums,rfl⟩:=aGF G;obtain⟨first,rfl⟩:=aGF I;exact aBc bs g off n cap nm len rate ch lp f t sums first w hb V O U h1 (by omega)
theorem BO{off n:Nat}{m:aFK}(h:m.name.size<=32)(z:off+58<=n):oQ n (d9 off m):=by
 intro p d;unfold d9 at d;have t:(j1 m.name).length<=32:=by rw[eY];exact h
 split at d
 ·simp only[aGJ,aGw,aGV,aGS]at d;rcases d with (rfl|rfl|rfl|rfl|rfl|rfl|rfl|rfl)|rfl
  all_goals
   try simp only[bG,List.length_cons,List.length_nil]
   omega
 ·simp only[aGJ,aGw,aGV,aGS]at d;rcases d with rfl|rfl|rfl|rfl|rfl|rfl|rfl|rfl
  all_goals
   try simp only[bG,List.length_cons,List.length_nil]
   omega
def cZ(L:List aFK):Nat->List (Nat × List Nat)
 | 0=>[]
 | m+1=>cZ L m++match L[m]? with
  | some x=>d9 (16+m*64) x
  | none=>[]
theorem BP{L:List aFK}{m:Nat}{x:aFK}(h:L[m]? = some x):cZ L (m+1)=cZ L m++d9 (16+m*64) x:=by
 show cZ L m++(match L[m]? with|some x=>_|none=>_)=_;rw[h]
theorem oT{L:List aFK}{n:Nat}(hL:∀ m∈L,m.name.size<=32):∀ m,16+m*64<=n->oQ n (cZ L m)
 | 0,_=>fun p d=>by simp[cZ]at d
 | m+1,h=>by
  intro p d;unfold cZ at d;rcases aGJ.1 d with h1|h1
  ·exact oT hL m (by omega) p h1
  ·cases t:L[m]? with
   | none=>rw[t]at h1;simp at h1
   | some x=>rw[t]at h1;exact BO (hL x (aGh t)) (by omega) p h1
def fI(n c size:Nat):List (Nat × List Nat):=[(0,[67,65,76,49]),(4,cY 4 n),(8,cY 2 c),(10,[size])]
theorem rJ{n N c size:Nat}(h:16<=N):oQ N (fI n c size):=by
 intro p d;unfold fI at d;simp only[aGw,aGV,aGS]at d;rcases d with rfl|rfl|rfl|rfl
 all_goals
  simp only[bG,List.length_cons,List.length_nil];omega
def bF(bs:List Nat)(L:List aFK)(size:Nat):List Nat :=
 aW (lays bs (fI bs.length L.length size++cZ L L.length)) (16+L.length*64) (cY 4 (l6 ((lays bs (fI bs.length L.length size++cZ L L.length)).take (16+L.length*64))).toNat)
theorem aDg(bs:List Nat)(g n cap:Nat)(L:List aFK)(A:Option Addr)(cA size:Nat)(w:World)(hb:BytesAt w g bs)(hn:bs.length=n)(cX:n<=cap)(cB:20+L.length*64<=n)(hl:n<=100000000)(hc:L.length<=64)(c0:size<=255)
 (hL:∀ m∈L,aGe m)(hr:Row w w.heap.size A (bB L))(hA:∀ ad,A=some ad->ad.block≠g):
  Calls prog 96 #[.slice (some ⟨g,0,none⟩) n cap,.slice A L.length cA,.int .i64 size] w (iJ w g (bF bs L size)):=by
 have V:=hid (show bF bs L size=aW (lays bs (fI bs.length L.length size++cZ L L.length)) (16+L.length*64) (cY 4 (l6 ((lays bs (fI bs.length L.length size++cZ L L.length)).take (16+L.length*64))).toNat) from rfl);rw[hn]at V;have aF:=hid (rJ (n:=n) (N:=n) (c:=L.length) (size:=size) (by omega));have aD:=hid (fun m (h:m<=L.length)=>oT (L:=L) (n:=n) (fun m hm=>(hL m hm).name) m (by omega));obtain⟨c,I⟩:∃ c,L.length=c:=⟨_,rfl⟩;rw[I]at cB hc V aF aD ⊢;have Hc:=hid I;have Hb:=hid hb;have Hr:=hid hr;have HA:=hid hA;have HL:=hid hL;have Hn:=hid hn;have aI:=hid (fun (aA:List Nat) (k s v:Nat) (W:World) (h:BytesAt W g aA) (aT:aA.length=n) (hk:k+s<=n) (hs:s<=4)=>(show Calls prog 148 #[.slice (some ⟨g,0,none⟩) n cap,.int .i64 k,.int .i64 s,.int .i64 v] W (iJ W g (aW aA k (cY s v))) from by
  have:=wR aA g 0 n cap k s v W h (by omega) hk (by omega) hs
  rwa [aGn]at this))
 have c2:IntKind.u8.wrap (size:Int)=(size:Int):=by rw[aJF];omega
 have a1:∀ W,BytesAt W g bs->(Builtin.copy_ #[32,9] 3 #[.slice (some ⟨g,0,none⟩) n cap,.string ⟨#[67,65,76,49]⟩]).run prog W=.ok (goInt 4) (W.setRow g (u8s (aW bs 0 [67,65,76,49])).toArray):=fun W h=>KS W g 0 n cap ⟨#[67,65,76,49]⟩ bs h (by show 4<=n;omega) (by show 0+4<=_;omega) _
 have a2:=a1 w hb;obtain⟨w2,aC⟩:∃ w2,w.setRow g (u8s (aW bs 0 [67,65,76,49])).toArray=w2:=⟨_,rfl⟩;rw[aC]at a2;have b6:=hid (show BytesAt w2 g (aW bs 0 [67,65,76,49]) by rw[<-aC];exact zU hb);have b1:=hid (show w.grownBy w2 (some g) by rw[<-aC];exact eC (aG1 _ _) _);have aN:=hid (show (aW bs 0 [67,65,76,49]).length=n by rw[dG (by simp only[List.length_cons,List.length_nil];omega),hn]);clear aC a1 hb hr hA hL hn I;go_enter func96,ntmps96;go_wp2_with (go_at_call 148;fail)
 clear a2;refine (aI.out _ 4 4 n w2 b6.out aN.out (by omega) (by omega)).mono ?_;rintro e y1 ⟨rfl,bE,a3⟩;have Y1:=hid bE;have G1:=hid (aHi b1.out a3);have L1:=hid (show (aW (aW bs 0 [67,65,76,49]) 4 (cY 4 n)).length=n by rw[dG (by rw[bG,aN.out];omega),aN.out]);clear bE a3;go_wp2_with (go_at_call 148;fail)
 refine (aI.out _ 8 2 c y1 Y1.out L1.out (by omega) (by omega)).mono ?_;rintro e y2 ⟨rfl,bH,a4⟩;have Y2:=hid bH;have G2:=hid (aHi G1.out a4);have L2:=hid (show (aW (aW (aW bs 0 [67,65,76,49]) 4 (cY 4 n)) 8 (cY 2 c)).length=n by rw[dG (by rw[bG,L1.out];omega),L1.out]);clear bH a4;obtain⟨v6,bC⟩:=aE (k:=10) L2.out (by omega);have c6:=Y2.out.cell bC;have f5:=mP Y2.out;have bQ:=hid (Y2.out.put 10 size);clear bC;have aX:=hid (show BytesAt (y2.setCell ⟨g,10,none⟩ (.int .u8 size)) g (lays bs (fI n c size++cZ L 0)) from by
  have h:=bQ.out;rw[uR _ (by rw[L2.out];omega)]at h;rw[show fI n c size++cZ L 0=fI n c size by simp[cZ]];exact h)
 have G3:=hid (aHI G2.out 10 (.int .u8 size));have aG:=hid (fun m (h:m<=c)=>(show (lays bs (fI n c size++cZ L m)).length=n from n7 Hn.out (fun p J=>by
  rcases aGJ.1 J with h1|h1
  ·exact aF.out p h1
  ·exact aD.out m h p h1)))
 go_wp2_with fail
 clear c6 f5;go_loopw [25] (fun i wr=>∃ m:Nat,m<=c/\i=.int .i64 m/\BytesAt wr g (lays bs (fI n c size++cZ L m))/\w.grownBy wr (some g)) (fun i _=>c-(intOf i).toNat)
 case atStart=>exact⟨0,by omega,rfl,aX.out,G3.out⟩
 case round =>
  obtain⟨m,hm,rfl,aS,a8⟩:=hrel;have aK:=hid aS;have aM:=hid a8;have cV:=hid (show g<wr.heap.size from aS.lt);clear aS a8
  by_cases hlt:m<c
  ·have t1:(m:Int)<(c:Int):=by omega
   have t2:(0:Int)<=(m:Int):=by omega
   obtain⟨p,J⟩:=aE (k:=m) Hc.out hlt;obtain⟨b,off,rfl,a0,I⟩:=iD Hr.out J;have cD:b≠g:=HA.out _ rfl;have bZ:=hid (BP J);have bW:=hid (HL.out p (aGh J));have aT:=aG.out m (by omega);have bU:=hid (fun W (h:BytesAt W g (lays bs (fI n c size++cZ L m)))=>(show Calls prog 149 #[.slice (some ⟨g,16+m*64,none⟩) (n-(16+m*64)) (cap-(16+m*64)),.agg p.cells.toArray] W (iJ W g (lays bs (fI n c size++cZ L (m+1)))) from by
    rw[bZ.out,<-List.append_assoc,GR bs (fI n c size++cZ L m)];exact aBd _ g (16+m*64) (n-(16+m*64)) (cap-(16+m*64)) p W bW.out h (by omega) (by omega) (by omega)))
   obtain⟨nm,len,rate,ch,lp,f,t,sums,first⟩:=p;have d:=hid (fun j v (G:(aFK.cells ⟨nm,len,rate,ch,lp,f,t,sums,first⟩)[j]? = some v)=>(show wr.cell? ⟨b,off+m*9+j,none⟩=some v from (aM.out.cell_far ⟨b,off+m*9+j,none⟩ a0 (fun e=>cD (by injection e))).trans (I j v G)));have k0:=d.out 0 _ rfl;have k1:=d.out 1 _ rfl;have k2:=d.out 2 _ rfl;have k3:=d.out 3 _ rfl;have k4:=d.out 4 _ rfl;have k5:=d.out 5 _ rfl;have k6:=d.out 6 _ rfl;have k7:=d.out 7 _ rfl;have k8:=d.out 8 _ rfl;rw[Nat.add_zero]at k0;clear I J a0 d aT;have cW:16+m*64+64<=n:=by omega
   go_wp2_with fail
   clear k0 k1 k2 k3 k4 k5 k6 k7 k8;obtain⟨O,U⟩:∃ O,wr.alloc (.cells #[.string nm,.int .i64 len,.int .i64 rate,.int .i64 ch,.bool lp,.int .i64 f,.int .i64 t,.int .i64 sums,.int .i64 first] 101)=O:=⟨_,rfl⟩;rw[U];have aO:=hid (show Blk O wr.heap.size 101 (aFK.cells ⟨nm,len,rate,ch,lp,f,t,sums,first⟩) by rw[<-U];exact Blk.new wr _ (aFK.cells ⟨nm,len,rate,ch,lp,f,t,sums,first⟩));have Z:=hid (show BytesAt O g (lays bs (fI n c size++cZ L m)) by rw[<-U];exact aK.out.alloc _);have aL:=hid (show w.grownBy O (some g) by rw[<-U];exact grownBy_allocR aM.out _);obtain⟨gm,a7⟩:∃ gm,wr.heap.size=gm:=⟨_,rfl⟩;rw[a7]at aO ⊢;clear U a7;have x5:=fun (z:GW O)=>(z.2.block gm aO.out.lt).trans aO.out
   have bV:=hid (show (prog.info? 101).map (·.size)=some 9 by kernel_rfl);refine aJ 6 (by kernel_rfl) (by kernel_rfl) ?_;simp only[List.take_succ_cons,List.take_zero,aGO,aGR]
   repeat (first|(go_big_quiet_want;refine bT 101 (.tmp 7) rfl gm rfl _ (aFK.cells ⟨nm,len,rate,ch,lp,f,t,sums,first⟩).toArray _ _ (by rintro _ ⟨x,rfl⟩;exact x5 x) underlying101 rfl bV.out ?_;go_simp;go_big_quiet_on)|go_big_quiet_step (fail))
   refine aGv ?_;intro w6 bD;have B6:=hid (aQ bD);clear bD x5;go_wp2_with (go_at_call 149;fail)
   refine (bU.out w6 (Z.out.below B6.out Z.out.lt)).mono ?_;rintro e w7 ⟨rfl,bJ,a6⟩;have b7:=hid bJ;have b2:=hid (aHi (aH4 aL.out B6.out) a6);clear bJ a6;go_wp2;go_roundw
   case rel=>exact⟨m+1,by omega,by go_num,b7.out,b2.out⟩
   case measure=>simp[intOf];omega
  ·have cG:m=c:=by omega
   subst cG;have t1:¬ ((m:Int)<(m:Int)):=by omega
   obtain⟨D,hD⟩:∃ D,16+m*64=D:=⟨_,rfl⟩;have aT:=aG.out m (LE _);have aU:=V.out;generalize lays bs (fI n m size++cZ L m)=F at *
   rw[hD]at aU;have b5:=hid aU;have bS:=hid (fun W=>(show Calls prog 98 #[.int .i64 m] W (fun e w'=>e=.returned (.int .i64 ((D:Int)+4))/\W=w') from by
    have h:=mN m W (by omega) (by omega)
    rwa [show 16+(m:Int)*64+4=(D:Int)+4 by omega]at h))
   have cC:D+4<=n:=by omega
   have bR:=hid (fun W (h:BytesAt W g F)=>(show Calls prog 68 #[.slice (some ⟨g,0,none⟩) D cap] W (fun e w'=>e=.returned (.int .u32 (l6 (F.take D)))/\W=w') from by
    have hl:(F.take D).length=D:=by rw[aGB];omega
    have:=rC (F.take D) (some ⟨g,0,none⟩) cap W (by omega) (fun i v G=>⟨g,0,rfl,h.lt,by
     unfold u8s at G;rw[aI2,aHe]at G;split at G
     ·rw[aGn,aH h];exact G
     ·cases G⟩)
    rwa [hl]at this))
   have cF:=uD (F.take D);generalize l6 (F.take D)=C at *
   have bY:=hid (fun W (h:BytesAt W g F)=>(show Calls prog 148 #[.slice (some ⟨g,0,none⟩) n cap,.int .i64 D,.int .i64 4,.int .i64 C] W (iJ W g (aW F D (cY 4 C.toNat))) from by
    have:=IC F g 0 n cap D 4 C W cF.1 h (by omega) cC (by omega) (by omega)
    rwa [aGn]at this))
   have c1:IntKind.i64.wrap C=C:=aGl _ (by omega);clear aG aF aD V aX aI hD aU;go_wp2_with (first|(go_at_call 98;refine (bS.out _).mono ?_;rintro e y3 ⟨rfl,rfl⟩)|(go_at_call 68;refine (bR.out _ aK.out).mono ?_;rintro e y4 ⟨rfl,rfl⟩)|(go_at_call 148;fail))
   refine (bY.out _ aK.out).mono ?_;rintro e y5 ⟨rfl,bI,a5⟩;have Z:=hid bI;have aL:=hid (aHi aM.out a5);clear bI a5;go_wp2;refine aHN (v:=.tuple #[]) (aHJ results96 _ _ _) rfl ?_;exact⟨rfl,by rw[b5.out];exact Z.out,aL.out⟩
def NC(vs:List Value):Prop:=∀ v∈vs,∀ x,v≠.int .u8 x
theorem Row.nobyte{w w':World}{B g:Nat}{a:Option Addr}{vs:List Value}{bs:List Nat}(h:Row w B a vs)(G:B<=w.heap.size)(hb:BytesAt w g bs)(J:NC vs)(I:w.grownBy w' (some g)):Row w' B a vs:=fun i v z=>by
 obtain⟨b,off,ha,t,d⟩:=h i v z;have O:b≠g:=fun e=>by
  subst e;rw[aH hb]at d;unfold u8s at d;rw[aF5]at d;cases F:bs[off+i]? with
  | none=>rw[F]at d;cases d
  | some x =>
   rw[F]at d;exact J v (aGh z) _ (aG7 d).symm
 exact⟨b,off,ha,t,(I.cell_far ⟨b,off+i,none⟩ (aGM t G) (fun e=>O (by injection e))).trans d⟩
theorem Row.under{w w':World}{B g:Nat}{a:Option Addr}{vs:List Value}(h:Row w B a vs)(t:B<=w.heap.size)(I:B<=g)(F:w.grownBy w' (some g)):Row w' B a vs:=fun i v G=>by
 obtain⟨b,off,ha,d,z⟩:=h i v G;exact⟨b,off,ha,d,(F.cell_far ⟨b,off+i,none⟩ (aGM d t) (fun e=>by injection e with e;simp only at e;omega)).trans z⟩
theorem AX(ts:List aFP):NC (aV ts):=fun v d x=>by
 unfold aV at d;obtain⟨F,z,d⟩:=aIs.1 d;obtain⟨t,_,rfl⟩:=aGq.1 z;simp only[aFP.cells,aGw,aGV,aGS]at d;rcases d with rfl|rfl <;> intro h <;> cases h
theorem XP(p:FrH × aFJ):NC (frC p):=fun v d x=>by
 unfold frC aFJ.cells at d;simp only[aGJ,aGw,aGq]at d;rcases d with ⟨y,_,rfl⟩|rfl|⟨y,_,rfl⟩|⟨y,_,rfl⟩|⟨y,_,rfl⟩ <;> intro h <;> cases h
theorem F0(L:List (FrH × aFJ)):NC (iA L):=fun v d x=>by
 unfold iA at d;obtain⟨t,h,d⟩:=aIs.1 d;obtain⟨p,_,rfl⟩:=aGq.1 h;exact XP p v d x
theorem aF0.nobyte{w w':World}{g:Nat}{A:Option Addr}{L:List (FrH × aFJ)}{bs:List Nat}(h:aF0 w A L)(hb:BytesAt w g bs)(d:w.grownBy w' (some g)):aF0 w' A L :=
 ⟨(h.row.nobyte (LE _) hb (F0 L) d).more d.size,h.len,fun p t=>⟨(h.tones p t).1,(h.tones p t).2.1,((h.tones p t).2.2.nobyte (LE _) hb (AX _) d).more d.size⟩⟩
theorem CoderAt.grown{w w':World}{gc g:Nat}{size:Int}(h:CoderAt w gc size)(d:w.grownBy w' (some g))(z:gc≠g):CoderAt w' gc size:=by
 have t:gc<w.heap.size:=by
  rcases aGt gc w.heap.size with h1|h1
  ·exact h1
  ·unfold CoderAt at h;rw[aHl h1]at h;cases h
 exact (d.block gc t (fun e=>z (by injection e))).trans h
theorem CoderAt.later{w w':World}{gc:Nat}{size:Int}(h:CoderAt w gc size)(hb:Below w.heap.size w w'):CoderAt w' gc size:=aF h hb
/-! What is laid. -/
def nY(first sums size q:Nat)(x:aFJ):List (Nat × List Nat):=[(first+q*size,aM x size),(sums+4*q,cY 4 (l6 (aM x size)).toNat)]
def gM(first sums size ch k:Nat)(fs:List aFJ):Nat->List (Nat × List Nat)
 | 0=>[]
 | i+1=>gM first sums size ch k fs i++match fs[i]? with
  | some x=>nY first sums size (i*ch+k) x
  | none=>[]
def fJ(first sums size:Nat)(rows:List (List Int)):Nat->List (Nat × List Nat)
 | 0=>[]
 | k+1=>fJ first sums size rows k++match rows[k]? with
  | some d=>gM first sums size rows.length k (bK d size) (aS d.length)
  | none=>[]
theorem WO{first sums size ch k:Nat}{fs:List aFJ}{i:Nat}{x:aFJ}(h:fs[i]? = some x):gM first sums size ch k fs (i+1)=gM first sums size ch k fs i++nY first sums size (i*ch+k) x:=by
 show gM first sums size ch k fs i++(match fs[i]? with|some x=>_|none=>_)=_
 rw[h]
theorem YC{first sums size:Nat}{rows:List (List Int)}{k:Nat}{d:List Int}(h:rows[k]? = some d):fJ first sums size rows (k+1)=fJ first sums size rows k++gM first sums size rows.length k (bK d size) (aS d.length):=by
 show fJ first sums size rows k++(match rows[k]? with|some d=>_|none=>_)=_
 rw[h]
theorem SG{n first sums size q:Nat}{x:aFJ}(t:(aM x size).length=size)(h:first+q*size+size<=n/\sums+4*q+4<=n):oQ n (nY first sums size q x):=by
 intro p d;unfold nY at d;simp only[aGw,aGV,aGS]at d;rcases d with rfl|rfl
 ·rw[t];exact h.1
 ·rw[bG];exact h.2
theorem wF{n first sums size ch k:Nat}{fs:List aFJ}:∀ i,(∀ j x,j<i->fs[j]? = some x->(aM x size).length=size/\first+(j*ch+k)*size+size<=n/\sums+4*(j*ch+k)+4<=n)->oQ n (gM first sums size ch k fs i)
 | 0,_=>fun p t=>by simp[gM]at t
 | i+1,h=>by
  intro p t;unfold gM at t;rcases aGJ.1 t with h1|h1
  ·exact wF i (fun j x z d=>h j x (by omega) d) p h1
  ·cases d:fs[i]? with
   | none=>rw[d]at h1;simp at h1
   | some x =>
    rw[d]at h1;have:=h i x (by omega) d;exact SG this.1 this.2 p h1
theorem wL{n first sums size:Nat}{rows:List (List Int)}:∀ k,(∀ j d i x,j<k->rows[j]? = some d->i<aS d.length->(bK d size)[i]? = some x->(aM x size).length=size/\first+(i*rows.length+j)*size+size<=n/\sums+4*(i*rows.length+j)+4<=n)->oQ n (fJ first sums size rows k)
 | 0,_=>fun p t=>by simp[fJ]at t
 | k+1,h=>by
  intro p t;unfold fJ at t;rcases aGJ.1 t with h1|h1
  ·exact wL k (fun j d i x G=>h j d i x (by omega)) p h1
  ·cases z:rows[k]? with
   | none=>rw[z]at h1;simp at h1
   | some d =>
    rw[z]at h1;exact wF _ (fun i x hi F=>h k d i x (by omega) z hi F) p h1
theorem WT(w:World)(g o n cap d z size F:Nat)(bs xs:List Nat)(hb:BytesAt w g bs)(t:xs.length=size)(U:size<=n)(O:o+size<=bs.length)(V:Row w w.heap.size (some ⟨d,z,none⟩) (u8s xs))(ty:TypeId):
  (Builtin.copy_ #[32,32] ty #[.slice (some ⟨g,o,none⟩) n cap,.slice (some ⟨d,z,none⟩) size F]).run prog w=.ok (goInt size) (w.setRow g (u8s (aW bs o xs)).toArray):=by
 have:=run_copy_row (P:=prog) w 32 32 ty 5 g o n cap ⟨d,z,none⟩ size F (u8s bs).toArray 5 (u8s xs) underlying32 OG hb (by rw[jW,t];exact (aHM U).symm) (fun j v W=>by
  obtain⟨Z,o',ha,_,G⟩:=V j v W;injection ha with ha
  injection ha with I J
  subst I J;unfold Addr.add;split
  ·rename_i h
   have h:j=0:=by simpa using h
   subst h;exact G
  ·exact G) (by simpa[jW,t] using O) (rY xs)
 rw[this,CU,jW,t]
def Z7(w:World)(g:Nat)(bs:List Nat)(e:Ending)(w':World):Prop:=e=.returned (.int .i64 0)/\BytesAt w' g bs/\w.grownBy w' (some g)
theorem aEK(bs:List Nat)(g n cap gc size cnt first sums B:Nat)(bM:ByteArray)(bJ bO:Int)(bL:Bool)(f0 t0:Int)(h:aFR)(s:aFM)(w:World)
 (hb:BytesAt w g bs)(hn:bs.length=n)(gQ:n<=cap)(hl:n<=100000000)(O:CoderAt w gc (size:Int))(cG:gc≠g)(gR:24<=size)(gS:size<=96)
 (hf:h.fits w B s)(b8:B<=w.heap.size)(fI:B<=g)(aO:aCw s)(hcnt:∀ r∈s.rows,aS r.length=cnt)
 (a4:∀ i k,i<cnt->k<s.rows.length->first+(i*s.rows.length+k)*size+size<=n/\sums+4*(i*s.rows.length+k)+4<=n):
  Calls prog 95 #[.slice (some ⟨g,0,none⟩) n cap,.agg #[.string bM,.int .i64 bJ,.int .i64 bO,.int .i64 s.rows.length,.bool bL,.int .i64 f0,.int .i64 t0,.int .i64 sums,.int .i64 first],.agg #[.string h.nm,.int .i64 h.rate,.bool h.lp,.int .i64 h.f,.int .i64 h.t,.slice h.a h.len h.cap],.pointer (some ⟨gc,0,none⟩)] w
   (Z7 w g (lays bs (fJ first sums size s.rows s.rows.length))):=by
 obtain⟨i0,hi,⟨z0,fV,gV⟩,fQ,gK⟩:=tE;have fO:s.rows.length=0\/cnt<=10:=by
  cases hr:s.rows with
  | nil=>exact .inl rfl
  | cons r rs =>
   right;have h1:=hcnt r (by rw[hr];simp);have h2:=(aO.2 r (by rw[hr];simp)).1;rw[<-h1];unfold aS;omega
 have cV:=hid (fun k (hk:k<=s.rows.length)=>wL (n:=n) (first:=first) (sums:=sums) (size:=size) (rows:=s.rows) k (fun j d i x hj G hi hx=>by
  have aF:=aGh G;have U:=aO.2 d aF;have hR:=dO U.2 (size:=(size:Int)) (by omega) (by omega) x (aGh hx);exact⟨eA hR.1 hR.2,a4 i j (by rw[<-hcnt d aF];exact hi) (by omega)⟩))
 have eD:=hid (fun k d (G:s.rows[k]? = some d) i (hi:i<=cnt)=>wF (n:=n) (first:=first) (sums:=sums) (size:=size) (ch:=s.rows.length) (k:=k) (fs:=bK d size) i (fun j x hj hx=>by
  have aF:=aGh G;have U:=aO.2 d aF;have hR:=dO U.2 (size:=(size:Int)) (by omega) (by omega) x (aGh hx);exact⟨eA hR.1 hR.2,a4 j k (by omega) (aGi.1 G).1⟩))
 have cX:=hid (fun k d (hk:k<=s.rows.length) (G:s.rows[k]? = some d) i (hi:i<=cnt)=>(show (lays bs (fJ first sums size s.rows k++gM first sums size s.rows.length k (bK d size) i)).length=n from n7 hn (fun p hp=>by
  rcases aGJ.1 hp with h1|h1
  ·exact cV.out k hk p h1
  ·exact eD.out k d G i hi p h1)))
 obtain⟨⟨e1,e2,e3,e4,e5,e6⟩,h2,h3,vs,h4,h5⟩:=hf;obtain⟨nm,rate,lp,f,t,a,len,cp⟩:=h;simp only at h2 h3 h4 e6;have eK:=hid (fun (k:Nat) (d:List Int) (G:s.rows[k]? = some d)=>(show ∃ b off a' c',a=some ⟨b,off,none⟩/\b<B/\w.cell? ⟨b,off+k,none⟩=some (.slice a' d.length c')/\d.length<=c'/\c'<=9223372036854775807/\Row w B a' (d.map (.int .i64)) from pT h4 h5 G));obtain⟨R,hR⟩:∃ R,s.rows.length=R:=⟨_,rfl⟩;rw[hR]at e6 a4 cV cX fO ⊢;subst e6;have HR:=hid hR;have gJ:len<=2:=by have:=aO.1;omega
 have eS:=hid aO;have eN:=hid hcnt;have eQ:=hid a4;have Hb:=hid hb;have Hg:=hid O;have Hn:=hid hn;have eF:=hid (fun (d:List Int) B k W (O:CoderAt W gc size) (h:aCv d) (r:Row W W.heap.size B (d.map (.int .i64)))=>VT gc size d B k W O (by omega) (by omega) (by have:=h.1;omega) r h.2);have d8:=hid (fun (p:FrH × aFJ) A W (O:CoderAt W gc size) (hA:aF0 W A [p]) (hR:aFQ p.2/\gH p.2<=8*(size:Int))=>(show Calls prog 146 #[.pointer (some ⟨gc,0,none⟩),.slice A 1 1] W (fun e w'=>∃ At ct,e=.returned (.tuple #[.slice At size ct,.int .i64 0])/\Row w' w'.heap.size At (u8s (aM p.2 size))/\Below W.heap.size W w'/\∀ ad,At=some ad->W.heap.size<=ad.block) from by
  refine (MW gc size [p] A 1 W O (by omega) (by simp) hA (fun q hq=>by rw[aGx]at hq;rw[hq];exact hR)).mono ?_;rintro e w' ⟨At,ct,he,_,_,hr,fN,bF⟩;have eb:kJ size ([p].map Prod.snd)=aM p.2 size:=by simp[kJ]
  rw[eb]at he hr;rw[eA hR.1 hR.2]at he;exact⟨At,ct,he,hr,fN,bF⟩))
 have eM:=hid (fun W (O:CoderAt W gc (size:Int))=>QG gc (size:Int) W O);have eG:=hid (fun (d:List Int) (h:aCv d)=>dO h.2 (size:=(size:Int)) (by omega) (by omega));have f8:=hid (show (prog.info? 101).map (·.size)=some 9 by kernel_rfl);clear aO hcnt a4 hb O hn h4 h5 h2 h3 hR e1 e2 e3 e4 e5;obtain⟨wa,bI⟩:∃ wa,w.alloc (.cells #[.string bM,.int .i64 bJ,.int .i64 bO,.int .i64 len,.bool bL,.int .i64 f0,.int .i64 t0,.int .i64 sums,.int .i64 first] 101)=wa:=⟨_,rfl⟩;obtain⟨Z,bG⟩:∃ Z,wa.alloc (.cells #[.string nm,.int .i64 rate,.bool lp,.int .i64 f,.int .i64 t,.slice a len cp] 119)=Z:=⟨_,rfl⟩;have c6:=hid Hb.out.lt;have c9:=hid (show Blk Z w.heap.size 101 [.string bM,.int .i64 bJ,.int .i64 bO,.int .i64 len,.bool bL,.int .i64 f0,.int .i64 t0,.int .i64 sums,.int .i64 first] by
  rw[<-bG,<-bI];exact (Blk.new w _ [.string bM,.int .i64 bJ,.int .i64 bO,.int .i64 len,.bool bL,.int .i64 f0,.int .i64 t0,.int .i64 sums,.int .i64 first]).alloc _)
 have eY:=hid (show Blk Z wa.heap.size 119 [.string nm,.int .i64 rate,.bool lp,.int .i64 f,.int .i64 t,.slice a len cp] by
  rw[<-bG];exact Blk.new wa _ [.string nm,.int .i64 rate,.bool lp,.int .i64 f,.int .i64 t,.slice a len cp])
 have gB:=hid (show wa.heap.size=w.heap.size+1 by rw[<-bI];simp);have bX:=hid (show w.grownBy Z (some g) by rw[<-bG,<-bI];exact grownBy_allocR (World.grownBy_alloc w _ _) _);have d7:=hid (show BytesAt Z g bs by rw[<-bG,<-bI];exact (Hb.out.alloc _).alloc _);have f5:Z.cell? ⟨wa.heap.size,5,none⟩=some (.slice a len cp):=eY.out.cell 5;go_enter func95,ntmps95;go_wp2_with fail
 clear f5;go_loopw [21] (fun v wr=>∃ k:Nat,k<=len/\v=.int .i64 k/\BytesAt wr g (lays bs (fJ first sums size s.rows k))/\Z.grownBy wr (some g)) (fun v _=>len-(intOf v).toNat)
 case atStart=>exact⟨0,by omega,rfl,d7.out,aG1 _ _⟩
 case round =>
  obtain⟨k,hk,rfl,a1,U⟩:=hrel;have bY:=hid a1;have eT:=hid U;have aU:=hid (aHi bX.out U);clear a1 U
  by_cases dU:k<len
  ·have t1:(k:Int)<(len:Int):=by omega
   have t2:(0:Int)<=(k:Int):=by omega
   obtain⟨d,G⟩:=aE (k:=k) HR.out dU;have aF:=aGh G;have c5:=hid (eS.out.2 d aF);have c3:=hid (eN.out d aF);obtain⟨b,off,a5,k5,rfl,dP,dQ,_,_,dV⟩:=eK.out k d G;have z5:=(aU.out.cell_far ⟨b,off+k,none⟩ (aGM dP b8) (fun e=>by injection e with e;simp only at e;omega)).trans dQ;have eW:=hid ((dV.under b8 fI aU.out).more (aGE b8 aU.out.size));have eB:=hid (Hg.out.grown aU.out cG);have eV:=hid (fun i hi=>cX.out k d (by omega) G i hi);have c7:=hid (YC (first:=first) (sums:=sums) (size:=size) G);have eP:=hid (eG.out d c5.out);have cW:=hid (eF.out d a5 k5 wr eB.out c5.out eW.out);have aG:=eU d (size:Int);rw[c3.out]at aG;rw[HR.out,c3.out]at c7;generalize bK d (size:Int)=fz at *
   have eR:=hid aG;clear aF dP dQ dV G aG;generalize d.length=nd at *
   go_wp2_with (go_at_call 145;fail)
   refine cW.out.mono ?_;rintro e w2 ⟨Af,cf,M,rfl,hM,_,_,a2,cE⟩;have cB:M.length=cnt:=by rw[<-eR.out,<-hM,aF7]
   rw[cB];have HM:=hid (fun (i:Nat) (p:FrH × aFJ) (h:M[i]? = some p)=>(show fz[i]? = some p.2 from by rw[<-hM,aF5,h];rfl));have eI:=hid cB;have d3:=hid (show BytesAt w2 g (lays bs (fJ first sums size s.rows k++gM first sums size len k fz 0)) from by
    rw[show fJ first sums size s.rows k++gM first sums size len k fz 0=fJ first sums size s.rows k by simp[gM]];exact bY.out.below cE bY.out.lt)
   have d2:=hid (aH4 eT.out cE);have d1:=hid a2;clear cB hM a2 cE z5 cW;go_wp2_with fail
   go_loopw [37] (fun v wx=>∃ i:Nat,i<=cnt/\v=.int .i64 i/\BytesAt wx g (lays bs (fJ first sums size s.rows k++gM first sums size len k fz i))/\aF0 wx Af M/\Z.grownBy wx (some g)) (fun v _=>cnt-(intOf v).toNat)
   case atStart=>exact⟨0,by omega,rfl,d3.out,d1.out,d2.out⟩
   case round =>
    obtain⟨i,gL,rfl,a1,a2,U⟩:=hrel;have bC:=hid a1;have b1:=hid a2;have b3:=hid U;clear a1 a2 U
    by_cases dT:i<cnt
    ·have t3:(i:Int)<(cnt:Int):=by omega
     have t4:(0:Int)<=(i:Int):=by omega
     obtain⟨p,hp⟩:=aE (k:=i) eI.out dT;have cJ:=HM.out i p hp;have aX:=hid (eP.out p.2 (aGh cJ));have bB:=hid (WO (first:=first) (sums:=sums) (size:=size) (ch:=len) (k:=k) cJ);have c8:=hid (b1.out.tones p (aGh hp));obtain⟨bf,fY,rfl,fK,dR⟩:=FY b1.out hp;have FX:=hid dR;have aG:(frC p).length=29:=jT aX.out.1.len;have eO:=hid (show (frC p).toArray.all (·.oneCell')=true by
      rw[aGY];intro v hv;exact lH p v (by simpa using hv))
     have cS:=hid (fun (W:World) (hW:Below wr.heap.size wr W)=>(show aF0 (W.alloc (.cells (frC p).toArray 45)) (some ⟨W.heap.size,0,none⟩) [p] from by
      refine⟨?_,fun q hq=>by rw[aGx]at hq;rw[hq];exact aX.out.1.len,fun q hq=>by rw[aGx]at hq;rw[hq];exact c8.out.later (aC hW (aP W _))⟩;have h1:=Row.new W 45 (frC p);rw[show iA [p]=frC p by simp[iA],aG5];exact h1))
     have HQ:=hid (fun A W O hA=>d8.out p A W O hA aX.out);have aV:=hid (eA aX.out.1 aX.out.2);generalize frC p=J at *
     generalize p.2=x at *
     have eE:=hid (show (prog.info? 45).map (·.size)=some J.length by rw[aG];exact bZ);have cU:=hid (show (prog.info? 45).map (·.size)=some J.toArray.size by rw[aGH,aG];exact bZ);have c4:=hid (show J.toArray.size=29 by rw[aGH,aG]);clear hp dR fK aG;have EV:=hid (aP wr (.cells J.toArray 45));have b9:=cS.out _ EV.out;rw[aG5]at b9;have cT:=hid b9;clear b9;have EW:=hid (aC EV.out (aP (wr.alloc (.cells J.toArray 45)) (.cells J.toArray 45)));go_wp2_with (first|(refine aL rfl 45 (.tmp 40) rfl bf (fY+i*29) rfl J _ FX.out underlying45 rfl eE.out ?_)|(refine aA rfl 45 (.tmp 14) (.tmp 41) rfl wr.heap.size rfl _ _ J.toArray rfl (LT wr _) cU.out (by rw[c4.out];rfl) eO.out ?_;rw[aGT])|(refine aB rfl 45 (.tmp 14) rfl wr.heap.size rfl _ J.toArray _ _ (LT wr _) underlying45 rfl cU.out ?_)|(refine gT rfl 175 45 (.tmp 44) rfl i0 z0 29 underlying175 hi fV fQ (by omega) (by omega) J.toArray rfl c4.out ?_)|(go_at_call 146;fail))
     refine (HQ.out _ _ ((Hg.out.grown (aHi bX.out b3.out) cG).later EW.out) cT.out).mono ?_;rintro e w6 ⟨At,ct,rfl,cK,dN,bF⟩;have eX:=hid cK;have E6:=hid (aC EW.out dN);have gW:=E6.out.size;obtain⟨b0,dM⟩:=aE (k:=0) aV.out (by omega);obtain⟨bt,ot,fH,fM,_⟩:=cK 0 _ (eL dM);subst fH;have fL:bt≠g:=by
      have h1:=bF _ rfl;have h2:=bC.out.lt;simp at h1;omega
     have bV:=hid (bC.out.below E6.out bC.out.lt);have d4:=hid (b1.out.later E6.out);have bU:=hid (aH4 b3.out E6.out);have X6:=hid (Blk.grown c9.out bU.out (fun e=>by injection e with e;have:=c6.out;omega));have d9:=hid (Hg.out.grown (aHi bX.out bU.out) cG);have f2:w6.cell? ⟨w.heap.size,3,none⟩=some (.int .i64 len):=X6.out.cell 3;have a3:=eQ.out i k dT dU;obtain⟨Q0,cD⟩:∃ Q0,i*len=Q0:=⟨_,rfl⟩;have gP:(i:Int)*(len:Int)=(Q0:Int):=by rw[<-cD];push_cast;rfl
     have cH:=eV.out i (by omega);rw[cD]at a3 bB;obtain⟨Q,hQ⟩:∃ Q,Q0+k=Q:=⟨_,rfl⟩;have gI:(Q0:Int)+(k:Int)=(Q:Int):=by omega
     rw[hQ]at a3 bB;obtain⟨S,hS⟩:∃ S,Q*size=S:=⟨_,rfl⟩;have gO:(Q:Int)*(size:Int)=(S:Int):=by rw[<-hS];push_cast;rfl
     rw[hS]at a3;have gG:Q<=S:=by rw[<-hS];exact Nat.le_mul_of_pos_right _ (by omega)
     obtain⟨F,cC⟩:∃ F,first+S=F:=⟨_,rfl⟩
     have gF:(first:Int)+(S:Int)=(F:Int):=by omega
     rw[cC]at a3;obtain⟨V,bE⟩:∃ V,lays bs (fJ first sums size s.rows k++gM first sums size len k fz i)=V:=⟨_,rfl⟩;rw[bE]at bV cH;have f9:=hid bE;have dB:=hid (show lays bs (fJ first sums size s.rows k++gM first sums size len k fz (i+1))=aW (aW V F (aM x size)) (sums+4*Q) (cY 4 (l6 (aM x size)).toNat) by
      rw[bB.out,<-List.append_assoc,GR,bE];unfold nY;rw[hS,cC]
      rfl)
     clear bE cD hQ hS cC cK dN bF dM fM cJ HQ cS cT c8 EV EW FX bB;generalize aM x size=I at *
     go_wp2_with fail
     clear f2;have f4:=fun (z:GW w6)=>(show z.1.cell? ⟨w.heap.size,8,none⟩=some (.int .i64 first) from (z.2.cell (p:=⟨w.heap.size,8,none⟩) X6.out.lt).trans (X6.out.cell 8))
     have c1:=hid (fun (z:GW w6)=>eM.out z.1 (d9.out.later z.2));refine aJ 10 (by kernel_rfl) (by kernel_rfl) ?_;simp only[List.take_succ_cons,List.take_zero,aGO,aGR]
     repeat (go_big_quiet_step ((go_at_call 147;exact dA (c1.out _))))
     refine aGv ?_;intro w7 a7;have B7:=hid (aQ a7);clear a7 f4 c1;have bW:=hid (bV.out.below B7.out bV.out.lt);have d6:=hid (aH4 bU.out B7.out);have d5:=hid (d4.out.later B7.out);have R7:=hid (eX.out.later B7.out);have dS:(Builtin.copy_ #[32,32] 3 #[.slice (some ⟨g,F,none⟩) (n-F) (cap-F),.slice (some ⟨bt,ot,none⟩) size ct]).run prog w7=_:=WT w7 g F (n-F) (cap-F) bt ot size ct V I bW.out aV.out (by omega) (by omega) R7.out _;obtain⟨w9,bH⟩:∃ w9,w7.setRow g (u8s (aW V F I)).toArray=w9:=⟨_,rfl⟩;rw[bH]at dS;have bA:=hid (show w7.grownBy w9 (some g) by rw[<-bH];exact eC (aG1 _ _) _);have Y9:=hid (show BytesAt w9 g (aW V F I) by rw[<-bH];exact zU bW.out);have G9:=hid (aHi d6.out bA.out);have F9:=hid (d5.out.nobyte bW.out bA.out);have R9:=hid ((R7.out.aside (LE _) bA.out (fun ad ha=>by injection ha with ha;subst ha;intro e;injection e with e;exact fL e.symm)).more bA.out.size);have X9:=hid (Blk.grown c9.out G9.out (fun e=>by injection e with e;have:=c6.out;omega));have L9:=hid (show (aW V F I).length=n by rw[dG (by rw[aV.out,cH];omega),cH]);clear bH;go_wp2_with fail
     clear dS;have f3:=fun (z:GW w9)=>(show z.1.cell? ⟨w.heap.size,7,none⟩=some (.int .i64 sums) from (z.2.cell (p:=⟨w.heap.size,7,none⟩) X9.out.lt).trans (X9.out.cell 7))
     have cR:=hid (fun (z:GW w9)=>(show Calls prog 68 #[.slice (some ⟨bt,ot,none⟩) size ct] z.1 (fun e w'=>e=.returned (.int .u32 (l6 I))/\z.1=w') from by
      have:=rC I (some ⟨bt,ot,none⟩) ct z.1 (by rw[aV.out];omega) (R9.out.later z.2)
      rwa [aV.out]at this))
     have fP:=uD I;generalize l6 I=C at *
     have gU:IntKind.i64.wrap C=C:=aGl _ (by omega);obtain⟨AT,dK⟩:∃ AT,sums+4*Q=AT:=⟨_,rfl⟩;have gE:(sums:Int)+4*(Q:Int)=(AT:Int):=by omega
     rw[dK]at a3 dB;clear dK;refine aJ 9 (by kernel_rfl) (by kernel_rfl) ?_;simp only[List.take_succ_cons,List.take_zero,aGO,aGR]
     repeat (go_big_quiet_step ((go_at_call 68;exact dA (cR.out _))))
     refine aGv ?_;intro cM a7;have bR:=hid (aQ a7);clear a7 f3 cR;have dE:=hid (Y9.out.below bR.out Y9.out.lt);have eJ:=hid (show Calls prog 148 #[.slice (some ⟨g,0,none⟩) n cap,.int .i64 AT,.int .i64 4,.int .i64 C] cM (iJ cM g (aW (aW V F I) AT (cY 4 C.toNat))) from by
      have:=IC (aW V F I) g 0 n cap AT 4 C cM fP.1 dE.out (by rw[L9.out];omega) (by omega) (by omega) (by omega)
      rwa [aGn]at this)
     go_wp2_with (go_at_call 148;fail)
     refine eJ.out.mono ?_;rintro e g0 ⟨rfl,dW,cF⟩;have e8:=hid dW;have d0:=hid (aHi (aH4 G9.out bR.out) cF);have dY:=hid ((F9.out.later bR.out).nobyte dE.out cF);clear dW cF;go_wp2;go_roundw
     case rel=>exact⟨i+1,by omega,by go_num,by rw[dB.out];exact e8.out,dY.out,d0.out⟩
     case measure=>simp[intOf];omega
    ·have fR:i=cnt:=by omega
     subst fR;have t3:¬ ((i:Int)<(i:Int)):=by omega
     have eZ:=hid (show BytesAt wr g (lays bs (fJ first sums size s.rows (k+1))) by rw[c7.out];exact bC.out);go_wp2;go_roundw
     case rel=>exact⟨k+1,by omega,by go_num,eZ.out,b3.out⟩
     case measure=>simp[intOf];omega
  ·have fT:k=len:=by omega
   subst fT;have t1:¬ ((k:Int)<(k:Int)):=by omega
   go_wp2
   go_ret
   exact⟨rfl,bY.out,aU.out⟩
def bE(m:aFK):Int:=dZ m.length*m.channels
theorem sY(m:aFK)(w:World)(h1:0<=m.length/\m.length<=1048576)(h2:0<=m.channels/\m.channels<=255):
  Calls prog 143 #[.agg m.cells.toArray] w fun e w'=>e=.returned (.int .i64 (bE m))/\Below w.heap.size w w':=by
 obtain⟨nm,len,rate,ch,lp,f,t,sums,first⟩:=m;simp only at h1 h2;have V:=aGC (show bE ⟨nm,len,rate,ch,lp,f,t,sums,first⟩=dZ len*ch from rfl);have I:0<=dZ len/\dZ len<=65537:=by unfold dZ;split <;> omega
 have U:=aGC (fun W=>vS len W (by omega));generalize bE ⟨nm,len,rate,ch,lp,f,t,sums,first⟩=F at *
 generalize dZ len=C at *
 have hp:0<=C*ch/\C*ch<=65537*255:=⟨aIZ I.1 h2.1,aIY (aH7 I.2 h2.1) (aJh h2.2 (by omega))⟩;have hw:IntKind.i64.wrap (C*ch)=C*ch:=aGl _ (by omega);show Calls prog 143 #[.agg #[.string nm,.int .i64 len,.int .i64 rate,.int .i64 ch,.bool lp,.int .i64 f,.int .i64 t,.int .i64 sums,.int .i64 first]] w _;obtain⟨d,G⟩:∃ d,w.alloc (.cells #[.string nm,.int .i64 len,.int .i64 rate,.int .i64 ch,.bool lp,.int .i64 f,.int .i64 t,.int .i64 sums,.int .i64 first] 101)=d:=⟨_,rfl⟩;have h:=aGC (show Blk d w.heap.size 101 [.string nm,.int .i64 len,.int .i64 rate,.int .i64 ch,.bool lp,.int .i64 f,.int .i64 t,.int .i64 sums,.int .i64 first] by rw[<-G];exact Blk.new w _ [.string nm,.int .i64 len,.int .i64 rate,.int .i64 ch,.bool lp,.int .i64 f,.int .i64 t,.int .i64 sums,.int .i64 first]);have Z:=aGC (show Below w.heap.size w d by rw[<-G];exact aP w _);have x1:=fun (z:GW d)=>(show z.1.cell? ⟨w.heap.size,1,none⟩=some (.int .i64 len) from (z.2.cell (p:=⟨w.heap.size,1,none⟩) h.out.lt).trans (h.out.cell 1))
 have x3:=fun (z:GW d)=>(show z.1.cell? ⟨w.heap.size,3,none⟩=some (.int .i64 ch) from (z.2.cell (p:=⟨w.heap.size,3,none⟩) h.out.lt).trans (h.out.cell 3))
 go_enter func143,ntmps143;go_wp2_with fail
 clear G;refine aU (by kernel_rfl) (by kernel_rfl) ?_
 repeat (go_big_quiet_step ((go_at_call 61;exact dA (U.out _))))
 refine aGv ?_;intro w5 J;have O:=aGC (aQ J);clear J x1 x3;go_wp2
 go_ret
 exact⟨by rw[V.out];rfl,aC Z.out O.out⟩
theorem KL(n:Int)(w:World)(d:0<=n)(h:n<=1000000000000):Calls prog 144 #[.int .i64 n,.int .i64 16] w fun e w'=>e=.returned (.int .i64 (upZ n 16))/\w=w':=by
 go_enter func144,ntmps144;go_wp2
 go_ret
 exact⟨cL (by unfold upZ;omega),rfl⟩
theorem KM(n:Int)(w:World)(d:0<=n)(h:n<=1000000000000):Calls prog 144 #[.int .i64 n,.int .i64 64] w fun e w'=>e=.returned (.int .i64 (upZ n 64))/\w=w':=by
 go_enter func144,ntmps144;go_wp2
 go_ret
 exact⟨cL (by unfold upZ;omega),rfl⟩
def bX(size:Int)(L:List aFK):Nat->Int
 | 0=>16+(L.length:Int)*64+4
 | m+1=>match L[m]? with
  | some x=>upZ (bX size L m+4*bE x) 16+size*bE x
  | none=>bX size L m
theorem gL{size:Int}{L:List aFK}{m:Nat}{x:aFK}(h:L[m]? = some x):bX size L (m+1)=upZ (bX size L m+4*bE x) 16+size*bE x:=by
 show (match L[m]? with|some x=>_|none=>_)=_;rw[h]
def plc(size:Int)(L:List aFK)(i:Nat)(x:aFK):aFK:={ x with sums:=bX size L i,first:=upZ (bX size L i+4*bE x) 16 }
def dI(size:Int)(L:List aFK):Nat->List aFK
 | 0=>L
 | m+1=>match L[m]? with
  | some x=>(dI size L m).set m (plc size L m x)
  | none=>dI size L m
theorem wN{size:Int}{L:List aFK}{m:Nat}{x:aFK}(h:L[m]? = some x):dI size L (m+1)=(dI size L m).set m (plc size L m x):=by
 show (match L[m]? with|some x=>_|none=>_)=_;rw[h]
theorem mC(size:Int)(L:List aFK):∀ m,(dI size L m).length=L.length
 | 0=>rfl
 | m+1=>by
  have d:=mC size L m;unfold dI;split
  ·rw[aIr,d]
  ·exact d
theorem iR{size:Int}{L:List aFK}{i:Nat}{x:aFK}(h:L[i]? = some x):∀ m,(dI size L m)[i]? = if i<m then some (plc size L i x) else some x
 | 0=>by rw[sL (by omega)];exact h
 | m+1=>by
  have z:=iR (size:=size) h m;have hi:=(aGi.1 h).1;cases d:L[m]? with
  | none =>
   have hm:=aJ9.1 d;have e:dI size L (m+1)=dI size L m:=by
    show (match L[m]? with|some x=>_|none=>_)=_;rw[d]
   rw[e,z,FN (by omega),FN (by omega)]
  | some y =>
   rw[wN d,aHu,mC]
   by_cases t:m=i
   ·subst t;rw[h]at d;injection d with d
    subst d;rw[FN rfl,FN hi,FN (by omega)]
   ·rw[sL t,z]
    by_cases h2:i<m
    ·rw[FN h2,FN (by omega)]
    ·rw[sL h2,sL (by omega)]
theorem mJ(L:List aFK):(bB L).length=L.length*9:=by
 unfold bB;rw[yE 9 (L.map aFK.cells) (fun h d=>by obtain⟨z,_,rfl⟩:=aGq.1 d;rfl),aF7]
theorem lL{L:List aFK}{m j:Nat}{x y:aFK}{v:Value}(h:L[m]? = some x)(O:j<9)(V:y.cells=x.cells.set j v):bB (L.set m y)=(bB L).set (m*9+j) v:=by
 have hm:=(aGi.1 h).1;refine aGL fun i=>?_
 rw[aHu,mJ];rcases aGt i (L.length*9) with hi|hi
 ·have U:i / 9<L.length:=by omega
  have t:i % 9<9:=aG6 _ (by decide);have I:i / 9*9+i % 9=i:=by omega
  by_cases F:i / 9=m
  ·have h1:(L.set m y)[m]? = some y:=by rw[aHu,FN rfl,FN hm]
   have h2:=iQ _ h1 (i % 9) t;have d:=iQ L h (i % 9) t;rw[<-F,I]at h2 d;rw[F]at h2;rw[h2,d,V,aHu]
   by_cases G:m*9+j=i
   ·rw[FN G,FN (show j=i % 9 by omega),FN (show j<x.cells.length from O),FN (show m*9+j<L.length*9 by omega)]
   ·rw[sL G,sL (by omega)]
  ·obtain⟨z,J⟩:∃ z,L[i / 9]? = some z:=⟨_,TT U⟩;have h1:(L.set m y)[i / 9]? = some z:=by rw[aHu,sL (fun e=>F e.symm)];exact J
   have h2:=iQ _ h1 (i % 9) t;have d:=iQ L J (i % 9) t;rw[I]at h2 d;rw[h2,d,sL (by omega)]
 ·rw[sL (by omega),aGr (by rw[mJ,aIr];exact hi),aGr (by rw[mJ];exact hi)]
theorem rO{w:World}{base:Nat}{e:TypeId}{size n c:Nat}{A:Option Addr}{xs:List Value}(h:w.ownsRow base e size (.slice A n c) n xs)(F:0<n):∃ g,A=some ⟨g,0,none⟩/\base<=g/\g<w.heap.size:=by
 rcases h.2 with ⟨_,z⟩|⟨g,cap,t,d,hb,hh,_⟩
 ·omega
 ·injection d with h1
  subst h1;refine⟨g,rfl,hb,?_⟩;rcases aGt g w.heap.size with h2|h2
  ·exact h2
  ·rw[aHl h2]at hh;cases hh
def MX(x:aFK):Prop:=(0<=x.length/\x.length<=150)/\0<=x.channels/\x.channels<=2
theorem l9{x:aFK}(h:MX x):0<=bE x/\bE x<=20:=by
 obtain⟨⟨h1,h2⟩,d,t⟩:=h;unfold bE;have z:0<=dZ x.length/\dZ x.length<=10:=by unfold dZ;split <;> omega
 generalize dZ x.length=c at *
 rcases (show x.channels=0\/x.channels=1\/x.channels=2 by omega) with e|e|e <;> rw[e] <;> omega
theorem UQ{size F:Int}(h1:24<=size)(h2:size<=96)(d:0<=F)(h:F<=20):0<=size*F/\size*F<=1920 :=
 ⟨aIZ (by omega) d,aIY (aH7 h2 d) (by omega)⟩
theorem xT{size:Int}{L:List aFK}(h1:24<=size)(h2:size<=96)(hL:∀ x∈L,MX x):∀ m:Nat,0<=bX size L m/\bX size L m<=20+64*(L.length:Int)+2100*(m:Int)
 | 0=>by unfold bX;omega
 | m+1=>by
  have h:=xT h1 h2 hL m;cases d:L[m]? with
  | none =>
   have e:bX size L (m+1)=bX size L m:=by
    show (match L[m]? with|some x=>_|none=>_)=_;rw[d]
   rw[e]
   push_cast;omega
  | some x =>
   rw[gL d];have hF:=l9 (hL x (aGh d));have hm:=UQ h1 h2 hF.1 hF.2;generalize size*bE x=P at *
   generalize bE x=F at *
   generalize bX size L m=a at *
   unfold upZ
   push_cast
   omega
theorem nC{B:Nat}{a b c:World}(h1:Below B a b)(h2:Below b.heap.size b c)(d:B<=a.heap.size:=by assumption):Below B a c:=h1.trans (h2.mono (aGE d h1.size))
theorem aBO(size:Int)(n cap base:Nat)(L:List aFK)(A:Option Addr)(w:World)(hn:L.length=n)(cQ:n<=8)(hL:∀ x∈L,MX x)(bM:24<=size)(bO:size<=96)
 (bL:w.ownsRow base 101 9 (.slice A n cap) n (bB L))(cL:base<=w.heap.size):
  Calls prog 94 #[.slice A n cap,.int .i64 size] w fun e w'=>e=.returned (.int .i64 (upZ (bX size L n) 64))/\w'.ownsRow base 101 9 (.slice A n cap) n (bB (dI size L n))/\Below base w w':=by
 have aC:=hid (fun m=>xT (size:=size) bM bO hL m);have H0:=hid (show bX size L 0=16+(L.length:Int)*64+4 from rfl);have cK:=hid (show dI size L 0=L from rfl);rw[hn]at aC H0;have Hn:=hid hn;have HL:=hid hL;have b5:=hid bL;have b3:=hid (fun a W (h:0<=a/\a<=100000)=>KL a W h.1 (by omega));have b2:=hid (fun a W (h:0<=a/\a<=100000)=>KM a W h.1 (by omega));have bV:=hid (fun W=>mN (n:Int) W (by omega) (by omega));have cC:=aC.out 0;rw[H0.out]at cC;clear hn hL bL;go_enter func94,ntmps94;go_wp2_with (go_at_call 98;refine (bV.out _).mono ?_;rintro e w2 ⟨rfl,rfl⟩)
 go_loopw [5,12] (fun at_ i wr=>∃ m:Nat,m<=n/\i=.int .i64 m/\at_=.int .i64 (bX size L m)/\wr.ownsRow base 101 9 (.slice A n cap) n (bB (dI size L m))/\Below base w wr) (fun _ i _=>n-(intOf i).toNat)
 case atStart=>exact⟨0,by omega,rfl,by rw[H0.out],b5.out,aGj _ _⟩
 case round =>
  obtain⟨m,hm,rfl,rfl,ho,bD⟩:=hrel;have Ho:=hid ho;have aP:=hid bD;clear ho bD
  by_cases hlt:m<n
  ·have t1:(m:Int)<(n:Int):=by omega
   have t2:(0:Int)<=(m:Int):=by omega
   obtain⟨x,V⟩:=aE (k:=m) Hn.out hlt;have bA:=l9 (HL.out x (List.mem_of_getElem? V));have aW:=HL.out x (List.mem_of_getElem? V);have bC:=aC.out m;have aK:=hid (gL (size:=size) V);have aO:=hid (wN (size:=size) V);have aF:(dI size L m)[m]? = some x:=by rw[iR V m,sL (by omega)]
   obtain⟨g,rfl,cN,cO⟩:=rO Ho.out (by omega);have aT:=(show plc size L m x={ x with sums:=bX size L m,first:=upZ (bX size L m+4*bE x) 16 } from rfl);have cP:=UQ bM bO bA.1 bA.2;obtain⟨a,ha⟩:∃ a,bX size L m=a:=⟨_,rfl⟩;rw[ha]at aT bC aK ⊢;rw[aT]at aO;generalize dI size L m=LM at *
   have aX:m<LM.length:=(List.getElem?_eq_some_iff.1 aF).1;obtain⟨d,aB⟩:∃ d,upZ (a+4*bE x) 16=d:=⟨_,rfl⟩;have cJ:=hid aB;rw[aB]at aO aK;have cM:0<=d/\d<=100000:=by rw[<-aB];unfold upZ;omega
   have bN:=lL (y:={ x with sums:=a }) (v:=.int .i64 a) aF (show 7<9 by decide) rfl;have Z:(LM.set m { x with sums:=a })[m]? = some { x with sums:=a }:=by rw[List.getElem?_set,if_pos rfl,if_pos aX]
   have a0:=lL (y:={ x with sums:=a,first:=d }) (v:=.int .i64 d) Z (show 8<9 by decide) rfl;rw[List.set_set]at a0;obtain⟨I,U⟩:=Ho.out.stored (m*9+7) (.int .i64 a);rw[<-bN]at I;obtain⟨b',a3,G,_,bG⟩:=iD (Row.of_own Ho.out) aF;injection G with G
   injection G with J O
   subst J O;have c7:wr.cell? ⟨g,m*9+7,none⟩=some (.int .i64 x.sums):=by
    have:=bG 7 _ rfl
    rwa [aGn]at this
   have z7:=Ho.out.frozenAt (m*9+7);obtain⟨w1,bQ⟩:∃ w1,wr.setCell ⟨g,m*9+7,none⟩ (.int .i64 a)=w1:=⟨_,rfl⟩;rw[bQ]at I U;have O1:=hid I;have E1:=hid (aP.out.grown U (by have:=aP.out.size;omega) (fun k hk=>by injection hk with hk;omega));obtain⟨b',a3,G,_,bH⟩:=iD (Row.of_own I) Z;injection G with G
   injection G with J O
   subst J O;have aM:=hid (fun (y:aFK) W (hy:y.length=x.length/\y.channels=x.channels)=>(show Calls prog 143 #[.agg y.cells.toArray] W (fun e w'=>e=.returned (.int .i64 (bE x))/\Below W.heap.size W w') from by
    have h:=sY y W (by rw[hy.1];have:=aW.1;omega) (by rw[hy.2];have:=aW.2;omega);have e:bE y=bE x:=by unfold bE;rw[hy.1,hy.2]
    rwa [e]at h))
   obtain⟨nm,len,rate,ch,lp,f,t,sums,first⟩:=x;have bW:=hid (fun W=>aM.out ⟨nm,len,rate,ch,lp,f,t,a,first⟩ W ⟨rfl,rfl⟩);have bZ:=hid (fun W=>aM.out ⟨nm,len,rate,ch,lp,f,t,a,d⟩ W ⟨rfl,rfl⟩);have HK:=hid (fun j v (hv:(aFK.cells ⟨nm,len,rate,ch,lp,f,t,a,first⟩)[j]? = some v)=>(show w1.cell? ⟨g,m*9+j,none⟩=some v from by have:=bH j v hv;rwa [aGn]at this));have a6:=hid (show (prog.info? 101).map (·.size)=some 9 by kernel_rfl);generalize bE ⟨nm,len,rate,ch,lp,f,t,sums,first⟩=F at *
   have b6:=hid a0;have a9:=hid (fun W=>b3.out (a+4*F) W (by omega));rw[aB]at a9;have a8:=hid aX;clear I U bG bH bN a0 V aF Z aW aT ha aB aM aX;go_wp2_with (first|(refine aL rfl 101 (.tmp 23) rfl g (m*9) rfl (aFK.cells ⟨nm,len,rate,ch,lp,f,t,a,first⟩) _ HK.out underlying101 rfl a6.out ?_)|(go_at_call 143;fail))
   refine (bW.out w1).mono ?_;rintro e w2 ⟨rfl,aV⟩;have O2:=hid (cU O1.out aV);have E2:=hid (nC E1.out aV);clear aV bQ c7 z7;have Z:(LM.set m (⟨nm,len,rate,ch,lp,f,t,a,first⟩:aFK))[m]? = some ⟨nm,len,rate,ch,lp,f,t,a,first⟩:=by rw[List.getElem?_set,if_pos rfl,if_pos (by have:=a8.out;omega)]
   obtain⟨b',a3,G,_,bI⟩:=iD (Row.of_own O2.out) Z;injection G with G
   injection G with J O
   subst J O;have c8:w2.cell? ⟨g,m*9+8,none⟩=some (.int .i64 first):=by
    have:=bI 8 _ rfl
    rwa [aGn]at this
   have z8:=O2.out.frozenAt (m*9+8);obtain⟨I,U⟩:=O2.out.stored (m*9+8) (.int .i64 d);obtain⟨w3,a2⟩:∃ w3,w2.setCell ⟨g,m*9+8,none⟩ (.int .i64 d)=w3:=⟨_,rfl⟩;rw[<-b6.out,a2]at I;rw[a2]at U;have O3:=hid I;have E3:=hid (E2.out.grown U (by have:=E2.out.size;omega) (fun k hk=>by injection hk with hk;omega));have bR:(LM.set m (⟨nm,len,rate,ch,lp,f,t,a,d⟩:aFK))[m]? = some ⟨nm,len,rate,ch,lp,f,t,a,d⟩:=by rw[List.getElem?_set,if_pos rfl,if_pos (by have:=a8.out;omega)]
   obtain⟨b',a3,G,bF,bJ⟩:=iD (Row.of_own I) bR;injection G with G
   injection G with J O
   subst J O;have aN:=hid (fun (z:GW w3) j v (hv:(aFK.cells ⟨nm,len,rate,ch,lp,f,t,a,d⟩)[j]? = some v)=>(show z.1.cell? ⟨g,m*9+j,none⟩=some v from by
    have h:=(z.2.cell (p:=⟨g,0+m*9+j,none⟩) bF).trans (bJ j v hv)
    rwa [aGn]at h))
   have x8:=fun (z:GW w3)=>aN.out z 8 _ rfl
   have cR:IntKind.i64.wrap (size*F)=size*F:=aGl _ (by omega);have cS:IntKind.i64.wrap (d+size*F)=d+size*F:=aGl _ (by omega);clear I U bI bJ Z bR bF;go_wp2_with (go_at_call 144;refine (a9.out _).mono ?_;rintro e w5 ⟨rfl,rfl⟩)
   clear a2 c8 z8;refine aU (by kernel_rfl) (by kernel_rfl) ?_
   repeat (first|(go_big_quiet_want;refine aY 101 (.tmp 42) rfl g (m*9) rfl (aFK.cells ⟨nm,len,rate,ch,lp,f,t,a,d⟩) _ (by rintro _ ⟨z,rfl⟩;exact aN.out z) underlying101 rfl a6.out ?_;go_simp;go_big_quiet_on)|go_big_quiet_step ((go_at_call 143;exact bY (bZ.out _))))
   refine aGv ?_;intro w6 bP;have B6:=hid (aQ bP);clear bP x8 aN;have O6:=hid (cU O3.out B6.out);have E6:=hid (nC E3.out B6.out);go_wp2;go_roundw
   case rel=>exact⟨m+1,by omega,by go_num,by rw[aK.out],by rw[aO.out];exact O6.out,E6.out⟩
   case measure=>simp[intOf];omega
  ·have cD:m=n:=by omega
   have bC:=aC.out m;subst cD;have t1:¬ ((m:Int)<(m:Int)):=by omega
   have HU:=hid (fun W=>b2.out (bX size L m) W (by omega));go_wp2_with (go_at_call 144;refine (HU.out _).mono ?_;rintro e w5 ⟨rfl,rfl⟩)
   go_ret
   exact⟨rfl,Ho.out,aP.out⟩
def aN(s:aFM):aFK:=⟨s.name,dD s.rows,s.rate,s.rows.length,s.lp,s.f,s.t,0,0⟩
def cT(size:Nat)(SS:List aFM)(d:List aFK):Nat->List (Nat × List Nat)
 | 0=>[]
 | m+1=>cT size SS d m++match SS[m]?,d[m]? with
  | some s,some x=>fJ x.first.toNat x.sums.toNat size s.rows s.rows.length
  | _,_=>[]
theorem CQ{size:Nat}{SS:List aFM}{d:List aFK}{m:Nat}{s:aFM}{x:aFK}(h1:SS[m]? = some s)(h2:d[m]? = some x):cT size SS d (m+1)=cT size SS d m++fJ x.first.toNat x.sums.toNat size s.rows s.rows.length:=by
 show cT size SS d m++(match SS[m]?,d[m]? with|some s,some x=>_|_,_=>_)=_;rw[h1,h2]
theorem FE(n:Nat):dZ (n:Int)=(aS n:Int):=by
 unfold dZ aS;split <;> omega
structure aGf(s:aFM):Prop where
 good:aCw s
 name:s.name.size<=32
 rate:0<=s.rate
 pos:1<=s.rows.length
 f:0<=s.f
 t:0<=s.t
 same:∀ r∈s.rows,r.length=dD s.rows
theorem aDt{rows:List (List Int)}(h:1<=rows.length):∃ r∈rows,r.length=dD rows:=by
 cases rows with
 | nil=>simp at h
 | cons r rs=>exact⟨r,by simp,rfl⟩
theorem vB{s:aFM}(h:s.check=0)(J:s.small):aGf s:=by
 have G:=JU h J;have d:=tQ h;unfold aFM.check j2 at h;unfold aFK.right at d;simp only[aGu,aHw,aGy]at d;obtain⟨⟨⟨⟨⟨⟨h1,h2⟩,O⟩,U⟩,V⟩,W⟩,z⟩:=d;have I:s.name.size<=32:=by
  unfold dY at h1;simp only[aGu,aGy]at h1;exact h1.1.2
 have hf:0<=s.f/\0<=s.t:=by
  unfold lK at z;split at z <;> simp only[aGu,aGy]at z <;> omega
 refine⟨G,I,by omega,by omega,hf.1,hf.2,?_⟩;rw[sL (by simp[h1]),sL (by omega),sL (by omega),sL (by simp[z])]at h;cases F:s.rows.all (vG (dD s.rows))
 ·rw[FN F]at h;omega
 ·rw[aGD]at F;intro r d;have:=F r d;unfold vG at this;simpa using this
theorem wM{s:aFM}(h:aGf s):MX (aN s):=by
 obtain⟨r,d,t⟩:=aDt h.pos;have h1:=(h.good.2 r d).1;have h2:=h.good.1;refine⟨⟨by show (0:Int)<=(dD s.rows:Int);omega,by show (dD s.rows:Int)<=150;omega⟩,by show (0:Int)<=(s.rows.length:Int);omega,by show (s.rows.length:Int)<=2;omega⟩
theorem BU(s:aFM):bE (aN s)=((aS (dD s.rows)*s.rows.length:Nat):Int):=by
 show dZ (dD s.rows:Int)*(s.rows.length:Int)=_;rw[FE]
 push_cast
 rfl
theorem tW{n b:Int}(h:0<b)(hb:b=16\/b=64):n<=upZ n b:=by
 unfold upZ;rcases hb with rfl|rfl <;> omega
theorem aAZ{size:Int}{L:List aFK}(h1:24<=size)(hL:∀ x∈L,MX x)(m:Nat):bX size L m<=bX size L (m+1):=by
 cases d:L[m]? with
 | none =>
  have e:bX size L (m+1)=bX size L m:=by
   show (match L[m]? with|some x=>_|none=>_)=_;rw[d]
  rw[e];exact aHd _
 | some x =>
  rw[gL d];have hF:=l9 (hL x (aGh d));have h:0<=size*bE x:=aIZ (by omega) hF.1;have t:=tW (n:=bX size L m+4*bE x) (b:=16) (by omega) (.inl rfl);omega
theorem tZ{size:Int}{L:List aFK}(h1:24<=size)(hL:∀ x∈L,MX x){m n:Nat}(h:m<=n):bX size L m<=bX size L n:=by
 induction n with
 | zero =>
  have:m=0:=by omega
  subst this;exact aHd _
 | succ n d =>
  by_cases hm:m=n+1
  ·subst hm;exact aHd _
  ·exact aIY (d (by omega)) (aAZ h1 hL n)
structure aGg(size N:Nat)(s:aFM)(x:aFK)(first sums:Nat):Prop where
 name:x.name=s.name
 ch:x.channels=s.rows.length
 good:aGe x
 eqf:x.first=first
 eqs:x.sums=sums
 fit:∀ i k,i<aS (dD s.rows)->k<s.rows.length->first+(i*s.rows.length+k)*size+size<=N/\sums+4*(i*s.rows.length+k)+4<=N
theorem MC{size N:Nat}{SS:List aFM}{m:Nat}{s:aFM}(h1:24<=size)(h2:size<=96)(hf:∀ s∈SS,aGf s)(h:SS[m]? = some s)(W:(N:Int)=upZ (bX size (SS.map aN) SS.length) 64):
  ∃ x first sums,(dI size (SS.map aN) SS.length)[m]? = some x/\aGg size N s x first sums:=by
 have hL:∀ x∈SS.map aN,MX x:=fun x z=>by
  obtain⟨s,h,rfl⟩:=aGq.1 z;exact wM (hf s h)
 have hm:=(aGi.1 h).1;have d:=hf s (aGh h);have z:(SS.map aN)[m]? = some (aN s):=by rw[aF5,h];rfl
 have ha:=xT (size:=(size:Int)) (by omega) (by omega) hL m;have hF:=l9 (hL _ (aGh z));have aA:=gL (size:=(size:Int)) z;have G:=tZ (size:=(size:Int)) (by omega) hL (show m+1<=SS.length by omega);have hu:=tW (n:=bX (size:Int) (SS.map aN) SS.length) (b:=64) (by omega) (.inr rfl);rw[<-W]at hu;obtain⟨sums,U⟩:=aGF ha.1;have J:0<=upZ (bX size (SS.map aN) m+4*bE (aN s)) 16:=by
  have:=tW (n:=bX (size:Int) (SS.map aN) m+4*bE (aN s)) (b:=16) (by omega) (.inl rfl);omega
 obtain⟨first,O⟩:=aGF J;refine⟨plc size (SS.map aN) m (aN s),first,sums,by rw[iR z,FN hm],rfl,rfl,?_,O,U,fun i k hi hk=>?_⟩
 ·have h3:=d.good.1;exact⟨d.name,by show (0:Int)<=(dD s.rows:Int);omega,d.rate,by show (0:Int)<=(s.rows.length:Int);omega,by show (s.rows.length:Int)<=255;omega,d.f,d.t,by show 0<=bX size (SS.map aN) m;exact ha.1,J⟩
 ·have I:=tW (n:=bX (size:Int) (SS.map aN) m+4*bE (aN s)) (b:=16) (by omega) (.inl rfl);rw[aA]at G;rw[O]at I G;rw[U]at I;rw[BU]at I G;generalize aS (dD s.rows)=cnt at *
  generalize s.rows.length=R at *
  have Z:i*R+k+1<=cnt*R:=by
   have:=aHq R (show i+1<=cnt by omega);rw[aHb]at this;omega
  have aD:(i*R+k)*size+size<=size*(cnt*R):=by
   have:=aHq size Z;rw[aHb,aH1 (cnt*R) size]at this;exact this
  have V:(size:Int)*((cnt*R:Nat):Int)=((size*(cnt*R):Nat):Int):=by push_cast;rfl
  rw[V]at G;generalize size*(cnt*R)=P at *
  generalize cnt*R=F at *
  generalize (i*R+k)*size=q1 at *
  generalize i*R+k=q at *
  omega
def b6(size:Nat)(SS:List aFM):Nat:=(upZ (bX size (SS.map aN) SS.length) 64).toNat
def bC(size:Nat)(SS:List aFM):List Nat:=bF (lays (List.replicate (b6 size SS) 0) (cT size SS (dI size (SS.map aN) SS.length) SS.length)) (dI size (SS.map aN) SS.length) size
theorem o4{size N:Nat}{SS:List aFM}(h1:24<=size)(h2:size<=96)(hf:∀ s∈SS,aGf s)(F:(N:Int)=upZ (bX size (SS.map aN) SS.length) 64):∀ m,oQ N (cT size SS (dI size (SS.map aN) SS.length) m)
 | 0=>fun p t=>by simp[cT]at t
 | m+1=>by
  have J:=o4 h1 h2 hf F m;cases z:SS[m]? with
  | none =>
   have e:cT size SS (dI size (SS.map aN) SS.length) (m+1)=cT size SS (dI size (SS.map aN) SS.length) m++[]:=by
    show cT size SS _ m++(match SS[m]?,(dI size (SS.map aN) SS.length)[m]? with|some s,some x=>_|_,_=>_)=_;rw[z]
   rw[e,aIh];exact J
  | some s =>
   obtain⟨x,first,sums,W,t⟩:=MC h1 h2 hf z F;rw[CQ z W,t.eqf,t.eqs];have I:=hf s (aGh z);intro p V;rcases aGJ.1 V with h|h
   ·exact J p h
   ·refine wL s.rows.length (fun j d i y U O hi Z=>?_) p h;have G:=aGh O;have hR:=dO (I.good.2 d G).2 (size:=(size:Int)) (by omega) (by omega) y (aGh Z);exact⟨eA hR.1 hR.2,t.fit i j (by rw[<-I.same d G];exact hi) U⟩
theorem UE{w:World}{base:Nat}{e:TypeId}{size n c:Nat}{A:Option Addr}{xs:List Value}(h:w.ownsRow base e size (.slice A n c) n xs):∀ ad,A=some ad->ad.block<w.heap.size:=by
 rcases h.2 with ⟨h1,_⟩|⟨g,cap,d,h1,hb,hh,_⟩
 ·injection h1 with h1
  subst h1;exact nofun
 ·injection h1 with h1
  subst h1;intro ad h;injection h with h
  subst h;show g<_;rcases aGt g w.heap.size with h2|h2
  ·exact h2
  ·rw[aHl h2]at hh;cases hh
theorem aAN(size:Int)(A:Option Addr)(n cap:Nat)(w:World)(h:size<24\/96<size):Calls prog 52 #[.int .i64 size,.slice A n cap] w fun e w'=>e=.returned (.tuple #[.slice none 0 0,.int .i64 12])/\Below w.heap.size w w':=by
 have d:=hid (fun W=>WR size W h);clear h;go_enter func52,ntmps52;go_wp2_with (go_at_call 81;refine (d.out _).mono ?_;rintro e w2 ⟨rfl,rfl⟩)
 refine aGk (aGN results52 _ _ _) rfl ?_;exact⟨rfl,aGj _ _⟩
theorem aCD(size E:Int)(L:List (aFR × aFM))(A:Option Addr)(cap:Nat)(w:World)(h1:24<=size)(h2:size<=96)(O:L.length<=8)(F:aFX w w.heap.size A L)(t:dM (L.map (·.2))=E)(d:E≠0):
  Calls prog 52 #[.int .i64 size,.slice A L.length cap] w fun e w'=>e=.returned (.tuple #[.slice none 0 0,.int .i64 E])/\Below w.heap.size w w':=by
 have G:=hid (fun W=>oS size W h1 h2);have I:=hid (fun W (hW:Below w.heap.size w W)=>(show Calls prog 92 #[.slice A L.length cap] W (fun e w'=>e=.returned (.int .i64 E)/\Below W.heap.size W w') from by
  rw[<-t];exact xL L A cap W (by omega) (F.later hW)))
 generalize L.length=n at *
 have U:(E != 0)=true:=by rw[aHk];exact d
 have V:(E == 0)=false:=aG8.2 d;clear F t d;go_enter func52,ntmps52;go_wp2_with (go_at_call 81;fail)
 refine (G.out _).mono ?_;rintro e Z ⟨gc,rfl,_,_,z⟩;have h:=hid z;clear z;go_wp2_with (go_at_call 92;fail)
 refine (I.out _ h.out).mono ?_;rintro e w2 ⟨rfl,J⟩;go_wp2;refine aGk (aGN results52 _ _ _) rfl ?_;exact⟨rfl,aC h.out J⟩
theorem AK:∃ i,prog.info? 101=some i/\(∃ z,i.zero=some z/\z.cells.size=9)/\i.size=9/\i.bytes=80:=by
 have h:(prog.info? 101).map (fun i=>(i.zero.map (fun z=>z.cells.size),i.size,i.bytes))=some (some 9,9,80):=by kernel_rfl
 cases hi:prog.info? 101 with
 | none=>rw[hi]at h;cases h
 | some i =>
  rw[hi]at h;simp at h;obtain⟨⟨z,h1,h2⟩,d,t⟩:=h;exact⟨i,rfl,⟨z,h1,h2⟩,d,t⟩
theorem n9(L:List aFK)(x:aFK):bB (L++[x])=bB L++x.cells:=by simp[bB]
theorem tM(x:aFK):∀ u∈x.cells,u.oneCell'=true:=by
 intro u d;simp only[aFK.cells,aGw,aGV,aGS]at d;rcases d with rfl|rfl|rfl|rfl|rfl|rfl|rfl|rfl|rfl <;> rfl
theorem aEf(size:Nat)(L:List (aFR × aFM))(A:Option Addr)(cap:Nat)(w:World)(h1:24<=size)(h2:size<=96)(hl:L.length<=8)(hn:A=none->cap=0)(hs:aFX w w.heap.size A L)(eC:∀ p∈L,p.2.small)(hE:dM (L.map (·.2))=0):
  Calls prog 52 #[.int .i64 size,.slice A L.length cap] w fun e w'=>∃ g,e=.returned (.tuple #[.slice (some ⟨g,0,none⟩) (b6 size (cV (L.map (·.2)))) (b6 size (cV (L.map (·.2)))),.int .i64 0])/\w.heap.size<=g/\BytesAt w' g (bC size (cV (L.map (·.2))))/\Below w.heap.size w w':=by
 obtain⟨i0,hi,⟨z0,eH,f4⟩,d7,bJ⟩:=AK;obtain⟨iB,fU,f5,f6,f7⟩:=aHx tF;have c6:=hid (fun W=>oS (size:Int) W (by omega) (by omega));have HQ:=hid (fun W (hW:Below w.heap.size w W)=>(show Calls prog 92 #[.slice A L.length cap] W (fun e w'=>e=.returned (.int .i64 0)/\Below W.heap.size W w') from by
  have:=xL L A cap W (by omega) (hs.later hW)
  rwa [hE]at this))
 have a5:=hid (fun W (hW:Below w.heap.size w W)=>PQ L A cap W (by omega) hn (hs.later hW));have dZ:=KQ hE;have aT:∀ s∈cV (L.map (·.2)),aGf s:=fun s hs=>by
  have hm:=(oI _).subset hs;obtain⟨p,U,rfl⟩:=aGq.1 hm;exact vB (dZ _ hm) (eC p U)
 have V:(cV (L.map (·.2))).length=L.length:=by rw[(oI _).length_eq,aF7]
 obtain⟨n,d9⟩:∃ n,L.length=n:=⟨_,rfl⟩;rw[d9]at V hl HQ a5 ⊢;obtain⟨SS,dR⟩:∃ SS,cV (L.map (·.2))=SS:=⟨_,rfl⟩;rw[dR]at V aT a5 ⊢;clear hs hE dZ eC hn d9 dR;have aR:(SS.map aN).length=n:=by rw[aF7,V]
 have bH:∀ x∈SS.map aN,MX x:=fun x hx=>by
  obtain⟨s,hs,rfl⟩:=aGq.1 hx;exact wM (aT s hs)
 have dU:=xT (size:=(size:Int)) (by omega) (by omega) bH n;rw[aR]at dU;have dO:=tZ (size:=(size:Int)) (by omega) bH (aG3 n);have e0:bX (size:Int) (SS.map aN) 0=16+(n:Int)*64+4:=by show 16+((SS.map aN).length:Int)*64+4=_;rw[aR]
 rw[e0]at dO;have hu:=tW (n:=bX (size:Int) (SS.map aN) n) (b:=64) (by omega) (.inr rfl);have dP:0<=upZ (bX (size:Int) (SS.map aN) n) 64/\upZ (bX (size:Int) (SS.map aN) n) 64<=30000:=by
  refine⟨by omega,?_⟩;unfold upZ;omega
 obtain⟨N,hN⟩:=aGF dP.1;have cJ:b6 size SS=N:=by unfold b6;rw[V,hN];rfl
 have bV:=hid (fun B c (Ad:Option Addr) W (ho:W.ownsRow B 101 9 (.slice Ad n c) n (bB (SS.map aN))) (hB:B<=W.heap.size)=>aBO (size:Int) n c B (SS.map aN) Ad W aR hl bH (by omega) (by omega) ho hB);rw[hN]at bV;have cI:(N:Int)=upZ (bX size (SS.map aN) SS.length) 64:=by rw[V,hN]
 have eW:=hid (show bC size SS=bF (lays (List.replicate N 0) (cT size SS (dI size (SS.map aN) n) n)) (dI size (SS.map aN) n) size by unfold bC;rw[cJ,V]);have c8:=hid (fun (m:Nat) (s:aFM) (h:SS[m]? = some s)=>(show ∃ x first sums,(dI size (SS.map aN) n)[m]? = some x/\aGg size N s x first sums from by
  have:=MC (N:=N) (by omega) h2 aT h cI
  rwa [V]at this))
 have cS:=hid (fun m=>(show oQ N (cT size SS (dI size (SS.map aN) n) m) from by
  have:=o4 (N:=N) (by omega) h2 aT cI m
  rwa [V]at this))
 have dQ:(dI size (SS.map aN) n).length=n:=by rw[mC,aR]
 have eV:=hid (fun (m:Nat) (s:aFM) (x:aFK) (ha:SS[m]? = some s) (hb:(dI size (SS.map aN) n)[m]? = some x)=>CQ (size:=size) ha hb);have eY:=hid (fun (k:Nat) (s:aFM) (h:SS[k]? = some s)=>(show (SS.map aN).take (k+1)=(SS.map aN).take k++[aN s] from by
  have hx:(SS.map aN)[k]? = some (aN s):=by rw[aF5,h];rfl
  obtain⟨hk,he⟩:=aGi.1 hx;rw[aHG hk,he]))
 have eZ:=hid (show (SS.map aN).take n=SS.map aN from aGW (by rw[aR];exact LE _));rw[cJ];generalize dI (size:Int) (SS.map aN) n=I at *
 generalize SS.map aN=LM at *
 have aV:=hid dQ;have e8:=hid (fun (k:Nat) (s:aFM) (h:SS[k]? = some s)=>aT s (aGh h));have g1:N<=30000:=by omega
 have g0:20+n*64<=N:=by omega
 have dG:=hid V;clear cJ hN dP hu dO e0 dU bH aR aT cI dQ V;go_enter func52,ntmps52;go_wp2_with (go_at_call 81;fail)
 refine (c6.out _).mono ?_;rintro e w1 ⟨gc,rfl,_,d4,dS⟩;have E1:=hid dS;have dA:=hid d4;clear dS d4;go_wp2_with (go_at_call 92;fail)
 refine (HQ.out _ E1.out).mono ?_;rintro e w2 ⟨rfl,cK⟩;have E2:=hid (aC E1.out cK);have dB:=hid (dA.out.later cK);clear cK;go_wp2_with (go_at_call 93;fail)
 refine (a5.out _ E2.out).mono ?_;rintro e d ⟨A3,c3,M,rfl,hM,_,_,_,eB,cL⟩;have cH:M.length=n:=by rw[<-dG.out,<-hM,aF7]
 rw[cH];have E3:=hid (aC E2.out cL);have dC:=hid (dB.out.later cL);have HM:=hid (fun (i:Nat) (p:aFR × aFM) (h:M[i]? = some p)=>(show SS[i]? = some p.2 from by rw[<-hM,aF5,h];rfl));have cY:=hid cH;have a7:=hid eB;clear hM cH eB cL a5 HQ c6 E1 E2 dA dB;go_wp2_with fail
 go_loopw [9,34] (fun o v wr=>∃ (k:Nat) (A':Option Addr) (c':Nat),k<=n/\v=.int .i64 k/\o=.slice A' k c'/\wr.ownsRow d.heap.size 101 9 (.slice A' k c') k (bB (LM.take k))/\Below d.heap.size d wr) (fun _ v _=>n-(intOf v).toNat)
 case atStart=>exact⟨0,none,0,by omega,rfl,rfl,aHc _ _ _ _,aGj _ _⟩
 case round =>
  obtain⟨k,A',c',hk,rfl,rfl,aM,dW⟩:=hrel;have b0:=hid aM;have F:=hid dW;have dE:=hid (bO aM);clear aM dW
  by_cases fX:k<n
  ·have t1:(k:Int)<(n:Int):=by omega
   have t2:(0:Int)<=(k:Int):=by omega
   obtain⟨p,U⟩:=aE (k:=k) cY.out fX;have aB:=HM.out k p U;obtain⟨b,off,rfl,hb,O⟩:=DW a7.out.row U;have aZ:=(a7.out.fits p (aGh U)).below F.out;obtain⟨⟨nm,rate,lp,f,t,a,len,J⟩,s⟩:=p;obtain⟨⟨e1,e2,e3,e4,e5,e6⟩,_,_,vs,h4,h5⟩:=aZ;simp only[aFR.cells]at O h4 h5 e1 e2 e3 e4 e5 e6 aB;have c0:=(F.out.cell (p:=⟨b,off+k*6+0,none⟩) hb).trans (O 0 _ rfl);have c1:=(F.out.cell (p:=⟨b,off+k*6+1,none⟩) hb).trans (O 1 _ rfl);have c2:=(F.out.cell (p:=⟨b,off+k*6+2,none⟩) hb).trans (O 2 _ rfl);have c3:=(F.out.cell (p:=⟨b,off+k*6+3,none⟩) hb).trans (O 3 _ rfl);have c4:=(F.out.cell (p:=⟨b,off+k*6+4,none⟩) hb).trans (O 4 _ rfl);have c5:=(F.out.cell (p:=⟨b,off+k*6+5,none⟩) hb).trans (O 5 _ rfl);rw[Nat.add_zero]at c0;have cZ:=hid (fun W (hW:Below wr.heap.size wr W)=>(show Calls prog 47 #[.agg #[.string nm,.int .i64 rate,.bool lp,.int .i64 f,.int .i64 t,.slice a len J]] W (fun e w'=>e=.returned (.agg (aN s).cells.toArray)/\Below W.heap.size W w') from by
    have fN:Row wr d.heap.size a vs:=h4;have fO:RowsAt wr d.heap.size vs s.rows:=h5;have:=aCA nm rate lp f t a J vs s.rows W len e6.symm ((fN.more F.out.size).later hW) ((fO.more F.out.size).later hW);rw[e1,e2,e3,e4,e5,e6]at this ⊢;exact this))
   have HT:=hid (eY.out k s aB);have eU:=hid (show bB (LM.take (k+1))=bB (LM.take k)++(aN s).cells by rw[HT.out,n9]);have fE:=hid (tM (aN s));have cM:(aN s).cells.length=9:=rfl;generalize (aN s).cells=Z at *
   have fD:=hid cM;have fI:=hid (show Z.toArray.size=9 by rw[aGH,cM]);clear O U hb h4 h5 e1 e2 e3 e4 e5 e6 aB cM;go_wp2_with (go_at_call 47;fail)
   refine (cZ.out _ (aP _ _)).mono ?_;rintro e w4 ⟨rfl,dT⟩;have F4:=hid (aC (aP wr (.cells #[.string nm,.int .i64 rate,.bool lp,.int .i64 f,.int .i64 t,.slice a len J] 119)) dT);have O4:=cU b0.out F4.out;have g5:=F4.out.size;have g6:=F.out.size;clear c0 c1 c2 c3 c4 c5 dT cZ;go_wp2_with (first|(refine gT rfl 144 101 (.tmp 40) rfl i0 z0 9 underlying144 hi eH d7 (by omega) (by omega) Z.toArray rfl fI.out ?_)|(at_builtin;refine cF _ rfl (.tmp 38) (.tmp 41) 144 rfl d.heap.size 101 i0 z0 9 80 underlying144 hi eH d7 bJ f4 (by omega) (.slice A' k c') k (bB (LM.take k)) rfl (O4.alloc _) (w4.heap.size+1) (some ⟨w4.heap.size,0,none⟩) 1 1 Z rfl (by rw[fD.out]) (Row.new w4 _ Z) fE.out (by omega) (by omega) (by simp;omega) ?_;intro A2 c2 G a0 fT g2 g3))
   go_roundw
   case rel =>
    have bG:Below d.heap.size d G:=((nC F.out F4.out (LE _)).alloc (by omega) (.cells Z.toArray 101)).grown fT (by simp;omega) (fun g h=>dE.out g h);exact⟨k+1,A2,c2,by omega,by go_num,rfl,by rw[eU.out];exact a0,bG⟩
   case measure=>simp[intOf];omega
  ·have fV:k=n:=by omega
   subst fV;have t1:¬ ((k:Int)<(k:Int)):=by omega
   have aM:=b0.out;rw[eZ.out]at aM;have c7:=hid (bV.out d.heap.size c' A' wr aM F.out.size);clear aM;go_wp2_with (go_at_call 94;fail)
   refine c7.out.mono ?_;rintro e G ⟨rfl,a0,bG⟩;have t2:¬ ((4194304:Int)<(N:Int)):=by omega
   have t3:¬ ((N:Int)<0):=by omega
   have R5:=hid (Row.of_own a0);have cR:=hid (UE a0);have E5:=hid (show Below d.heap.size d G from F.out.trans bG);obtain⟨Z,cN⟩:∃ Z,madeCells #[Value.int .u8 0] N=Z:=⟨_,rfl⟩;have dF:=hid (show Z=(u8s (List.replicate N 0)).toArray from by
    have h:=aJf (Value.int .u8 0) N;rw[cN]at h;have:u8s (List.replicate N 0)=List.replicate N (.int .u8 0):=by simp[u8s]
    rw[this,<-h])
   clear a0 bG bV c7;go_wp2_with (refine aJH G rfl (.tmp 49) (.tmp 49) 32 rfl 5 iB (.int .u8 0) underlying32 fU f5 f6 rfl .i64 .i64 N rfl rfl (by rw[f7];omega) (by omega) ?_;rw[cN])
   obtain⟨wB,bL⟩:∃ wB,G.alloc (.cells Z 5)=wB:=⟨_,rfl⟩;rw[bL];have dH:=hid (show BytesAt wB G.heap.size (List.replicate N 0) by
    rw[<-bL,dF.out];exact Blk.new G 5 (u8s (List.replicate N 0)))
   have a4:=hid (show Below G.heap.size G wB by rw[<-bL];exact aP G _);have RB:=hid (show Row wB G.heap.size A' (bB I) from R5.out.below a4.out);have EB:=hid (show Below d.heap.size d wB from nC E5.out a4.out (LE _));have aI:=hid (show d.heap.size<=G.heap.size from E5.out.size);have a8:=hid (show G.heap.size<=wB.heap.size from a4.out.size);have g4:=E3.out.size;obtain⟨gB,d2⟩:∃ gB,G.heap.size=gB:=⟨_,rfl⟩;rw[d2]at dH RB aI a8 cR ⊢;have fC:=hid (show CoderAt wB gc (size:Int) from aF dC.out EB.out);have fB:=hid (show gc<d.heap.size from by
    rcases aGt gc d.heap.size with h|h
    ·exact h
    ·have h2:=dC.out;unfold CoderAt at h2;rw[aHl h]at h2;cases h2)
   have d5:gc≠gB:=by have:=fB.out;have:=aI.out;omega
   clear bL d2 cN dF R5 b0 F E5 a4 dE;go_wp2_with fail
   go_loopw [53] (fun v wr=>∃ m:Nat,m<=k/\v=.int .i64 m/\BytesAt wr gB (lays (List.replicate N 0) (cT size SS I m))/\wB.grownBy wr (some gB)) (fun v _=>k-(intOf v).toNat)
   case atStart=>exact⟨0,by omega,rfl,dH.out,aG1 _ _⟩
   case round =>
    obtain⟨m,hm,rfl,dX,d6⟩:=hrel;have bY:=hid dX;have a6:=hid d6;clear dX d6;have fF:=hid (show gB<=wr.heap.size from aHv bY.out.lt)
    by_cases fY:m<k
    ·have t4:(m:Int)<(k:Int):=by omega
     have t5:(0:Int)<=(m:Int):=by omega
     obtain⟨p,U⟩:=aE (k:=m) cY.out fY;have aB:=HM.out m p U;obtain⟨x,first,sums,hx,a1⟩:=c8.out m p.2 aB;have bU:=hid (eV.out m p.2 x aB hx);have bI:=e8.out m p.2 aB;obtain⟨b,off,rfl,hb,O⟩:=DW a7.out.row U;have aZ:=(a7.out.fits p (aGh U)).below EB.out;obtain⟨bd,od,fP,dV,dY⟩:=iD RB.out hx;subst fP;have e7:=hid (fun (W:World) (hW:wB.grownBy W (some gB)) j v (hv:x.cells[j]? = some v)=>(show W.cell? ⟨bd,od+m*9+j,none⟩=some v from (hW.cell_far ⟨bd,od+m*9+j,none⟩ (aGM dV a8.out) (fun e=>by injection e with e;simp only at e;omega)).trans (dY j v hv)));obtain⟨⟨nm,rate,lp,f,t,a,len,J⟩,s⟩:=p;simp only at aB a1 bU bI aZ;have HC:=hid (fun j v (hv:([.string nm,.int .i64 rate,.bool lp,.int .i64 f,.int .i64 t,.slice a len J]:List Value)[j]? = some v)=>(show wr.cell? ⟨b,off+m*6+j,none⟩=some v from
      (a6.out.cell_far ⟨b,off+m*6+j,none⟩ (aGM hb EB.out.size) (fun e=>by injection e with e;simp only at e;have:=aI.out;omega)).trans ((EB.out.cell (p:=⟨b,off+m*6+j,none⟩) hb).trans (O j v hv))))
     have c0:=HC.out 0 _ rfl;have c1:=HC.out 1 _ rfl;have c2:=HC.out 2 _ rfl;have fM:=HC.out 3 _ rfl;have c4:=HC.out 4 _ rfl;have c5:=HC.out 5 _ rfl;rw[Nat.add_zero]at c0;have eT:=hid (fun (W:World) (hy:BytesAt W gB (lays (List.replicate N 0) (cT size SS I m))) (hW:wB.grownBy W (some gB))=>(show Calls prog 95 #[.slice (some ⟨gB,0,none⟩) N N,.agg x.cells.toArray,.agg #[.string nm,.int .i64 rate,.bool lp,.int .i64 f,.int .i64 t,.slice a len J],.pointer (some ⟨gc,0,none⟩)] W (Z7 W gB (lays (List.replicate N 0) (cT size SS I (m+1)))) from by
      obtain⟨⟨q1,q2,q3,q4,q5,q6⟩,fR,fS,vs,f2,eD⟩:=aZ;obtain⟨xn,xl,xr,xc,gQ,xf,xt,xs,hD⟩:=x;obtain⟨y1,y2,y3,y4,y5,y6⟩:=a1;simp only at y1 y2 y4 y5;subst y2 y4 y5;rw[bU.out,GR];have bK:(lays (List.replicate N 0) (cT size SS I m)).length=N:=n7 (by simp) (cS.out m);refine aEK (lays (List.replicate N 0) (cT size SS I m)) gB N N gc size (aS (dD s.rows)) first sums d.heap.size xn xl xr gQ xf xt ⟨nm,rate,lp,f,t,a,len,J⟩ s W hy bK (LE _) (by omega) (fC.out.grown hW d5) d5 (by omega) h2 ?_ (aGE EB.out.size hW.size) aI.out bI.good (fun r hr=>by rw[bI.same r hr]) y6
      refine⟨⟨q1,q2,q3,q4,q5,q6⟩,fR,fS,vs,f2.under EB.out.size aI.out hW,eD.1,fun i v gV hv f3=>?_⟩;obtain⟨a',fL,r1,r2,r3,r4⟩:=eD.2 i v gV hv f3;exact⟨a',fL,r1,r2,r3,r4.under EB.out.size aI.out hW⟩))
     have eQ:=hid (show (prog.info? 101).map (·.size)=some x.cells.length by show _=some 9;kernel_rfl);have eR:=hid (show (prog.info? 119).map (·.size)=some 6 by kernel_rfl);generalize x.cells=xc at *
     clear O U hb aZ dV dY aB hx a1 bI HC bU;go_wp2_with fail
     clear c0 c1 c2 fM c4 c5;obtain⟨wS,a3⟩:∃ wS,wr.alloc (.cells #[.string nm,.int .i64 rate,.bool lp,.int .i64 f,.int .i64 t,.slice a len J] 119)=wS:=⟨_,rfl⟩;rw[a3];have b1:=hid (show Blk wS wr.heap.size 119 [.string nm,.int .i64 rate,.bool lp,.int .i64 f,.int .i64 t,.slice a len J] by rw[<-a3];exact Blk.new wr _ [.string nm,.int .i64 rate,.bool lp,.int .i64 f,.int .i64 t,.slice a len J]);have dJ:=hid (show BytesAt wS gB (lays (List.replicate N 0) (cT size SS I m)) by rw[<-a3];exact bY.out.alloc _);have bZ:=hid (show wB.grownBy wS (some gB) by rw[<-a3];exact grownBy_allocR a6.out _);obtain⟨gS,d3⟩:∃ gS,wr.heap.size=gS:=⟨_,rfl⟩;rw[d3]at b1 ⊢;clear a3 d3;have c9:=hid (fun (z:GW wS)=>e7.out z.1 (aH4 bZ.out z.2));have xS:=fun (z:GW wS)=>(z.2.block gS b1.out.lt).trans b1.out
     refine aJ 7 (by kernel_rfl) (by kernel_rfl) ?_;simp only[List.take_succ_cons,List.take_zero,aGO,aGR]
     repeat (first|(go_big_quiet_want;refine aY 101 (.tmp 61) rfl bd (od+m*9) rfl xc _ (by rintro _ ⟨z,rfl⟩;exact c9.out z) underlying101 rfl eQ.out ?_;go_simp;go_big_quiet_on)|(go_big_quiet_want;refine bT 119 (.tmp 15) rfl gS rfl _ #[.string nm,.int .i64 rate,.bool lp,.int .i64 f,.int .i64 t,.slice a len J] _ _ (by rintro _ ⟨z,rfl⟩;exact xS z) underlying119 rfl eR.out ?_;go_simp;go_big_quiet_on)|go_big_quiet_step (fail))
     refine aGv ?_;intro w6 eE;have B6:=hid (aQ eE);clear eE xS c9;go_wp2_with (go_at_call 95;fail)
     refine (eT.out w6 (dJ.out.below B6.out dJ.out.lt) (aH4 bZ.out B6.out)).mono ?_;rintro e w7 ⟨rfl,eF,d0⟩;have fG:=hid eF;have e9:=hid (aHi (aH4 bZ.out B6.out) d0);clear eF d0;go_wp2;go_roundw
     case rel=>exact⟨m+1,by omega,by go_num,fG.out,e9.out⟩
     case measure=>simp[intOf];omega
    ·have fZ:m=k:=by omega
     subst fZ;have t4:¬ ((m:Int)<(m:Int)):=by omega
     have cW:∀ x∈I,aGe x:=fun x hx=>by
      obtain⟨i,bJ,rfl⟩:=List.getElem_of_mem hx;have hs:i<SS.length:=by rw[dG.out,<-aV.out];exact bJ
      obtain⟨y,first,sums,hy,a1⟩:=c8.out i SS[i] (TT hs);rw[TT bJ]at hy;injection hy with hy
      rw[hy];exact a1.good
     have bK:(lays (List.replicate N 0) (cT size SS I m)).length=N:=n7 (by simp) (cS.out m);have eS:=hid (show Calls prog 96 #[.slice (some ⟨gB,0,none⟩) N N,.slice A' m c',.int .i64 size] wr (iJ wr gB (bC size SS)) from by
      rw[eW.out,<-aV.out];have hr:Row wr wr.heap.size A' (bB I):=(RB.out.under a8.out (LE _) a6.out).more fF.out;have:=aDg (lays (List.replicate N 0) (cT size SS I m)) gB N N I A' c' size wr bY.out bK (LE _) (by rw[aV.out];omega) (by omega) (by rw[aV.out];omega) (by omega) cW hr (fun ad ha=>by have:=cR.out ad ha;omega);rw[aV.out]at this ⊢;exact this)
     clear cW bK;go_wp2_with (go_at_call 96;fail)
     refine eS.out.mono ?_;rintro e w9 ⟨rfl,eG,d1⟩;have fH:=hid eG;have fA:=hid (aHi a6.out d1);clear eG d1;go_wp2;refine aGk (aGN results52 _ _ _) rfl ?_;have fW:w.heap.size<=gB:=by have:=E3.out.size;have:=aI.out;omega
     exact⟨gB,rfl,fW,fH.out,(aC E3.out EB.out).grown fA.out (by have:=a8.out;omega) (fun k hk=>by injection hk with hk;omega)⟩
def aCq(W:World)(t:TypeId)(size n:Nat)(d:List Value)(e:Ending)(w':World):Prop :=
 ∃ A c,e=.returned (.slice A n c)/\n<=c/\c<=9223372036854775807/\(A=none->c=0)/\w'.ownsRow W.heap.size t size (.slice A n c) n d/\Below W.heap.size W w'
theorem aAy{W:World}{B:Nat}{d:List Value}(h:Row W B none d):d=[]:=by
 cases d with
 | nil=>rfl
 | cons z r=>obtain⟨b,off,h,_⟩:=h 0 z rfl;cases h
theorem FC(xs:List Nat)(A:Option Addr)(n cap:Nat)(w:World)(F:xs.length=n)(hl:n<=1000000000)(I:A=none->cap=0)(t:Row w w.heap.size A (u8s xs)):
  Calls prog 99 #[.slice A n cap] w (aCq w 5 1 n (u8s xs)):=by
 obtain⟨i0,hi,aH,aI,aJ⟩:=aHx tF;have hq:=fun (W:World) (a:Option Addr) (n c:Nat)=>aJG (P:=prog) W 32 5 a n c 0 0 underlying32
 rcases A with _|ad
 ·have h0:=aAy t;have h1:xs=[]:=by
   cases xs with
   | nil=>rfl
   | cons z r=>simp[u8s]at h0
  subst h1;obtain rfl:n=0:=F.symm;obtain rfl:=I rfl;go_enter func99,ntmps99;go_wp2
  go_ret
  exact⟨none,0,rfl,LE _,by omega,fun _=>rfl,aHc _ _ _ _,aGj _ _⟩
 ·clear I;have V:=aGC t;have O:=aGC (show (u8s xs).length=n by rw[jW,F]);have U:=aGC (rY xs);generalize u8s xs=cs at *
  clear t F;go_enter func99,ntmps99;go_wp2_with (at_builtin;refine cF _ rfl (.tmp 5) (.tmp 6) 32 rfl w.heap.size 5 i0 _ 1 1 underlying32 hi aH aI aJ rfl (by omega) _ 0 [] rfl (nS w _ _) w.heap.size (some ad) n cap cs rfl (by rw[O.out];omega) (V.out.below (aP _ _)) U.out (by omega) (by omega) (by simp) ?_;intro J Z w2 d aF aN G)
  go_ret
  rw[aGn]at d G;rw[List.nil_append]at d;obtain⟨A3,c3,h3,_,aG⟩:=jK d;injection h3 with e1 _ e3
  subst e1 e3;exact⟨J,Z,rfl,G,gK d,fun h=>(aG h).2,d,(aP _ _).grown aF (by simp) (bO (nS w 5 1))⟩
theorem aBx(L:List aFK):∀ u∈bB L,u.oneCell'=true:=by
 intro u d;unfold bB at d;obtain⟨t,h,d⟩:=aIs.1 d;obtain⟨z,_,rfl⟩:=aGq.1 h;exact tM z u d
theorem WP(L:List aFK)(A:Option Addr)(n cap:Nat)(w:World)(F:L.length=n)(hl:n<=1000000)(I:A=none->cap=0)(t:Row w w.heap.size A (bB L)):
  Calls prog 101 #[.slice A n cap] w (aCq w 101 9 n (bB L)):=by
 obtain⟨i0,hi,⟨z0,aH,aI⟩,aJ,aK⟩:=AK;have hq:=fun (W:World) (a:Option Addr) (n c:Nat)=>aJG (P:=prog) W 144 101 a n c 0 0 underlying144
 rcases A with _|ad
 ·have h0:=aAy t;have h1:L=[]:=by
   cases L with
   | nil=>rfl
   | cons z r=>simp[bB,aFK.cells]at h0
  subst h1;obtain rfl:n=0:=F.symm;obtain rfl:=I rfl;go_enter func101,ntmps101;go_wp2
  go_ret
  exact⟨none,0,rfl,LE _,by omega,fun _=>rfl,aHc _ _ _ _,aGj _ _⟩
 ·clear I;have V:=aGC t;have O:=aGC (show (bB L).length=n*9 by rw[mJ,F]);have U:=aGC (aBx L);generalize bB L=cs at *
  clear t F;go_enter func101,ntmps101;go_wp2_with (at_builtin;refine cF _ rfl (.tmp 5) (.tmp 6) 144 rfl w.heap.size 101 i0 _ 9 80 underlying144 hi aH aJ aK aI (by omega) _ 0 [] rfl (nS w _ _) w.heap.size (some ad) n cap cs rfl (by rw[O.out]) (V.out.below (aP _ _)) U.out (by omega) (by omega) (by simp) ?_;intro J Z w2 d aF aO G)
  go_ret
  rw[aGn]at d G;rw[List.nil_append]at d;obtain⟨A3,c3,h3,_,aG⟩:=jK d;injection h3 with e1 _ e3
  subst e1 e3;exact⟨J,Z,rfl,G,gK d,fun h=>(aG h).2,d,(aP _ _).grown aF (by simp) (bO (nS w 101 9))⟩
structure aGc(x:aFK):Prop where
 len:0<=x.length/\x.length<=1048576
 ch:0<=x.channels/\x.channels<=2
 fr:0<=bE x/\bE x<=131072
theorem aEC{x:aFK}(h1:0<=x.length/\x.length<=1048576)(h2:0<=x.channels/\x.channels<=2):aGc x:=by
 refine⟨h1,h2,?_⟩;unfold bE;have d:0<=dZ x.length/\dZ x.length<=65536:=by unfold dZ;split <;> omega
 generalize dZ x.length=c at *
 rcases (show x.channels=0\/x.channels=1\/x.channels=2 by omega) with e|e|e <;> rw[e] <;> omega
theorem rG{x:aFK}(h:x.right=true):aGc x:=by
 unfold aFK.right at h;simp only[aGu,aHw,aGy]at h;obtain⟨⟨⟨⟨⟨⟨h1,h2⟩,d⟩,t⟩,z⟩,F⟩,G⟩:=h;exact aEC (by omega) (by omega)
theorem MO{size F:Int}(h1:24<=size)(h2:size<=96)(d:0<=F)(h:F<=131072):0<=size*F/\size*F<=12582912 :=
 ⟨aIZ (by omega) d,aIY (aH7 h2 d) (by omega)⟩
theorem zZ{size:Int}{L:List aFK}(h1:24<=size)(h2:size<=96)(hL:∀ x∈L,aGc x):∀ m:Nat,m<=L.length->0<=bX size L m/\bX size L m<=20+64*(L.length:Int)+13200000*(m:Int)
 | 0,_=>by unfold bX;omega
 | m+1,hm=>by
  have t:=zZ h1 h2 hL m (by omega);obtain⟨x,d⟩:∃ x,L[m]? = some x:=⟨_,TT (by omega)⟩;rw[gL d];have hF:=(hL x (aGh d)).fr;have h:=MO h1 h2 hF.1 hF.2;generalize size*bE x=P at *
  generalize bE x=F at *
  generalize bX size L m=a at *
  unfold upZ
  push_cast
  omega
theorem KE{size:Int}{L:List aFK}:∀ m,L.length<=m->bX size L m=bX size L L.length
 | 0,h=>by rw[show L.length=0 by omega]
 | m+1,h=>by
  by_cases he:L.length=m+1
  ·rw[he]
  ·have e:bX size L (m+1)=bX size L m:=by
    show (match L[m]? with|some x=>_|none=>_)=_;rw[aGr (by omega)]
   rw[e,KE m (by omega)]
theorem GD{size:Int}{L:List aFK}(h1:24<=size)(h2:size<=96)(hL:∀ x∈L,aGc x)(d:L.length<=64)(m:Nat):0<=bX size L m/\bX size L m<=900000000:=by
 by_cases hm:m<=L.length
 ·have:=zZ h1 h2 hL m hm;omega
 ·rw[KE m (by omega)];have:=zZ h1 h2 hL L.length (LE _);omega
theorem aBP(size:Int)(n cap base:Nat)(L:List aFK)(A:Option Addr)(w:World)(hn:L.length=n)(cE:n<=64)(hL:∀ x∈L,aGc x)(bM:24<=size)(bO:size<=96)
 (bL:w.ownsRow base 101 9 (.slice A n cap) n (bB L))(cM:base<=w.heap.size):
  Calls prog 94 #[.slice A n cap,.int .i64 size] w fun e w'=>e=.returned (.int .i64 (upZ (bX size L n) 64))/\w'.ownsRow base 101 9 (.slice A n cap) n (bB (dI size L n))/\Below base w w':=by
 have aM:=hid (fun m=>GD (size:=size) bM bO hL (by rw[hn];exact cE) m);have H0:=hid (show bX size L 0=16+(L.length:Int)*64+4 from rfl);have cL:=hid (show dI size L 0=L from rfl);rw[hn]at H0;have Hn:=hid hn;have HL:=hid hL;have b5:=hid bL;have b3:=hid (fun a W (h:0<=a/\a<=1000000000)=>KL a W h.1 (by omega));have b2:=hid (fun a W (h:0<=a/\a<=1000000000)=>KM a W h.1 (by omega));have bV:=hid (fun W=>mN (n:Int) W (by omega) (by omega));have cC:=aM.out 0;rw[H0.out]at cC;clear hn hL bL;go_enter func94,ntmps94;go_wp2_with (go_at_call 98;refine (bV.out _).mono ?_;rintro e w2 ⟨rfl,rfl⟩)
 go_loopw [5,12] (fun at_ i wr=>∃ m:Nat,m<=n/\i=.int .i64 m/\at_=.int .i64 (bX size L m)/\wr.ownsRow base 101 9 (.slice A n cap) n (bB (dI size L m))/\Below base w wr) (fun _ i _=>n-(intOf i).toNat)
 case atStart=>exact⟨0,by omega,rfl,by rw[H0.out],b5.out,aGj _ _⟩
 case round =>
  obtain⟨m,hm,rfl,rfl,ho,bD⟩:=hrel;have Ho:=hid ho;have aR:=hid bD;clear ho bD
  by_cases hlt:m<n
  ·have t1:(m:Int)<(n:Int):=by omega
   have t2:(0:Int)<=(m:Int):=by omega
   obtain⟨x,V⟩:=aE (k:=m) Hn.out hlt;have bA:=(HL.out x (List.mem_of_getElem? V)).fr;have aX:=HL.out x (List.mem_of_getElem? V);have bC:=aM.out m;have aK:=hid (gL (size:=size) V);have aP:=hid (wN (size:=size) V);have aF:(dI size L m)[m]? = some x:=by rw[iR V m,sL (by omega)]
   obtain⟨g,rfl,cO,cP⟩:=rO Ho.out (by omega);have aV:=(show plc size L m x={ x with sums:=bX size L m,first:=upZ (bX size L m+4*bE x) 16 } from rfl);have cQ:=MO bM bO bA.1 bA.2;obtain⟨a,ha⟩:∃ a,bX size L m=a:=⟨_,rfl⟩;rw[ha]at aV bC aK ⊢;rw[aV]at aP;generalize dI size L m=LM at *
   have aZ:m<LM.length:=(List.getElem?_eq_some_iff.1 aF).1;obtain⟨d,aB⟩:∃ d,upZ (a+4*bE x) 16=d:=⟨_,rfl⟩;have cK:=hid aB;rw[aB]at aP aK;have cN:0<=d/\d<=1000000000:=by rw[<-aB];unfold upZ;omega
   have bN:=lL (y:={ x with sums:=a }) (v:=.int .i64 a) aF (show 7<9 by decide) rfl;have Z:(LM.set m { x with sums:=a })[m]? = some { x with sums:=a }:=by rw[List.getElem?_set,if_pos rfl,if_pos aZ]
   have a0:=lL (y:={ x with sums:=a,first:=d }) (v:=.int .i64 d) Z (show 8<9 by decide) rfl;rw[List.set_set]at a0;obtain⟨I,U⟩:=Ho.out.stored (m*9+7) (.int .i64 a);rw[<-bN]at I;obtain⟨b',a3,G,_,bG⟩:=iD (Row.of_own Ho.out) aF;injection G with G
   injection G with J O
   subst J O;have c7:wr.cell? ⟨g,m*9+7,none⟩=some (.int .i64 x.sums):=by
    have:=bG 7 _ rfl
    rwa [aGn]at this
   have z7:=Ho.out.frozenAt (m*9+7);obtain⟨w1,bQ⟩:∃ w1,wr.setCell ⟨g,m*9+7,none⟩ (.int .i64 a)=w1:=⟨_,rfl⟩;rw[bQ]at I U;have O1:=hid I;have E1:=hid (aR.out.grown U (by have:=aR.out.size;omega) (fun k hk=>by injection hk with hk;omega));obtain⟨b',a3,G,_,bH⟩:=iD (Row.of_own I) Z;injection G with G
   injection G with J O
   subst J O;have aN:=hid (fun (y:aFK) W (hy:y.length=x.length/\y.channels=x.channels)=>(show Calls prog 143 #[.agg y.cells.toArray] W (fun e w'=>e=.returned (.int .i64 (bE x))/\Below W.heap.size W w') from by
    have h:=sY y W (by rw[hy.1];have:=aX.len;omega) (by rw[hy.2];have:=aX.ch;omega);have e:bE y=bE x:=by unfold bE;rw[hy.1,hy.2]
    rwa [e]at h))
   obtain⟨nm,len,rate,ch,lp,f,t,sums,first⟩:=x;have bW:=hid (fun W=>aN.out ⟨nm,len,rate,ch,lp,f,t,a,first⟩ W ⟨rfl,rfl⟩);have bZ:=hid (fun W=>aN.out ⟨nm,len,rate,ch,lp,f,t,a,d⟩ W ⟨rfl,rfl⟩);have HK:=hid (fun j v (hv:(aFK.cells ⟨nm,len,rate,ch,lp,f,t,a,first⟩)[j]? = some v)=>(show w1.cell? ⟨g,m*9+j,none⟩=some v from by have:=bH j v hv;rwa [aGn]at this));have a6:=hid (show (prog.info? 101).map (·.size)=some 9 by kernel_rfl);generalize bE ⟨nm,len,rate,ch,lp,f,t,sums,first⟩=F at *
   have b6:=hid a0;have a9:=hid (fun W=>b3.out (a+4*F) W (by omega));rw[aB]at a9;have a8:=hid aZ;clear I U bG bH bN a0 V aF Z aX aV ha aB aN aZ;go_wp2_with (first|(refine aL rfl 101 (.tmp 23) rfl g (m*9) rfl (aFK.cells ⟨nm,len,rate,ch,lp,f,t,a,first⟩) _ HK.out underlying101 rfl a6.out ?_)|(go_at_call 143;fail))
   refine (bW.out w1).mono ?_;rintro e w2 ⟨rfl,aW⟩;have O2:=hid (cU O1.out aW);have E2:=hid (nC E1.out aW);clear aW bQ c7 z7;have Z:(LM.set m (⟨nm,len,rate,ch,lp,f,t,a,first⟩:aFK))[m]? = some ⟨nm,len,rate,ch,lp,f,t,a,first⟩:=by rw[List.getElem?_set,if_pos rfl,if_pos (by have:=a8.out;omega)]
   obtain⟨b',a3,G,_,bI⟩:=iD (Row.of_own O2.out) Z;injection G with G
   injection G with J O
   subst J O;have c8:w2.cell? ⟨g,m*9+8,none⟩=some (.int .i64 first):=by
    have:=bI 8 _ rfl
    rwa [aGn]at this
   have z8:=O2.out.frozenAt (m*9+8);obtain⟨I,U⟩:=O2.out.stored (m*9+8) (.int .i64 d);obtain⟨w3,a2⟩:∃ w3,w2.setCell ⟨g,m*9+8,none⟩ (.int .i64 d)=w3:=⟨_,rfl⟩;rw[<-b6.out,a2]at I;rw[a2]at U;have O3:=hid I;have E3:=hid (E2.out.grown U (by have:=E2.out.size;omega) (fun k hk=>by injection hk with hk;omega));have bR:(LM.set m (⟨nm,len,rate,ch,lp,f,t,a,d⟩:aFK))[m]? = some ⟨nm,len,rate,ch,lp,f,t,a,d⟩:=by rw[List.getElem?_set,if_pos rfl,if_pos (by have:=a8.out;omega)]
   obtain⟨b',a3,G,bF,bJ⟩:=iD (Row.of_own I) bR;injection G with G
   injection G with J O
   subst J O;have aO:=hid (fun (z:GW w3) j v (hv:(aFK.cells ⟨nm,len,rate,ch,lp,f,t,a,d⟩)[j]? = some v)=>(show z.1.cell? ⟨g,m*9+j,none⟩=some v from by
    have h:=(z.2.cell (p:=⟨g,0+m*9+j,none⟩) bF).trans (bJ j v hv)
    rwa [aGn]at h))
   have x8:=fun (z:GW w3)=>aO.out z 8 _ rfl
   have cR:IntKind.i64.wrap (size*F)=size*F:=aGl _ (by omega);have cS:IntKind.i64.wrap (d+size*F)=d+size*F:=aGl _ (by omega);clear I U bI bJ Z bR bF;go_wp2_with (go_at_call 144;refine (a9.out _).mono ?_;rintro e w5 ⟨rfl,rfl⟩)
   clear a2 c8 z8;refine aU (by kernel_rfl) (by kernel_rfl) ?_
   repeat (first|(go_big_quiet_want;refine aY 101 (.tmp 42) rfl g (m*9) rfl (aFK.cells ⟨nm,len,rate,ch,lp,f,t,a,d⟩) _ (by rintro _ ⟨z,rfl⟩;exact aO.out z) underlying101 rfl a6.out ?_;go_simp;go_big_quiet_on)|go_big_quiet_step ((go_at_call 143;exact bY (bZ.out _))))
   refine aGv ?_;intro w6 bP;have B6:=hid (aQ bP);clear bP x8 aO;have O6:=hid (cU O3.out B6.out);have E6:=hid (nC E3.out B6.out);go_wp2;go_roundw
   case rel=>exact⟨m+1,by omega,by go_num,by rw[aK.out],by rw[aP.out];exact O6.out,E6.out⟩
   case measure=>simp[intOf];omega
  ·have cD:m=n:=by omega
   have bC:=aM.out m;subst cD;have t1:¬ ((m:Int)<(m:Int)):=by omega
   have HU:=hid (fun W=>b2.out (bX size L m) W (by omega));go_wp2_with (go_at_call 144;refine (HU.out _).mono ?_;rintro e w5 ⟨rfl,rfl⟩)
   go_ret
   exact⟨rfl,Ho.out,aR.out⟩
end Go.Proofs.YtbpgfkjhclpbdaaGreatDoor
