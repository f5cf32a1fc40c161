/- FetA, FetB, CurC, FetC, FetD, FetX, FetY, CurD, CurE, CurF, CurH, CurG, CurI, CurK, LawCC. Conditions: as each theorem states. -/
import Derived.Test.YtbpgfkjhclpbdaaGreatDoorPw49
import Derived.Test.YtbpgfkjhclpbdaaGreatDoorPw51
set_option maxRecDepth 100000
set_option maxHeartbeats 32000000
namespace Go.Proofs.YtbpgfkjhclpbdaaGreatDoor
open Tryz
open Go.RowKit Go.Lib
theorem aFL.below{S:List Nat}{w w':World}{B:Nat}(h:aFL S w w')(d:∀ x∈S,B<=x)(t:B<=w.heap.size):Below B w w' :=
 ⟨h.os,h.tape,h.output,h.size,fun j z=>h.block j (by omega) (fun hm=>by have:=d j hm;omega)⟩
def FrmPost(w:World)(f:aFJ)(er:Int)(e:Ending)(w':World):Prop :=
 ∃ A c,e=.returned (.tuple #[.agg (aZ f (.slice A f.tones.length c)),.int .i64 er])/\f.tones.length<=c/\c<=9223372036854775807/\(f.tones=[]\/∃ g,A=some ⟨g,0,none⟩/\w.heap.size<=g)/\Row w' w'.heap.size A (aV f.tones)
theorem FrmPost.zero(w w':World)(er:Int):FrmPost w fD er (.returned (.tuple #[.agg bS,.int .i64 er])) w':=⟨none,0,rfl,LE _,by omega,.inl rfl,Row.none_ _ _ _⟩
theorem aDZ{bs:List Nat}(h:Byt bs)(o n:Nat):Byt (cC bs o n):=fun x d=>by
 unfold cC at d;obtain⟨j,_,rfl⟩:=aGq.1 d;rw[aGz];cases t:bs[o+j]? with
 | none=>show (0:Nat)<256;omega
 | some z=>exact h z (aGh t)
theorem LR(D:List aFK)(bs:List Nat)(i c b:Int)(B:List Nat):(lX D bs i c b B).Len:=by
 unfold lX;split
 ·exact yW B
 ·exact⟨rfl,rfl,rfl,rfl⟩
structure aFO(wB w:World)(bs:List Nat)(size:Nat)(D:List aFK)(gx gc gd gs gf:Nat)(Ai:Option Addr)(gm K:Nat)(rd:Int)(v:aFN)(fr lo:Int):Prop where
 bank:aF2 wB gx bs size D
 fit:aGb bs size D
 even:bs.length % 64=0
 old:Below wB.heap.size wB w
 cN:wB.heap.size<=gc
 sN:wB.heap.size<=gs
 dN:wB.heap.size<=gd
 fN:wB.heap.size<=gf
 img:∀ ad,Ai=some ad->ad.block≠gf
 head:Blk w gf 52 [.pointer (some ⟨gc,0,none⟩),.pointer (some ⟨gx,0,none⟩),.int .i64 fr,.int .i64 lo]
 cache:aFT w bs gc gd gs Ai gm K rd v
 cnt:(0<=fr/\fr<=K)/\(0<=lo/\lo<=K)
theorem aFO.later{wB w w':World}{bs:List Nat}{size:Nat}{D:List aFK}{gx gc gd gs gf:Nat}{Ai:Option Addr}{gm K:Nat}{rd:Int}{v:aFN}{fr lo:Int}(h:aFO wB w bs size D gx gc gd gs gf Ai gm K rd v fr lo)(hb:Below w.heap.size w w'):aFO wB w' bs size D gx gc gd gs gf Ai gm K rd v fr lo :=
 ⟨h.bank,h.fit,h.even,aC h.old hb,h.cN,h.sN,h.dN,h.fN,h.img,h.head.below hb h.head.lt,h.cache.later hb,h.cnt⟩
theorem aFO.bankAt{wB w:World}{bs:List Nat}{size:Nat}{D:List aFK}{gx gc gd gs gf:Nat}{Ai:Option Addr}{gm K:Nat}{rd:Int}{v:aFN}{fr lo:Int}(h:aFO wB w bs size D gx gc gd gs gf Ai gm K rd v fr lo):aF2 w gx bs size D:=h.bank.later h.old
theorem aFT.lts{w:World}{bs:List Nat}{gc gd gs:Nat}{Ai:Option Addr}{gm K:Nat}{rd:Int}{v:aFN}(h:aFT w bs gc gd gs Ai gm K rd v):gc<w.heap.size/\gs<w.heap.size/\gd<w.heap.size/\gm<w.heap.size:=by
 obtain⟨cd,d⟩:=h.disk.blk;exact⟨h.cache.head.lt,h.cache.slots.lt,d.lt,hlt h.disk.2.2⟩
theorem aFT.img_lt{w:World}{bs:List Nat}{gc gd gs:Nat}{Ai:Option Addr}{gm K:Nat}{rd:Int}{v:aFN}(h:aFT w bs gc gd gs Ai gm K rd v)(t:0<bs.length):∀ ad,Ai=some ad->ad.block<w.heap.size:=fun ad had=>by
 obtain⟨d,z⟩:∃ d,bs[0]? = some d:=⟨_,TT t⟩;obtain⟨G,I,hA,F,_⟩:=h.disk.2.1 0 _ (eL z);rw[hA]at had;injection had with had
 rw[<-had];exact F
theorem vA{w:World}{gf gc gx:Nat}{fr lo:Int}(h:Blk w gf 52 [.pointer (some ⟨gc,0,none⟩),.pointer (some ⟨gx,0,none⟩),.int .i64 fr,.int .i64 lo]):Calls prog 63 #[.pointer (some ⟨gf,0,none⟩)] w fun e w'=>e=.returned (.bool false)/\w=w':=by
 have d:w.cell? ⟨gf,1,none⟩=some (.pointer (some ⟨gx,0,none⟩)):=(h.cell 1).trans rfl;clear h;go_enter func63,ntmps63;go_wp2
 go_ret
 exact⟨rfl,rfl⟩
def MY(w:World)(bs:List Nat)(size:Nat)(D:List aFK)(gc gd gs:Nat)(Ai:Option Addr)(gm K:Nat)(i c b:Int)(e:Ending)(w':World):Prop :=
 FrmPost w (lX D bs i c b (cC bs (bL D size i c b).toNat size)) (iN D bs i c b (cC bs (bL D size i c b).toNat size)) e w'/\aFL [gc,gs,gd] w w'/\∃ d v',aFT w' bs gc gd gs Ai gm (K+size) d v'
theorem JR{wB w:World}{bs:List Nat}{size:Nat}{D:List aFK}{gx gc gd gs gf:Nat}{Ai:Option Addr}{gm K:Nat}{rd:Int}{v:aFN}{fr lo:Int}(h:aFO wB w bs size D gx gc gd gs gf Ai gm K rd v fr lo)(i c b:Int)(hK:K+96<=1000000000000000)(hE:bR D i c b=0):
  Calls prog 64 #[.pointer (some ⟨gf,0,none⟩),.int .i64 i,.int .i64 c,.int .i64 b,.int .i64 (bL D size i c b)] w (MY w bs size D gc gd gs Ai gm K i c b):=by
 have a0:=hid (show ∀ e w',(FrmPost w (lX D bs i c b (cC bs (bL D size i c b).toNat size)) (iN D bs i c b (cC bs (bL D size i c b).toNat size)) e w'/\aFL [gc,gs,gd] w w'/\∃ aV v',aFT w' bs gc gd gs Ai gm (K+size) aV v')->MY w bs size D gc gd gs Ai gm K i c b e w' from fun _ _ h=>h);obtain⟨o,ho,b9⟩:∃ o:Nat,bL D size i c b=(o:Int)/\o+size<=bs.length:=by
  obtain⟨x,c3,cH,cU,cn,bn,S,F,q,P,e1,rfl,rfl,e2,e3,b6,hq,hP,b7,l1,l2,_,b0,b1,cZ⟩:=sA h.fit hE;refine⟨F+P,?_,l2⟩;unfold bL nK;rw[FN hE,cH,e1,e3,b6,<-Int.natCast_add,hq,b7]
  push_cast;rfl
 rw[ho,Int.toNat_natCast]at a0;rw[ho];have c2:=h.fit.lo;have c0:=h.fit.hi;have cP:=hid (show (prog.info? 45).map (·.size)=some bS.size from bZ);have cQ:=hid (show bS.all (·.oneCell')=true by simp[bS,Value.oneCell']);obtain⟨t,aD⟩:∃ t,w.alloc (.cells bS 45)=t:=⟨_,rfl⟩;have V:=hid (show Below w.heap.size w t by rw[<-aD];exact aP w _);have S1:=hid (show Blk t w.heap.size 45 bS.toList by rw[<-aD];exact Blk.new w _ _);have cF:w.alloc (.cells #[.int .i64 0,.int .i64 0,.int .i64 0,.int .i64 0,.slice none 0 0,.int .i64 0,.int .i64 0,.int .i64 0,.int .i64 0,.int .i64 0,.int .i64 0,.int .i64 0,.int .i64 0,.int .i64 0,.int .i64 0,.int .i64 0,.int .i64 0,.int .i64 0,.int .i64 0,.int .i64 0,.int .i64 0,.int .i64 0,.int .i64 0,.int .i64 0,.int .i64 0,.int .i64 0,.int .i64 0,.int .i64 0,.int .i64 0] 45)=t:=aD;have G:=hid (h.later V.out);have a3:=hid (fun (W:World) (hW:Below t.heap.size t W)=>J2 ((G.out.later hW).bankAt) (by omega));have aI:=hid (fun (W:World) (hW:Below t.heap.size t W)=>(show Calls prog 14 #[.pointer (some ⟨gc,0,none⟩),.int .i64 o,.int .i64 size] W (QH W bs gc gd gs Ai gm K v o size) from JO W bs gc gd gs Ai gm K rd v o size ((G.out.later hW).cache) (by omega) (by have:=h.fit.long;omega) h.even b9 (by omega) h.fit.byt));have aG:=hid (fun (W:World) A cap (hW:Below wB.heap.size wB W) (hr:Row W W.heap.size A (u8s (cC bs o size)))=>(show Calls prog 15 #[.pointer (some ⟨gx,0,none⟩),.int .i64 i,.int .i64 c,.int .i64 b,.slice A size cap] W (j8 W (lX D bs i c b (cC bs o size)) (iN D bs i c b (cC bs o size))) from by
  have:=QD gx size bs D i c b (cC bs o size) A cap W (h.bank.later hW) h.fit (by rw[eM];omega) (aDZ h.fit.byt _ _) hr;rw[eM]at this;exact this))
 have HL:=hid (LR D bs i c b (cC bs o size));have H:=hid h;unfold QH at aI;unfold j8 at aG;have x0:=fun (z:GW t)=>(show z.1.cell? ⟨gf,0,none⟩=some (.pointer (some ⟨gc,0,none⟩)) from (z.2.cell (p:=⟨gf,0,none⟩) G.out.head.lt).trans (G.out.head.cell 0))
 have x1:=fun (z:GW t)=>(show z.1.cell? ⟨gf,1,none⟩=some (.pointer (some ⟨gx,0,none⟩)) from (z.2.cell (p:=⟨gf,1,none⟩) G.out.head.lt).trans (G.out.head.cell 1))
 clear aD h hE ho;generalize lX D bs i c b (cC bs o size)=OF at *
 generalize iN D bs i c b (cC bs o size)=OE at *
 generalize MY w bs size D gc gd gs Ai gm K i c b=FP at *
 go_enter func64,ntmps64;go_wp2_with fail
 refine uX 10 #[true,true,true,true,true,true,true,true,true,true,false,false,false,false,false,false] (by kernel_rfl) (by kernel_rfl) ?_;simp only[List.take_succ_cons,List.take_zero]
 repeat (go_big_quiet_step ((go_at_call 103;rename_i z;exact dA (a3.out z.1 z.2))))
 refine aGv ?_;intro w5 bG;have I:=hid (aQ bG);have a2:=hid (aI.out w5 I.out);clear bG x0 x1 cF;change wpAny _ _ _ _ 6 _ _ _;refine aHh (rs:=[10]) (by kernel_rfl) (by simp) ?_;refine aGX rfl (fun K hK=>?_) aHf;go_simp;go_wp2_with (go_at_call 14;refine a2.out.mono ?_;rintro e w6 ⟨A,cap,aV,v',rfl,bD,hC,O,b3⟩)
 refine aGI (i:=11) (v:=?_) rfl (by kernel_rfl) (by kernel_rfl) (by kernel_rfl) (fun _ _ _ h=>h) (Or.inl ⟨by rfl,?_⟩) ?_
 rotate_left
 ·intro w;go_simp;try (with_reducible rfl)
 simp only[Act.put,List.getElem_toArray,List.getElem_cons_succ,List.getElem_cons_zero,aGK,List.set_cons_succ,List.set_cons_zero];refine aGI (i:=12) (v:=?_) rfl (by kernel_rfl) (by kernel_rfl) (by kernel_rfl) (fun _ _ _ h=>h) (Or.inl ⟨by rfl,?_⟩) ?_
 rotate_left
 ·intro w;go_simp;try (with_reducible rfl)
 simp only[Act.put,List.getElem_toArray,List.getElem_cons_succ,List.getElem_cons_zero,aGK,List.set_cons_succ,List.set_cons_zero];refine aGI (i:=13) (v:=?_) rfl (by kernel_rfl) (by kernel_rfl) (by kernel_rfl) (fun _ _ _ h=>h) (Or.inl ⟨by rfl,?_⟩) ?_
 rotate_left
 ·intro w;go_simp;try (with_reducible rfl)
 simp only[Act.put,List.getElem_toArray,List.getElem_cons_succ,List.getElem_cons_zero,aGK,List.set_cons_succ,List.set_cons_zero];refine aGI (i:=14) (v:=?_) rfl (by kernel_rfl) (by kernel_rfl) (by kernel_rfl) (fun _ _ _ h=>h) (Or.inl ⟨by rfl,?_⟩) ?_
 rotate_left
 ·intro w;go_simp;try (with_reducible rfl)
 simp only[Act.put,List.getElem_toArray,List.getElem_cons_succ,List.getElem_cons_zero,aGK,List.set_cons_succ,List.set_cons_zero];refine aGI (i:=15) (v:=?_) rfl (by kernel_rfl) (by kernel_rfl) (by kernel_rfl) (fun _ _ _ h=>h) (Or.inl ⟨by rfl,?_⟩) ?_
 rotate_left
 ·intro w;go_simp;try (with_reducible rfl)
 simp only[Act.put,List.getElem_toArray,List.getElem_cons_succ,List.getElem_cons_zero,aGK,List.set_cons_succ,List.set_cons_zero];refine aJg (by kernel_rfl) ?_ _;have C5:=hid ((G.out.later I.out).cache);have b5:=H.out.cache.lts;have B6:=hid (O.below (B:=wB.heap.size) (fun x hx=>by
  have:=H.out.cN;have:=H.out.sN;have:=H.out.dN;simp only[aGw,aGV,aGS]at hx;omega) (by have:=H.out.old.size;have:=V.out.size;have:=I.out.size;omega))
 have bO:=hid (aG.out w6 A cap ((aC H.out.old (aC V.out I.out)).trans B6.out) (Row.of_own bD));have S6:=hid (O.heap (S1.out.below I.out S1.out.lt) (by
  simp only[aGw,aGV,aGS];omega))
 have O6:=hid ((aFL.of_below [gc,gs,gd] (aC V.out I.out)).trans O);have C6:=hid hC;have x1:w6.cell? ⟨gf,1,none⟩=some (.pointer (some ⟨gx,0,none⟩)):=by
  have b8:gf ∉ [gc,gs,gd]:=by
   obtain⟨cd,hd⟩:=H.out.cache.disk.blk;have n1:=cO H.out.head H.out.cache.cache.head (by decide);have n2:=cO H.out.head H.out.cache.cache.slots (by decide);have n3:=cO H.out.head hd (by decide);simp only[aGw,aGV,aGS];omega
  have bV:=(G.out.later I.out).head;exact (aH (O.heap bV b8) 1).trans rfl
 clear bD hC O b3 a2 b5 a3 aI aG;go_wp2_with (go_at_call 15;fail)
 refine bO.out.mono ?_;rintro e U ⟨Af,cf,rfl,bF,bB,aN,bE,aB⟩;obtain⟨p,hp⟩:∃ p:FrH × aFJ,(⟨⟨Af,cf⟩,OF⟩:FrH × aFJ)=p:=⟨_,rfl⟩;have aT:aZ OF (.slice Af OF.tones.length cf)=(frC p).toArray:=by rw[<-hp];rfl
 rw[aT];have a1:=hid aT;have aU:(frC p).length=29:=jT (by rw[<-hp];exact HL.out);have a4:=hid (lH p);obtain⟨d,bC⟩:∃ d,frC p=d:=⟨_,rfl⟩;rw[bC]at a4 aU a1 ⊢;have aO:d.toArray.size=29:=by rw[aGH,aU]
 have aY:=hid (show (prog.info? 45).map (·.size)=some d.toArray.size by rw[aO];exact bZ);have bQ:=hid (show d.toArray.all (·.oneCell')=true by
  rw[aGY];intro v hv;exact a4.out v (by simpa using hv))
 have bP:=hid (show bS.size=d.toArray.size by rw[aO];rfl);have S7:=hid (show U.heap[w.heap.size]? = some (.cells bS 45 (0,0)) from aF S6.out aB);have HE:=hid (a0.out (.returned (.tuple #[.agg d.toArray,.int .i64 OE])) (U.setRow w.heap.size d.toArray) ⟨⟨Af,cf,by rw[a1.out],bF,bB,aN.imp id fun ⟨Z,h1,h2⟩=>⟨Z,h1,by have:=O6.out.size;omega⟩,mH (aN.imp id fun ⟨Z,h1,h2⟩=>⟨Z,h1,h2⟩) (hlt S6.out) d.toArray bE⟩,?_,?_⟩)
 rotate_left
 ·exact (O6.out.trans (aFL.of_below _ aB)).grown (eC (aG1 U (some w.heap.size)) _) (fun k hk=>by rw[<-Option.some.inj hk];exact LE _)
 ·have C7:=C6.out.later aB;have bY:Blk U w.heap.size 45 bS.toList:=S7.out;have hl:=H.out.cache.lts;have hA:=H.out.cache.img_lt (by omega);have bX:=aFL.of_own (eC (aG1 U (some w.heap.size)) d.toArray);refine⟨aV,v',C7.only bX ?_ ?_ ?_ ?_ ?_ ?_⟩
  ·simp only[Option.toList_some,aGx];omega
  ·simp only[Option.toList_some,aGx];omega
  ·simp only[Option.toList_some,aGx];omega
  ·simp only[Option.toList_some,aGx];omega
  ·intro ad had;have:=hA ad had;simp only[Option.toList_some,aGx];omega
  ·intro s hs hf Z b4 hm;simp only[Option.toList_some,aGx]at hm;obtain⟨p',cX,_,_,J,_,_,h6⟩:=C7.full s hs hf;rw[b4]at J;injection J with J
   injection J with J
   rw[<-J,hm]at h6;exact cO h6 bY (by decide) rfl
 clear bF bB aN bE aB hp aT aU bC aO;go_wp2_with (refine aA rfl 45 (.tmp 10) (.tmp 41) rfl w.heap.size rfl _ _ d.toArray rfl S7.out aY.out bP.out bQ.out ?_)
 refine aGk (v:=.tuple #[.agg d.toArray,.int .i64 OE]) (aX results64 _ _ w.heap.size 45 d.toArray (0,0) _ _ rfl rfl (aHK _ _ _ _ _ _ S7.out) underlying45 rfl aY.out) rfl ?_;exact HE.out
theorem aFT.typed{w w':World}{bs:List Nat}{gc gd gs:Nat}{Ai:Option Addr}{gm K:Nat}{rd:Int}{v:aFN}(h:aFT w bs gc gd gs Ai gm K rd v){r:Nat}{T:TypeId}{xs:List Value}(t:Blk w r T xs)(h1:151≠T)(h2:208≠T)(G:203≠T)(I:5≠T)
 (hA:∀ ad,Ai=some ad->ad.block≠r)(J:aFL [r] w w'):aFT w' bs gc gd gs Ai gm K rd v:=by
 obtain⟨cd,O⟩:=h.disk.blk;refine h.only J ?_ ?_ ?_ ?_ ?_ ?_
 ·simpa using cO h.cache.head t h1
 ·simpa using cO h.cache.slots t h2
 ·simpa using cO O t G
 ·simpa using xX t h.disk.2.2
 ·intro ad had;simpa using hA ad had
 ·intro s V hf F U hm;have hm:F=r:=by simpa using hm
  obtain⟨Z,W,_,_,d,_,_,z⟩:=h.full s V hf;rw[U]at d;injection d with d
  injection d with d
  rw[<-d,hm]at z;exact cO z t I rfl
theorem aFO.step{wB w w':World}{bs:List Nat}{size:Nat}{D:List aFK}{gx gc gd gs gf:Nat}{Ai:Option Addr}{gm K K':Nat}{rd t:Int}{v v':aFN}{fr lo:Int}(h:aFO wB w bs size D gx gc gd gs gf Ai gm K rd v fr lo)(d:aFL [gc,gs,gd] w w')(z:aFT w' bs gc gd gs Ai gm K' t v')(U:K<=K'):aFO wB w' bs size D gx gc gd gs gf Ai gm K' t v' fr lo:=by
 obtain⟨cd,F⟩:=h.cache.disk.blk;have V:=cO h.head h.cache.cache.head (by decide);have W:=cO h.head h.cache.cache.slots (by decide);have Z:=cO h.head F (by decide);have I:=h.cN;have J:=h.sN;have O:=h.dN;refine⟨h.bank,h.fit,h.even,h.old.trans (d.below (fun x G=>?_) h.old.size),h.cN,h.sN,h.dN,h.fN,h.img,d.heap h.head ?_,z,by have:=h.cnt;omega⟩
 ·simp only[aGw,aGV,aGS]at G;omega
 ·simp only[aGw,aGV,aGS];omega
theorem aFO.more{wB w:World}{bs:List Nat}{size:Nat}{D:List aFK}{gx gc gd gs gf:Nat}{Ai:Option Addr}{gm K K':Nat}{rd:Int}{v:aFN}{fr lo:Int}(h:aFO wB w bs size D gx gc gd gs gf Ai gm K rd v fr lo)(d:K<=K'):aFO wB w bs size D gx gc gd gs gf Ai gm K' rd v fr lo :=
 h.step (aFL.refl _ _) (h.cache.more d) d
theorem aFO.count{wB w w':World}{bs:List Nat}{size:Nat}{D:List aFK}{gx gc gd gs gf:Nat}{Ai:Option Addr}{gm K:Nat}{rd:Int}{v:aFN}{fr lo d t:Int}(h:aFO wB w bs size D gx gc gd gs gf Ai gm K rd v fr lo)(z:aFL [gf] w w')(hh:Blk w' gf 52 [.pointer (some ⟨gc,0,none⟩),.pointer (some ⟨gx,0,none⟩),.int .i64 d,.int .i64 t])(F:(0<=d/\d<=K)/\(0<=t/\t<=K)):aFO wB w' bs size D gx gc gd gs gf Ai gm K rd v d t :=
 ⟨h.bank,h.fit,h.even,h.old.trans (z.below (fun x G=>by rw[aGx.1 G];exact h.fN) h.old.size),h.cN,h.sN,h.dN,h.fN,h.img,hh,h.cache.typed h.head (by decide) (by decide) (by decide) (by decide) h.img z,F⟩
theorem aFO.other{wB w w':World}{bs:List Nat}{size:Nat}{D:List aFK}{gx gc gd gs gf:Nat}{Ai:Option Addr}{gm K:Nat}{rd:Int}{v:aFN}{fr lo:Int}(h:aFO wB w bs size D gx gc gd gs gf Ai gm K rd v fr lo){r:Nat}{xs:List Value}(t:Blk w r 45 xs)(z:wB.heap.size<=r)(hA:∀ ad,Ai=some ad->ad.block≠r)(d:aFL [r] w w'):aFO wB w' bs size D gx gc gd gs gf Ai gm K rd v fr lo :=
 ⟨h.bank,h.fit,h.even,h.old.trans (d.below (fun x F=>by rw[aGx.1 F];exact z) h.old.size),h.cN,h.sN,h.dN,h.fN,h.img,d.heap h.head (by simpa using cO h.head t (by decide)),h.cache.typed t (by decide) (by decide) (by decide) (by decide) hA d,h.cnt⟩
theorem aFL.cellSet(w:World)(g j:Nat)(x:Value):aFL [g] w (w.setCell ⟨g,j,none⟩ x):=aFL.of_grown (aHI (aG1 _ _) _ _) (aGx.2 rfl)
theorem aFL.rowSet(w:World)(g:Nat)(xs:Array Value):aFL [g] w (w.setRow g xs):=aFL.of_grown (eC (aG1 w (some g)) _) (aGx.2 rfl)
def EK(wB w:World)(bs:List Nat)(size:Nat)(D:List aFK)(gx gc gd gs gf:Nat)(Ai:Option Addr)(gm K:Nat)(fr lo:Int)(i c b:Int)(e:Ending)(w':World):Prop :=
 FrmPost w (lX D bs i c b (cC bs (bL D size i c b).toNat size)) (iN D bs i c b (cC bs (bL D size i c b).toNat size)) e w'/\aFL [gc,gs,gd,gf] w w' /\
  ∃ d v',aFO wB w' bs size D gx gc gd gs gf Ai gm (K+97) d v' (if bR D i c b=0 then fr+1 else fr) (if bR D i c b=0/\iN D bs i c b (cC bs (bL D size i c b).toNat size)≠0 then lo+1 else lo)
theorem CL{D:List aFK}{bs:List Nat}{i c b:Int}{B:List Nat}(h:bR D i c b≠0):iN D bs i c b B=bR D i c b/\lX D bs i c b B=fD:=by
 have e:iN D bs i c b B=bR D i c b:=by unfold iN;rw[FN h]
 exact⟨e,by unfold lX;rw[e,sL h]⟩
theorem FR{wB w:World}{bs:List Nat}{size:Nat}{D:List aFK}{gx gc gd gs gf:Nat}{Ai:Option Addr}{gm K:Nat}{rd:Int}{v:aFN}{fr lo:Int}(h:aFO wB w bs size D gx gc gd gs gf Ai gm K rd v fr lo)(i c b:Int)(hK:K+97<=1000000000000000)(h0:0<bs.length):
  Calls prog 13 #[.pointer (some ⟨gf,0,none⟩),.int .i64 i,.int .i64 c,.int .i64 b] w (EK wB w bs size D gx gc gd gs gf Ai gm K fr lo i c b):=by
 have aI:=hid (show ∀ e w',(FrmPost w (lX D bs i c b (cC bs (bL D size i c b).toNat size)) (iN D bs i c b (cC bs (bL D size i c b).toNat size)) e w'/\aFL [gc,gs,gd,gf] w w' /\
  ∃ a3 v',aFO wB w' bs size D gx gc gd gs gf Ai gm (K+97) a3 v' (if bR D i c b=0 then fr+1 else fr) (if bR D i c b=0/\iN D bs i c b (cC bs (bL D size i c b).toNat size)≠0 then lo+1 else lo))->EK wB w bs size D gx gc gd gs gf Ai gm K fr lo i c b e w' from fun _ _ h=>h)
 have bT:=hid (show (prog.info? 45).map (·.size)=some bS.size from bZ);have cY:=hid (show bS.all (·.oneCell')=true by simp[bS,Value.oneCell']);obtain⟨Z,aO⟩:∃ Z,w.alloc (.cells bS 45)=Z:=⟨_,rfl⟩;have B1:=hid (show Below w.heap.size w Z by rw[<-aO];exact aP w _);have S1:=hid (show Blk Z w.heap.size 45 bS.toList by rw[<-aO];exact Blk.new w _ _);have cO:w.alloc (.cells #[.int .i64 0,.int .i64 0,.int .i64 0,.int .i64 0,.slice none 0 0,.int .i64 0,.int .i64 0,.int .i64 0,.int .i64 0,.int .i64 0,.int .i64 0,.int .i64 0,.int .i64 0,.int .i64 0,.int .i64 0,.int .i64 0,.int .i64 0,.int .i64 0,.int .i64 0,.int .i64 0,.int .i64 0,.int .i64 0,.int .i64 0,.int .i64 0,.int .i64 0,.int .i64 0,.int .i64 0,.int .i64 0,.int .i64 0] 45)=Z:=aO;have H1:=hid (h.later B1.out);have HN:=hid (vA H1.out.head);have HW:=hid (zP gx size bs D i c b Z H1.out.bankAt h.fit);unfold pM at HW;have c1:Z.cell? ⟨gf,1,none⟩=some (.pointer (some ⟨gx,0,none⟩)):=H1.out.head.cell 1;have H:=hid h;have bQ:=hid (h.cache.img_lt h0)
 by_cases z:bR D i c b=0
 rotate_left
 ·obtain⟨e1,e2⟩:=CL (bs:=bs) (B:=cC bs (bL D size i c b).toNat size) z;rw[e1,e2]at aI;have t1:(bR D i c b != 0)=true:=by rw[aHk];exact z
  have HX:=hid (fun W (hW:aFO wB W bs size D gx gc gd gs gf Ai gm K rd v fr lo)=>(show aFO wB W bs size D gx gc gd gs gf Ai gm (K+97) rd v (if bR D i c b=0 then fr+1 else fr) (if bR D i c b=0/\bR D i c b≠0 then lo+1 else lo) by
   rw[sL z,sL (by omega)];exact hW.more (by omega)))
  clear aO h z e1 e2;generalize EK wB w bs size D gx gc gd gs gf Ai gm K fr lo i c b=FP at *
  generalize bR D i c b=E at *
  generalize bL D size i c b=AT at *
  generalize eG D bs i c b=V at *
  go_enter func13,ntmps13;go_wp2_with (first|(go_at_call 63;refine HN.out.mono ?_;rintro e w' ⟨rfl,rfl⟩)|(go_at_call 12;fail))
  clear cO;refine HW.out.mono ?_;rintro e w2 ⟨rfl,I⟩;have S2:=hid (aF S1.out I);have B2:=hid (aC B1.out I);have H2:=hid (H1.out.later I);clear I;go_wp2_with (refine aA rfl 45 (.tmp 8) (.tmp 31) rfl w.heap.size rfl _ _ bS rfl S2.out bT.out (by rfl) cY.out ?_)
  refine aGk (v:=.tuple #[.agg bS,.int .i64 E]) (aX results13 _ _ w.heap.size 45 bS (0,0) _ _ rfl rfl (aHK _ _ _ _ _ _ S2.out) underlying45 rfl bT.out) rfl ?_;refine aI.out _ _ ⟨FrmPost.zero _ _ _,(aFL.of_below _ B2.out).grown (eC (aG1 w2 (some w.heap.size)) _) (fun k hk=>by rw[<-Option.some.inj hk];exact LE _),rd,v,HX.out _ (H2.out.other (r:=w.heap.size) S2.out (H.out.old.size) (fun ad had=>by have:=bQ.out ad had;omega) (aFL.rowSet _ _ _))⟩
 ·have c9:=hid z;have t1:((0:Int) != 0)=false:=rfl;obtain⟨G,bE⟩:∃ G,lX D bs i c b (cC bs (bL D size i c b).toNat size)=G:=⟨_,rfl⟩;obtain⟨F,cD⟩:∃ F,iN D bs i c b (cC bs (bL D size i c b).toNat size)=F:=⟨_,rfl⟩;have HL:=hid (show G.Len by rw[<-bE];exact LR D bs i c b _);have aS:=hid (fun (W:World) rd v fr (hW:aFO wB W bs size D gx gc gd gs gf Ai gm (K+1) rd v fr lo)=>JR hW i c b (by omega) z);unfold MY at aS;rw[bE,cD]at aS aI;have cG:=h.cnt;have cK:=h.cache.lts;have bF:=h.head.lt;have dE:IntKind.i64.wrap (fr+1)=fr+1:=aGl _ (by omega);have dF:IntKind.i64.wrap (lo+1)=lo+1:=aGl _ (by omega);have cJ:=h.fit.hi;have cL:=h.old.size;rw[FN z]at aI;have HX:=hid (show (bR D i c b=0/\F≠0 ↔ F≠0) from ⟨fun h=>h.2,fun h=>⟨z,h⟩⟩);simp only[HX.out]at aI;rw[z]at HW;have cW:=hid cK;have aW:=hid bF;have bY:=hid cG;have b1:=hid cJ;have dA:=hid cL;clear aO h z bE cD cG cK bF cJ cL HX;generalize EK wB w bs size D gx gc gd gs gf Ai gm K fr lo i c b=FP at *
  generalize bL D size i c b=AT at *
  generalize eG D bs i c b=V at *
  go_enter func13,ntmps13;go_wp2_with (first|(go_at_call 63;refine HN.out.mono ?_;rintro e w' ⟨rfl,rfl⟩)|(go_at_call 12;fail))
  clear cO;refine HW.out.mono ?_;rintro e w2 ⟨rfl,I⟩;have S2:=hid (S1.out.below I S1.out.lt);have B2:=hid (aC B1.out I);have H2:=hid (H1.out.later I);clear I HW;have c2:w2.cell? ⟨gf,2,none⟩=some (.int .i64 fr):=H2.out.head.cell 2;have f2:=H2.out.head.frozen 2;obtain⟨w3,bK⟩:∃ w3,w2.setCell ⟨gf,2,none⟩ (.int .i64 (fr+1))=w3:=⟨_,rfl⟩;have O3:=hid (show aFL [gf] w2 w3 by rw[<-bK];exact aFL.cellSet _ _ _ _);have X3:=hid (show Blk w3 gf 52 [.pointer (some ⟨gc,0,none⟩),.pointer (some ⟨gx,0,none⟩),.int .i64 (fr+1),.int .i64 lo] by rw[<-bK];exact H2.out.head.set_ 2 _);have H3:=hid ((H2.out.more (K':=K+1) (by omega)).count O3.out X3.out (by have:=bY.out;omega));have S3:=hid (O3.out.heap S2.out (by have:=aW.out;simp only[aGx];omega));have bV:=hid (aS.out w3 rd v (fr+1) H3.out);go_wp2_with (first|(go_at_call 64;fail))
  refine bV.out.mono ?_;rintro e t ⟨⟨Af,cf,rfl,cN,cF,cI,cM⟩,a0,a3,v',cA⟩;have H4:=hid (H3.out.step a0 cA (by omega));have S4:=hid (a0.heap S3.out (by have:=cW.out;simp only[aGw,aGV,aGS];omega));have O4:=hid (((aFL.of_below [gc,gs,gd,gf] B2.out).trans (O3.out.more (by simp))).trans (a0.more (by simp)));clear bK c2 f2 cA a0 bV aS;obtain⟨p,hp⟩:∃ p:FrH × aFJ,(⟨⟨Af,cf⟩,G⟩:FrH × aFJ)=p:=⟨_,rfl⟩;have bH:aZ G (.slice Af G.tones.length cf)=(frC p).toArray:=by rw[<-hp];rfl
  rw[bH];have bW:=hid bH;have bI:(frC p).length=29:=jT (by rw[<-hp];exact HL.out);have b2:=hid (lH p);obtain⟨d,cH⟩:∃ d,frC p=d:=⟨_,rfl⟩;rw[cH]at b2 bI bW ⊢;have a1:d.toArray.size=29:=by rw[aGH,bI]
  have b0:=hid a1;have O:=hid (show (prog.info? 45).map (·.size)=some d.toArray.size by rw[a1];exact bZ);have aU:=hid (show d.toArray.all (·.oneCell')=true by
   rw[aGY];intro v hv;exact b2.out v (by simpa using hv))
  have bX:=hid (show bS.size=d.toArray.size by rw[a1];rfl);obtain⟨J,a2⟩:∃ J,t.alloc (.cells d.toArray 45)=J:=⟨_,rfl⟩;have B5:=hid (show Below t.heap.size t J by rw[<-a2];exact aP t _);have S5:=hid (show Blk J w.heap.size 45 bS.toList from aF S4.out B5.out);have F5:=hid (show Blk J t.heap.size 45 d by rw[<-a2];exact Blk.new t _ _);have H5:=hid (H4.out.later B5.out);have R5:=hid (cM.later B5.out);have O5:=hid (O4.out.trans (aFL.of_below _ B5.out));have b3:=hid a2;have a8:=hid (show G.tones=[]\/∃ U,Af=some ⟨U,0,none⟩/\w3.heap.size<=U from cI);have a6:=hid (show w.heap.size<w3.heap.size from hlt S3.out);have cX:=hid cN;have cV:=hid cF;have aR:=hid (show ∀ W bM,aFL [gc,gs,gd,gf] w W->(hS:Blk W w.heap.size 45 bS.toList)->Row W W.heap.size Af (aV G.tones)->aFO wB W bs size D gx gc gd gs gf Ai gm (K+97) a3 v' (fr+1) bM->bM=(if F≠0 then lo+1 else lo)->FP (.returned (.tuple #[.agg d.toArray,.int .i64 F])) (W.setRow w.heap.size d.toArray) from fun W bM hO hS hR hK he=>by
   refine aI.out _ _ ⟨⟨Af,cf,by rw[bW.out],cX.out,cV.out,a8.out.imp id fun ⟨U,h1,h2⟩=>⟨U,h1,by have:=a6.out;omega⟩,mH (a8.out.imp id fun ⟨U,h1,h2⟩=>⟨U,h1,h2⟩) a6.out d.toArray hR⟩,hO.grown (eC (aG1 W (some w.heap.size)) _) (fun k hk=>by rw[<-Option.some.inj hk];exact LE _),a3,v',?_⟩;rw[<-he];exact hK.other (r:=w.heap.size) hS (H.out.old.size) (fun ad had=>by have:=bQ.out ad had;omega) (aFL.rowSet _ _ _))
  clear cN cF cI cM hp bH bI cH a1 a2
  by_cases q:F=0
  ·subst q;have HE:=hid (aR.out J lo O5.out S5.out R5.out (H5.out.more (by have:=b1.out;omega)) (by simp));clear aR;go_wp2_with (first|(refine aA rfl 45 (.tmp 13) (.tmp 47) rfl t.heap.size rfl _ _ d.toArray rfl (LT t _) O.out (by rw[b0.out];rfl) aU.out ?_;rw[aGT,b3.out])|(refine aB rfl 45 (.tmp 13) rfl t.heap.size rfl _ d.toArray _ _ F5.out underlying45 rfl O.out ?_)|(refine aA rfl 45 (.tmp 8) (.tmp 58) rfl w.heap.size rfl _ _ d.toArray rfl S5.out O.out bX.out aU.out ?_))
   refine aGk (v:=.tuple #[.agg d.toArray,.int .i64 0]) (aX results13 _ _ w.heap.size 45 d.toArray (0,0) _ _ rfl rfl (aHK _ _ _ _ _ _ S5.out) underlying45 rfl O.out) rfl ?_;exact HE.out
  ·have t2:(F != 0)=true:=by rw[aHk];exact q
   have c3:J.cell? ⟨gf,3,none⟩=some (.int .i64 lo):=H5.out.head.cell 3;have f3:=H5.out.head.frozen 3;obtain⟨w6,cP⟩:∃ w6,J.setCell ⟨gf,3,none⟩ (.int .i64 (lo+1))=w6:=⟨_,rfl⟩;have O6:=hid (show aFL [gf] J w6 by rw[<-cP];exact aFL.cellSet _ _ _ _);have X6:=hid (show Blk w6 gf 52 [.pointer (some ⟨gc,0,none⟩),.pointer (some ⟨gx,0,none⟩),.int .i64 (fr+1),.int .i64 (lo+1)] by rw[<-cP];exact H5.out.head.set_ 3 _);have H6:=hid ((H5.out.more (K':=K+97) (by have:=b1.out;omega)).count O6.out X6.out (by have:=bY.out;omega));have S6:=hid (O6.out.heap S5.out (by have:=aW.out;simp only[aGx];omega));have F6:=hid (O6.out.heap F5.out (by have:=aW.out;have:=O4.out.size;simp only[aGx];omega));have R6:=hid (show Row w6 w6.heap.size Af (aV G.tones) by
    have bF:=aW.out;have dD:=a6.out;rcases a8.out with h0|⟨U,h1,h2⟩
    ·rw[h0];exact fun i v hv=>by simp[aV]at hv
    ·refine O6.out.row R5.out (fun ad had=>?_);rw[had]at h1;injection h1 with h1
     rw[h1];simp only[aGx];omega)
   have HE:=hid (aR.out w6 (lo+1) (O5.out.trans (O6.out.more (by simp))) S6.out R6.out H6.out (by rw[FN q]));clear aR q;go_wp2_with (first|(refine aA rfl 45 (.tmp 13) (.tmp 47) rfl t.heap.size rfl _ _ d.toArray rfl (LT t _) O.out (by rw[b0.out];rfl) aU.out ?_;rw[aGT,b3.out])|(refine aB rfl 45 (.tmp 13) rfl t.heap.size rfl _ d.toArray _ _ F6.out underlying45 rfl O.out ?_)|(refine aA rfl 45 (.tmp 8) (.tmp 58) rfl w.heap.size rfl _ _ d.toArray rfl S6.out O.out bX.out aU.out ?_))
   refine aGk (v:=.tuple #[.agg d.toArray,.int .i64 F]) (aX results13 _ _ w.heap.size 45 d.toArray (0,0) _ _ rfl rfl (aHK _ _ _ _ _ _ S6.out) underlying45 rfl O.out) rfl ?_;exact HE.out
theorem JQ{w:World}{gf gc gx:Nat}{fr lo:Int}(h:Blk w gf 52 [.pointer (some ⟨gc,0,none⟩),.pointer (some ⟨gx,0,none⟩),.int .i64 fr,.int .i64 lo]):Calls prog 71 #[.pointer (some ⟨gf,0,none⟩)] w fun e w'=>e=.returned (.pointer (some ⟨gx,0,none⟩))/\w=w':=by
 have d:=hid (vA h);have t:w.cell? ⟨gf,1,none⟩=some (.pointer (some ⟨gx,0,none⟩)):=(h.cell 1).trans rfl;clear h;go_enter func71,ntmps71;go_wp2_with (go_at_call 63;refine d.out.mono ?_;rintro e w' ⟨rfl,rfl⟩)
 go_ret
 exact⟨rfl,rfl⟩
def aDe(V d:List Value):List Value:=(aW V 0 d).set 20 (.int .i64 0)
def aFs(w:World)(gc:Nat)(T:TypeId)(V:List Value)(f:aFJ)(e:Ending)(w':World):Prop :=
 e=.returned (.agg (c9 f).toArray)/\Blk w' gc T (aDe V (c9 f))/\aFL [gc] w w'
def GE(V:List Value)(o:Nat)(d:List Value):List Value:=(aW V o d).set (o+20) (.int .i64 0)
theorem aBo{V d:List Value}{o:Nat}(t:d.length=20)(hV:o+21<=V.length){j:Nat}(h:j<20):(GE V o d)[o+j]? = d[j]?:=by
 unfold GE aW;rw[aJl (by omega),aHU,aGP (by rw[aGB];omega),aGB,aHM (by omega),aJr,aGU (by omega)]
def aCu(w:World)(gc o:Nat)(T:TypeId)(V:List Value)(f:aFJ)(e:Ending)(w':World):Prop :=
 e=.returned (.agg (c9 f).toArray)/\Blk w' gc T (GE V o (c9 f))/\aFL [gc] w w'
theorem VJ(f:aFJ)(A:Option Addr)(c:Nat)(w:World)(gc o:Nat)(T:TypeId)(V:List Value)(h:aFQ f)(hr:Row w w.heap.size A (aV f.tones))(U:Blk w gc T V)(hV:o+21<=V.length):
  Calls prog 128 #[.pointer (some ⟨gc,o,none⟩),.agg (aZ f (.slice A f.tones.length c))] w (aCu w gc o T V f):=by
 have HG:=hid (show ∀ e w',(e=.returned (.agg (c9 f).toArray)/\Blk w' gc T (GE V o (c9 f))/\aFL [gc] w w')->aCu w gc o T V f e w' from fun _ _ h=>h);have aX:=hid (fun W (hW:Below w.heap.size w W)=>ZU f A c W h (hr.later hW));have I:=rQ h.len;have aY:=hid (wW f);have bD:=hid (show (c9 f).toArray.all (·.oneCell')=true by
  rw[aGY];intro v hv;exact aY.out v (by simpa using hv))
 have aU:=hid (show (prog.info? 75).map (·.size)=some (c9 f).toArray.size by rw[aGH,I];exact uI);have aT:=hid (show (prog.info? 75).map (·.size)=some (c9 f).length by rw[I];exact uI);have bE:=hid (show (c9 f).toArray.size=20 by rw[aGH,I]);have J:=hid I;have a5:=fX h.len (.slice A f.tones.length c);have aS:=hid (show (prog.info? 45).map (·.size)=some (aZ f (.slice A f.tones.length c)).size by rw[a5];exact bZ);obtain⟨G,a4⟩:∃ G,aZ f (.slice A f.tones.length c)=G:=⟨_,rfl⟩;rw[a4]at aX aS ⊢;generalize c9 f=d at *
 generalize aCu w gc o T V f=GP at *
 have aJ:=U.lt;obtain⟨F,aK⟩:∃ F,w.alloc (.cells G 45)=F:=⟨_,rfl⟩;obtain⟨w2,aM⟩:∃ w2,F.alloc (.cells #[.int .i64 0,.int .i64 0,.int .i64 0,.int .i64 0,.int .i64 0,.int .i64 0,.int .i64 0,.int .i64 0,.int .i64 0,.int .i64 0,.int .i64 0,.int .i64 0,.int .i64 0,.int .i64 0,.int .i64 0,.int .i64 0,.int .i64 0,.int .i64 0,.int .i64 0,.int .i64 0] 75)=w2:=⟨_,rfl⟩;have bL:F.heap.size=w.heap.size+1:=by rw[<-aK];simp
 have B2:=hid (show Below w.heap.size w w2 by rw[<-aM,<-aK];exact aC (aP w _) (aP _ _));have F2:=hid (show w2.heap[w.heap.size]? = some (.cells G 45 (0,0)) by rw[<-aM];exact aF (by rw[<-aK];exact LT w _) (aP F _));have P2:=hid (show w2.heap[w.heap.size+1]? = some (.cells #[.int .i64 0,.int .i64 0,.int .i64 0,.int .i64 0,.int .i64 0,.int .i64 0,.int .i64 0,.int .i64 0,.int .i64 0,.int .i64 0,.int .i64 0,.int .i64 0,.int .i64 0,.int .i64 0,.int .i64 0,.int .i64 0,.int .i64 0,.int .i64 0,.int .i64 0,.int .i64 0] 75 (0,0)) by rw[<-aM,<-bL];exact LT F _);have C2:=hid (U.below B2.out U.lt);have O:=hid hV;have aI:=hid aJ;clear I a5 a4 h hr U hV aJ;go_enter func128,ntmps128;go_wp2_with (first|(refine aB rfl 45 (.tmp 3) rfl w.heap.size rfl _ G _ _ F2.out underlying45 rfl aS.out ?_)|(go_at_call 160;fail))
 refine (aX.out w2 B2.out).mono ?_;rintro e w3 ⟨rfl,Z⟩;have B3:=hid (aC B2.out Z);have P3:=hid (aF P2.out Z);have C3:=hid (C2.out.below Z C2.out.lt);clear Z;obtain⟨t,aE⟩:∃ t,w3.setRow gc (aW V o d).toArray=t:=⟨_,rfl⟩;have C4:=hid (show Blk t gc T (aW V o d) by rw[<-aE];exact bA w3 gc _ _ (aW V o d).toArray C3.out);have O4:=hid (show aFL [gc] w3 t by rw[<-aE];exact aFL.rowSet _ _ _);have P4:=hid (O4.out.heap P3.out (by have:=aI.out;simp only[aGx];omega));have f20:=C4.out.frozen (o+20);have a3:∃ v,t.cell? ⟨gc,o+20,none⟩=some v:=by
  have hl:o+20<(aW V o d).length:=by rw[dG (by have:=J.out;have:=O.out;omega)];have:=O.out;omega
  exact⟨_,(C4.out.cell (o+20)).trans (TT hl)⟩
 obtain⟨bN,a3⟩:=a3;obtain⟨z,a7⟩:∃ z,t.setCell ⟨gc,o+20,none⟩ (.int .i64 0)=z:=⟨_,rfl⟩;have C5:=hid (show Blk z gc T (GE V o d) by rw[<-a7];exact C4.out.set_ (o+20) _);have O5:=hid (show aFL [gc] t z by rw[<-a7];exact aFL.cellSet _ _ _ _);have P5:=hid (O5.out.heap P4.out (by have:=aI.out;simp only[aGx];omega));have bC:=hid (fun (j:Nat) v (hv:d[j]? = some v)=>(show z.cell? ⟨gc,o+j,none⟩=some v from by
  have hj:j<20:=by have:=(aGi.1 hv).1;have:=J.out;omega
  exact (C5.out.cell (o+j)).trans ((aBo J.out O.out hj).trans hv)))
 have bF:=hid aE;clear aE;go_wp2_with (first|(refine cH rfl 75 (.tmp 13) (.tmp 11) rfl gc o rfl T V d rfl C3.out aT.out (by have:=J.out;have:=O.out;omega) aY.out ?_;rw[bF.out])|(refine aL rfl 75 (.tmp 18) rfl gc o rfl d _ bC.out underlying75 rfl aT.out ?_)|(refine aA rfl 75 (.tmp 4) (.tmp 19) rfl (w.heap.size+1) rfl _ _ d.toArray rfl P5.out aU.out (by rw[bE.out];rfl) bD.out ?_))
 refine aGk (v:=.agg d.toArray) (aG9 results128 _ _ (w.heap.size+1) 75 d.toArray (0,0) _ rfl (bA _ _ _ _ d.toArray P5.out) underlying75 rfl aU.out) rfl ?_;have aJ:=aI.out;exact HG.out _ _ ⟨rfl,(aFL.rowSet z (w.heap.size+1) d.toArray).heap C5.out (by simp only[aGx];omega),(((aFL.of_below [gc] B3.out).trans O4.out).trans O5.out).grown (eC (aG1 z (some (w.heap.size+1))) _) (fun k hk=>by rw[<-Option.some.inj hk];omega)⟩
theorem PO(f:aFJ)(A:Option Addr)(c:Nat)(w:World)(gc:Nat)(T:TypeId)(V:List Value)(h:aFQ f)(t:Row w w.heap.size A (aV f.tones))(d:Blk w gc T V)(hV:21<=V.length):
  Calls prog 128 #[.pointer (some ⟨gc,0,none⟩),.agg (aZ f (.slice A f.tones.length c))] w (aFs w gc T V f) :=
 VJ f A c w gc 0 T V h t d (by omega)
theorem aDm:(prog.info? 208).map (fun i=>(i.zero,i.size,i.bytes))=some (some (.agg #[.int .i64 0,.bool false,.bool false,.slice none 0 0]),4,40):=by kernel_rfl
theorem ZF(n:Nat):(madeCells (Value.agg #[.int .i64 0,.bool false,.bool false,.slice none 0 0]).cells (n*4)).toList=eQ (List.replicate n default):=by
 unfold madeCells;rw[aJz,aJA];apply aGL;intro j;rw[aF5];rcases aGt j (n*4) with d|d
 ·rw[aHa d,Option.map_some];have h1:(List.replicate n (default:aFV))[j / 4]? = some default:=by rw[aHE,FN (by omega)]
  have h2:=oG _ h1 (j % 4) (aG6 _ (by omega));rw[show j / 4*4+j % 4=j by omega]at h2;rw[h2];have h:j % 4<4:=aG6 _ (by omega);show some ((#[.int .i64 0,.bool false,.bool false,.slice none 0 0]:Array Value)[j % 4]!)=([.int .i64 0,.bool false,.bool false,.slice none 0 0]:List Value)[j % 4]?;generalize j % 4=q at *
  rcases (show q=0\/q=1\/q=2\/q=3 by omega) with rfl|rfl|rfl|rfl <;> rfl
 ·rw[aGr (by simpa using d),aGr (by rw[oH,aHQ];omega)];rfl
def jF(s r:Int):Prop:=s<1\/1024<s\/r<0\/8<r
def PW(w:World)(gd:Nat)(s r:Int)(e:Ending)(w':World):Prop :=
 (jF s r/\e=.returned (.tuple #[.pointer none,.int .i64 1])/\w=w') \/
 (¬ jF s r/\∃ gc gs,e=.returned (.tuple #[.pointer (some ⟨gc,0,none⟩),.int .i64 0])/\w.heap.size<=gc/\w.heap.size<=gs/\aFS w' gc gd gs ⟨0,0,0,0,0,r.toNat,List.replicate s.toNat default⟩/\Below w.heap.size w w')
theorem NL(w:World)(gd:Nat)(s r:Int):Calls prog 56 #[.pointer (some ⟨gd,0,none⟩),.int .i64 s,.int .i64 r] w (PW w gd s r):=by
 have d:=hid (show ∀ e w',(jF s r/\e=.returned (.tuple #[.pointer none,.int .i64 1])/\w=w')->PW w gd s r e w' from fun _ _ h=>.inl h);have z:=hid (show ∀ e w',(¬ jF s r/\∃ gc gs,e=.returned (.tuple #[.pointer (some ⟨gc,0,none⟩),.int .i64 0])/\w.heap.size<=gc/\w.heap.size<=gs/\aFS w' gc gd gs ⟨0,0,0,0,0,r.toNat,List.replicate s.toNat default⟩/\Below w.heap.size w w')->PW w gd s r e w' from fun _ _ h=>.inr h);generalize PW w gd s r=CP at *
 by_cases h1:s<1
 ·have t:=hid (d.out _ _ ⟨.inl h1,rfl,rfl⟩);clear d z;go_enter func56,ntmps56;go_wp2;exact t.out
 by_cases h2:1024<s
 ·have t:=hid (d.out _ _ ⟨.inr (.inl h2),rfl,rfl⟩);clear d z;go_enter func56,ntmps56;go_wp2;exact t.out
 by_cases Z:r<0
 ·have t:=hid (d.out _ _ ⟨.inr (.inr (.inl Z)),rfl,rfl⟩);clear d z;go_enter func56,ntmps56;go_wp2;exact t.out
 by_cases h4:8<r
 ·have t:=hid (d.out _ _ ⟨.inr (.inr (.inr h4)),rfl,rfl⟩);clear d z;go_enter func56,ntmps56;go_wp2;exact t.out
 have O:¬ jF s r:=by unfold jF;omega
 obtain⟨n,rfl⟩:=aGF (show 0<=s by omega);obtain⟨q,rfl⟩:=aGF (show 0<=r by omega);rw[Int.toNat_natCast,Int.toNat_natCast]at z;have W:=hid O;obtain⟨i0,hi,aH,aD,aE⟩:=aHx aDm;have hm:=ZF n;obtain⟨F,G⟩:∃ F,madeCells (Value.agg #[.int .i64 0,.bool false,.bool false,.slice none 0 0]).cells (n*4)=F:=⟨_,rfl⟩;rw[G]at hm;have J:F=(eQ (List.replicate n default)).toArray:=by rw[<-hm]
 have V:=hid J;have U:=hid G;clear O d hm G J;go_enter func56,ntmps56;go_wp2_with (refine dX _ rfl (.tmp 27) (.tmp 27) 149 rfl 208 i0 (.agg #[.int .i64 0,.bool false,.bool false,.slice none 0 0]) 4 underlying149 hi aH aD .i64 .i64 n rfl rfl (by rw[aE];omega) (by omega) ?_;rw[U.out])
 have aG:(w.alloc (.cells F 208)).heap.size=w.heap.size+1:=by simp
 have hX:=Blk.new2 w (.cells F 208) 151 [.int .i64 0,.int .i64 0,.int .i64 0,.int .i64 0,.pointer (some ⟨gd,0,none⟩),.slice (some ⟨w.heap.size,0,none⟩) n n,.int .i64 0,.int .i64 q];have I:Blk (w.alloc (.cells F 208)) w.heap.size 208 (eQ (List.replicate n default)):=by
  rw[V.out];exact Blk.new w _ _
 have aF:(List.replicate n (default:aFV)).length=n:=aHQ;refine z.out _ _ ⟨W.out,w.heap.size+1,w.heap.size,by rw[<-aG],by omega,by omega,⟨?_,I.below (aP _ _) I.lt,by show (List.replicate n (default:aFV)).length<=_;omega,by show 0<(List.replicate n (default:aFV)).length;omega,by show 0<(List.replicate n (default:aFV)).length;omega,by show q<=8;omega⟩,aC (aP w _) (aP _ _)⟩;unfold aFN.cells;simp only[aF];exact hX
theorem aFS.fresh{w:World}{gc gd gs n q:Nat}(h:aFS w gc gd gs ⟨0,0,0,0,0,q,List.replicate n default⟩){bs:List Nat}{Ai:Option Addr}{gm:Nat}(t:DiskAt w gd bs 0 Ai gm)(hi:∀ ad,Ai=some ad->ad.block≠gc/\ad.block≠gs/\ad.block≠gd):aFT w bs gc gd gs Ai gm 0 0 ⟨0,0,0,0,0,q,List.replicate n default⟩ :=
 ⟨h,t,hi,(fun s d hf=>by
  have d:s∈List.replicate n default:=d;rw[List.eq_of_mem_replicate d]at hf;cases hf),⟨⟨aHd _,aHd _⟩,⟨aHd _,aHd _⟩,⟨aHd _,aHd _⟩,⟨aHd _,aHd _⟩⟩⟩
theorem N7{w:World}{g size:Nat}{bs:List Nat}{D:List aFK}(d:aF2 w g bs size D)(F:0<size){gc gd gs:Nat}{v:aFN}(h:aFS w gc gd gs v):
  Calls prog 57 #[.pointer (some ⟨g,0,none⟩),.pointer (some ⟨gc,0,none⟩)] w fun e w'=>e=.returned (.tuple #[.pointer (some ⟨w.heap.size,0,none⟩),.int .i64 0])/\Blk w' w.heap.size 52 [.pointer (some ⟨gc,0,none⟩),.pointer (some ⟨g,0,none⟩),.int .i64 0,.int .i64 0]/\Below w.heap.size w w':=by
 have z:=hid (J2 d F);have t:=hid (JL w gc gd gs v h);have G:((size:Int) == 0)=false:=aG8.2 (by omega);clear d h;go_enter func57,ntmps57;go_wp2_with (first|(go_at_call 103;refine z.out.mono ?_;rintro e w' ⟨rfl,rfl⟩)|(go_at_call 104;refine t.out.mono ?_;rintro e w' ⟨rfl,rfl⟩))
 refine aGk (aGN results57 _ _ _) rfl ?_;exact⟨rfl,Blk.new w _ _,aP w _⟩
theorem aFY.even{size:Nat}{SS:List aFM}(h:aFY size SS):(bC size SS).length % 64=0:=by
 have h1:=h.len_eq;rw[kS h];unfold upZ at h1;omega
def QA(w:World)(size:Int)(d:List aFM)(slots retry:Int)(e:Ending)(w':World):Prop :=
 Below w.heap.size w w'/\(((sK size d≠0\/jF slots retry)/\e=.returned (.pointer none)) \/
  (sK size d=0/\¬ jF slots retry/\∃ (sz h gx gc gd gs gf:Nat) (Ai:Option Addr) (gm t:Nat) (wB:World),size=sz/\aFY sz (cV d)/\e=.returned (.pointer (some ⟨h,0,none⟩))/\w.heap.size<=wB.heap.size/\w.heap.size<=h /\
   Blk w' h 34 [.pointer (some ⟨gx,0,none⟩),.pointer (some ⟨gd,0,none⟩),.pointer (some ⟨gf,0,none⟩),.slice (some ⟨t,0,none⟩) (b6 sz (cV d)) (b6 sz (cV d))] /\
   aFO wB w' (bC sz (cV d)) sz (aG sz (cV d)) gx gc gd gs gf Ai gm 0 0 ⟨0,0,0,0,0,retry.toNat,List.replicate slots.toNat default⟩ 0 0))
def MadeG(w:World)(size:Int)(d:List aFM)(slots retry:Int)(e:Ending)(w':World):Prop :=
 Below w.heap.size w w'/\(((sK size d≠0\/jF slots retry)/\e=.returned (.pointer none)) \/
  (sK size d=0/\¬ jF slots retry/\∃ (sz h gx gc gd gs gf:Nat) (Ai:Option Addr) (gm t:Nat) (wB:World),size=sz/\aFY sz (cV d)/\e=.returned (.pointer (some ⟨h,0,none⟩))/\w.heap.size<=wB.heap.size/\w.heap.size<=h /\
   Blk w' h 34 [.pointer (some ⟨gx,0,none⟩),.pointer (some ⟨gd,0,none⟩),.pointer (some ⟨gf,0,none⟩),.slice (some ⟨t,0,none⟩) (b6 sz (cV d)) (b6 sz (cV d))] /\
   aFO wB w' (bC sz (cV d)) sz (aG sz (cV d)) gx gc gd gs gf Ai gm 0 0 ⟨0,0,0,0,0,retry.toNat,List.replicate slots.toNat default⟩ 0 0/\wB.heap.size<=gm/\∀ ad,Ai=some ad->wB.heap.size<=ad.block))
theorem MadeG.f{w:World}{size:Int}{d:List aFM}{slots retry:Int}{e:Ending}{w':World}(h:MadeG w size d slots retry e w'):QA w size d slots retry e w':=by
 obtain⟨hb,h|⟨h1,h2,t,G,I,J,O,U,V,W,Z,z,F,k1,k2,k3,k4,k5,k6,k7,_⟩⟩:=h
 ·exact⟨hb,.inl h⟩
 ·exact⟨hb,.inr ⟨h1,h2,t,G,I,J,O,U,V,W,Z,z,F,k1,k2,k3,k4,k5,k6,k7⟩⟩
theorem TL(S:List aFM->Prop)(size:Int)(v:Value)(slots retry:Int)(w:World)
 (hF:Calls prog 53 #[v] w fun e w'=>∃ A c M,e=.returned (.slice A (List.length M) c)/\S (List.map Prod.snd M)/\List.length M<=8/\(A=none->c=0)/\aFX w' w'.heap.size A M/\(∀ p∈M,p.2.small)/\Below w.heap.size w w'):
  Calls prog 9 #[.int .i64 size,v,.int .i64 slots,.int .i64 retry] w fun e w'=>∃ d,S d/\MadeG w size d slots retry e w':=by
 have HF:=hid hF;clear hF;go_enter func9,ntmps9;go_wp2_with (go_at_call 53;fail)
 refine HF.out.mono ?_;rintro e w1 ⟨A,c,M,rfl,hS,h8,hn,hs,bK,a7⟩;have HP:=hid (aCC size M A c w1 h8 hn hs bK);have B1:=hid a7;have HS:=hid hS;generalize List.map Prod.snd M=d at *
 generalize M.length=m at *
 unfold aE5 at HP;clear hS h8 hn hs bK a7 HF;go_wp2_with (go_at_call 52;fail)
 refine HP.out.mono ?_;rintro e w2 ⟨aE,⟨F,rfl⟩|⟨F,sz,g,aY,hC,hg,aO,rfl⟩⟩
 ·have V:=hid (aC B1.out aE);have J:=hid (show ∃ d,S d/\MadeG w size d slots retry (.returned (.pointer none)) w2 from ⟨d,HS.out,V.out,.inl ⟨.inl F,rfl⟩⟩);generalize bZ:sK size d=E at *
  have t1:(E != 0)=true:=by rw[aHk];exact F
  clear F bZ aE;go_wp2
  go_ret
  exact J.out
 ·have V:=hid (aC B1.out aE);have Z:=hid hC;have J:=hid F;have bU:=hid aY;have aX:=hid (NE hC g w2 aO);have bY:=hC.len_bd;have aQ:=kS hC;have aK:=hid (fun (W:World) (hW:Below w2.heap.size w2 W)=>(show Calls prog 55 #[.slice (some ⟨g,0,none⟩) (b6 sz (cV d)) (b6 sz (cV d))] W (PX W (bC sz (cV d))) from by
   have:=RL (bC sz (cV d)) (some ⟨g,0,none⟩) (b6 sz (cV d)) W (by rw[aQ];omega) ((xZ aO).later hW);rw[aQ]at this;exact this))
  unfold PX at aK;clear F aY hg aO aE bY aQ;go_wp2_with (go_at_call 54;fail)
  refine aX.out.mono ?_;rintro e G ⟨x,rfl,hx,hB,aN⟩;have HB:=hid hB;have B3:=hid (aC V.out aN);have aU:=hid (aK.out G aN);have Hx:=hid (show w.heap.size<=x from aGE V.out.size hx);clear hB aN hx aX aK;go_wp2_with (go_at_call 55;fail)
  refine aU.out.mono ?_;rintro e U ⟨gd,Ai,gm,rfl,h,bD,bE,bG,a0,a8⟩;have aJ:=hid (NL U gd slots retry);have D4:=hid h;have I:=hid a8;have bS:=hid (show G.heap.size<=gd/\G.heap.size<=gm/\gm<gd/\(∀ ad,Ai=some ad->G.heap.size<=ad.block/\ad.block<gm)/\gd<U.heap.size from ⟨bD,bE,bG,a0,by obtain⟨ci,hd⟩:=h.blk;exact hd.lt⟩);unfold PW at aJ;clear h bD bE bG a0 a8 aU;go_wp2_with (go_at_call 56;fail)
  refine aJ.out.mono ?_;rintro e t (⟨bA,rfl,rfl⟩|⟨bI,gc,gs,rfl,bB,bF,O,a9⟩)
  ·have J:=hid (show ∃ d,S d/\MadeG w size d slots retry (.returned (.pointer none)) U from ⟨d,HS.out,aC B3.out I.out,.inl ⟨.inr bA,rfl⟩⟩);clear bA;go_wp2
   go_ret
   exact J.out
  ·have C5:=hid O;have B5:=hid a9;have bT:=hid bI;have bR:=hid (show U.heap.size<=gc/\U.heap.size<=gs/\gc<t.heap.size/\gs<t.heap.size from ⟨bB,bF,O.head.lt,O.slots.lt⟩);have bQ:=hid (N7 (HB.out.later (aC I.out B5.out)) (by have:=Z.out.lo;omega) O);clear O a9 bI bB bF aJ;go_wp2_with (go_at_call 57;refine bQ.out.mono ?_;rintro e z ⟨rfl,aM,aF⟩)
   have aD:=aP z (.cells #[.pointer (some ⟨x,0,none⟩),.pointer (some ⟨gd,0,none⟩),.pointer (some ⟨t.heap.size,0,none⟩),.slice (some ⟨g,0,none⟩) (b6 sz (cV d)) (b6 sz (cV d))] 34);have a3:Blk (z.alloc (.cells #[.pointer (some ⟨x,0,none⟩),.pointer (some ⟨gd,0,none⟩),.pointer (some ⟨t.heap.size,0,none⟩),.slice (some ⟨g,0,none⟩) (b6 sz (cV d)) (b6 sz (cV d))] 34)) z.heap.size 34 [.pointer (some ⟨x,0,none⟩),.pointer (some ⟨gd,0,none⟩),.pointer (some ⟨t.heap.size,0,none⟩),.slice (some ⟨g,0,none⟩) (b6 sz (cV d)) (b6 sz (cV d))]:=Blk.new z _ _;have h:=bS.out;have hc:=bR.out;have s3:=B3.out.size;have s4:=I.out.size;have s5:=B5.out.size;have s6:=aF.size;have aA:=aC (aC B5.out aF) aD;generalize z.alloc (.cells #[.pointer (some ⟨x,0,none⟩),.pointer (some ⟨gd,0,none⟩),.pointer (some ⟨t.heap.size,0,none⟩),.slice (some ⟨g,0,none⟩) (b6 sz (cV d)) (b6 sz (cV d))] 34)=w7 at *
   have hH:=aM.below aD aM.lt;have a2:aFT w7 (bC sz (cV d)) gc gd gs Ai gm 0 0 ⟨0,0,0,0,0,retry.toNat,List.replicate slots.toNat default⟩:=(C5.out.below (aC aF aD)).fresh (D4.out.later aA) (fun ad had=>by have:=h.2.2.2.1 ad had;omega);have a5:aFO G w7 (bC sz (cV d)) sz (aG sz (cV d)) x gc gd gs t.heap.size Ai gm 0 0 ⟨0,0,0,0,0,retry.toNat,List.replicate slots.toNat default⟩ 0 0 :=
    ⟨HB.out,Z.out.fit,Z.out.even,aC I.out aA,by omega,by omega,by omega,by omega,fun ad had=>by have:=h.2.2.2.1 ad had;omega,hH,a2,⟨⟨aHd _,aHd _⟩,⟨aHd _,aHd _⟩⟩⟩
   have bP:=hid (show ∃ d,S d/\MadeG w size d slots retry (.returned (.pointer (some ⟨z.heap.size,0,none⟩))) w7 from ⟨d,HS.out,aC (aC B3.out I.out) aA,.inr ⟨J.out,bT.out,sz,z.heap.size,x,gc,gd,gs,t.heap.size,Ai,gm,g,G,bU.out,Z.out,rfl,s3,by omega,a3,a5,by omega,fun ad had=>(h.2.2.2.1 ad had).1⟩⟩);clear aM aF aD a3 h hc s3 s4 s5 s6 aA hH a2 a5
   go_ret
   exact bP.out
theorem YF(L:List (aFR × aFM))(A:Option Addr)(cap:Nat)(size slots retry:Int)(w:World)(I:aFX w w.heap.size A L)(F:∀ p∈L,p.2.name.size<=9223372036854775807):
  Calls prog 9 #[.int .i64 size,.slice A L.length cap,.int .i64 slots,.int .i64 retry] w (MadeG w size (sF (L.map Prod.snd)) slots retry):=by
 refine (TL (fun d=>d=sF (L.map Prod.snd)) size _ slots retry w ((aCt L A cap w I F).mono ?_)).mono ?_
 ·rintro e w' ⟨t,c,M,he,hm,_,_,z,J,hb⟩;refine⟨t,c,M,he,hm,?_,z,J,fun p G=>RV _ _ (hm▸aGq.2 ⟨p,G,rfl⟩),hb⟩;have:=aGp List.length hm;unfold sF at this;simp at this;omega
 ·rintro e w' ⟨d,rfl,h⟩;exact h
theorem LL(L:List (aFR × aFM))(A:Option Addr)(cap:Nat)(size slots retry:Int)(w:World)(t:aFX w w.heap.size A L)(d:∀ p∈L,p.2.name.size<=9223372036854775807):
  Calls prog 9 #[.int .i64 size,.slice A L.length cap,.int .i64 slots,.int .i64 retry] w (QA w size (sF (L.map Prod.snd)) slots retry) :=
 (YF L A cap size slots retry w t d).mono fun _ _ h=>h.f
theorem YE(L:List (aFR × aFM))(A:Option Addr)(cap:Nat)(size slots retry:Int)(w:World)(t:aFX w w.heap.size A L)(d:∀ p∈L,p.2.name.size<=9223372036854775807):
  Calls prog 9 #[.int .i64 size,.slice A L.length cap,.int .i64 slots,.int .i64 retry] w fun e w'=>∃ z,QA w size z slots retry e w' :=
 (LL L A cap size slots retry w t d).mono fun _ _ h=>⟨_,h⟩
theorem aBv(L:List (aFR × aFM))(A:Option Addr)(cap:Nat)(size slots retry:Int)(w:World)(h:aFX w w.heap.size A L)(z:L.length<=8)(t:∀ p∈L,p.2.small):
  Calls prog 9 #[.int .i64 size,.slice A L.length cap,.int .i64 slots,.int .i64 retry] w (QA w size (L.map Prod.snd) slots retry):=by
 have:=LL L A cap size slots retry w h (fun p d=>by have:=(t p d).1;omega)
 rwa [aC3 (by simpa using z) (fun s h=>by
  obtain⟨p,d,rfl⟩:=aGq.1 h;exact t p d)]at this
theorem aFY.had{size:Nat}{SS:List aFM}(h:aFY size SS){i c b:Int}(z:bR (aG size SS) i c b=0):iN (aG size SS) (bC size SS) i c b (cC (bC size SS) (bL (aG size SS) size i c b).toNat size)=0 /\
  lX (aG size SS) (bC size SS) i c b (cC (bC size SS) (bL (aG size SS) size i c b).toNat size)=rdF (cC (bC size SS) (bL (aG size SS) size i c b).toNat size)/\o6 (cC (bC size SS) (bL (aG size SS) size i c b).toNat size)=0:=by
 obtain⟨m,s,d,x,G,I,J,O,U,W⟩:=h.asked z;have F:c=(c.toNat:Nat)/\b=(b.toNat:Nat):=by
  unfold bR at z;split at z
  ·cases z
  split at z
  ·cases z
  omega
 obtain⟨_,Z,V,_⟩:=h.opened I J O;have t:iN (aG size SS) (bC size SS) i c b (cC (bC size SS) (bL (aG size SS) size i c b).toNat size)=0:=by
  rw[U,G,F.1,F.2];exact V
 refine⟨t,?_,?_⟩
 ·unfold lX;rw[FN t]
 ·unfold iN at t;rw[sL (by simpa using z)]at t;split at t
  ·cases t
  split at t
  ·cases t
  ·rename_i h1
   simpa using h1
theorem aFO.keep{wB w w':World}{bs:List Nat}{size:Nat}{D:List aFK}{gx gc gd gs gf:Nat}{Ai:Option Addr}{gm K:Nat}{rd:Int}{v:aFN}{fr lo:Int}(h:aFO wB w bs size D gx gc gd gs gf Ai gm K rd v fr lo){r:Nat}{T:TypeId}{xs:List Value}(d:Blk w r T xs)(h1:151≠T)(h2:208≠T)(t:203≠T)(z:52≠T)(F:aFL [gc,gs,gd,gf] w w'):Blk w' r T xs:=by
 obtain⟨cd,G⟩:=h.cache.disk.blk;have I:=cO h.cache.cache.head d h1;have J:=cO h.cache.cache.slots d h2;have O:=cO G d t;have U:=cO h.head d z;refine F.heap d ?_;simp only[aGw,aGV,aGS];omega
noncomputable def uV(D:List aFK)(bs:List Nat)(size:Nat)(i c b:Int):aFJ:=if bR D i c b=0 then rdF (cC bs (bL D size i c b).toNat size) else fD
theorem aDf(D:List aFK)(bs:List Nat)(size:Nat)(i c b:Int):(uV D bs size i c b).Len:=by
 unfold uV;split
 ·exact yW _
 ·exact⟨rfl,rfl,rfl,rfl⟩
def aFr(wB w:World)(bs:List Nat)(size:Nat)(D:List aFK)(gx gc gd gs gf:Nat)(Ai:Option Addr)(gm K:Nat)(fr:Int)(i c b:Int)(e:Ending)(w':World):Prop :=
 ∃ (d:List Value) (A:Option Addr) (h:Nat),e=.returned (.tuple #[.agg d.toArray,.int .i64 (bR D i c b)])/\d=frC ⟨⟨A,h⟩,uV D bs size i c b⟩/\d.length=29/\(∀ v∈d,v.oneCell'=true)/\Row w' w'.heap.size A (aV (uV D bs size i c b).tones)/\((uV D bs size i c b).tones=[]\/∃ g,A=some ⟨g,0,none⟩/\w.heap.size<=g) /\
  aFL [gc,gs,gd,gf] w w'/\∃ t v',aFO wB w' bs size D gx gc gd gs gf Ai gm (K+97) t v' (if bR D i c b=0 then fr+1 else fr) 0
theorem F7{w w':World}{f:aFJ}{er:Int}{e:Ending}(F:f.Len)(h:FrmPost w f er e w'):∃ (d:List Value) (A:Option Addr) (c:Nat),e=.returned (.tuple #[.agg d.toArray,.int .i64 er])/\d=frC ⟨⟨A,c⟩,f⟩/\d.length=29/\(∀ v∈d,v.oneCell'=true)/\Row w' w'.heap.size A (aV f.tones)/\(f.tones=[]\/∃ g,A=some ⟨g,0,none⟩/\w.heap.size<=g):=by
 obtain⟨A,c,rfl,h1,h2,t,z⟩:=h;exact⟨frC ⟨⟨A,c⟩,f⟩,A,c,rfl,rfl,jT F,lH _,z,t⟩
theorem aEE{SS:List aFM}{wB w:World}{size:Nat}{gx gc gd gs gf:Nat}{Ai:Option Addr}{gm K:Nat}{rd:Int}{v:aFN}{fr:Int}(I:aFY size SS)(h:aFO wB w (bC size SS) size (aG size SS) gx gc gd gs gf Ai gm K rd v fr 0)(i c b:Int)(hK:K+97<=1000000000000000):
  Calls prog 13 #[.pointer (some ⟨gf,0,none⟩),.int .i64 i,.int .i64 c,.int .i64 b] w (aFr wB w (bC size SS) size (aG size SS) gx gc gd gs gf Ai gm K fr i c b):=by
 have h0:0<(bC size SS).length:=by
  rw[kS I];have:=I.len_bd;omega
 refine (FR h i c b hK h0).mono ?_;rintro e w' ⟨hF,W,Z,v',t⟩
 by_cases d:bR (aG size SS) i c b=0
 ·obtain⟨h1,h2,_⟩:=I.had d;rw[show (if bR (aG size SS) i c b=0/\iN (aG size SS) (bC size SS) i c b (cC (bC size SS) (bL (aG size SS) size i c b).toNat size)≠0 then (0:Int)+1 else 0)=0 from sL (fun h=>h.2 h1)]at t;rw[h1,h2]at hF;have hh:uV (aG size SS) (bC size SS) size i c b=rdF (cC (bC size SS) (bL (aG size SS) size i c b).toNat size):=FN d;obtain⟨F,A,z,he,J,U,G,V,O⟩:=F7 (yW _) hF;exact⟨F,A,z,by rw[d];exact he,by rw[hh];exact J,U,G,by rw[hh];exact V,by rw[hh];exact O,W,Z,v',t⟩
 ·obtain⟨h1,h2⟩:=CL (bs:=bC size SS) (B:=cC (bC size SS) (bL (aG size SS) size i c b).toNat size) d;rw[show (if bR (aG size SS) i c b=0/\iN (aG size SS) (bC size SS) i c b (cC (bC size SS) (bL (aG size SS) size i c b).toNat size)≠0 then (0:Int)+1 else 0)=0 from sL (fun h=>d h.1)]at t;rw[h1,h2]at hF;have hh:uV (aG size SS) (bC size SS) size i c b=fD:=sL d;obtain⟨F,A,z,he,J,U,G,V,O⟩:=F7 (f:=fD) ⟨rfl,rfl,rfl,rfl⟩ hF;exact⟨F,A,z,he,by rw[hh];exact J,U,G,by rw[hh];exact V,by rw[hh];exact O,W,Z,v',t⟩
def bQ(pc:List Value)(gf:Nat)(s c len:Int)(d:Value)(fr:Int):List Value:=pc++(.int .i64 0::(dS.toList++[.pointer (some ⟨gf,0,none⟩),.int .i64 s,.int .i64 c,.int .i64 len,d,.slice none 0 0,.int .i64 fr]))
theorem gP:dS.toList.length=32:=by rw[Array.length_toList];exact fL
theorem RD{pc:List Value}(h:pc.length=20)(gf:Nat)(s c len:Int)(d:Value)(fr:Int):(bQ pc gf s c len d fr).length=60:=by
 unfold bQ;rw[aGG,List.length_cons,aGG,gP,h]
 rfl
theorem cS{pc:List Value}(h:pc.length=20)(gf:Nat)(s c len:Int)(d:Value)(fr:Int)(j:Nat):(bQ pc gf s c len d fr)[53+j]? = ([.pointer (some ⟨gf,0,none⟩),.int .i64 s,.int .i64 c,.int .i64 len,d,.slice none 0 0,.int .i64 fr]:List Value)[j]?:=by
 unfold bQ;rw[aGP (by omega),h,show 53+j-20=(32+j)+1 by omega,List.getElem?_cons_succ,aGP (by rw[gP];omega),gP,show 32+j-32=j by omega]
theorem RG{pc:List Value}(h:pc.length=20)(gf:Nat)(s c len:Int)(t:Value)(fr d:Int):(bQ pc gf s c len t fr).set 59 (.int .i64 d)=bQ pc gf s c len t d:=by
 unfold bQ;rw[aHA _ _ (by omega),h,show 59-20=38+1 by omega,List.set_cons_succ,aHA _ _ (by rw[gP];omega),gP]
 rfl
theorem NT{pc:List Value}(h:pc.length=20)(gf:Nat)(s c len:Int)(t d:Value)(fr:Int):(bQ pc gf s c len t fr).set 57 d=bQ pc gf s c len d fr:=by
 unfold bQ;rw[aHA _ _ (by omega),h,show 57-20=36+1 by omega,List.set_cons_succ,aHA _ _ (by rw[gP];omega),gP]
 rfl
theorem NS{pc d:List Value}(h:pc.length=20)(t:d.length=20)(gf:Nat)(s c len:Int)(z:Value)(fr:Int):aDe (bQ pc gf s c len z fr) d=bQ d gf s c len z fr:=by
 unfold aDe bQ aW;rw[List.take_zero,List.nil_append,aGn,t,aJM (by omega),aJj (by omega),List.nil_append,aHA _ _ (by omega),t]
 rfl
theorem RE{pc:List Value}(h:pc.length=20)(gf:Nat)(s c len:Int)(t:Value)(fr:Int){j:Nat}{v:Value}(d:bH.toList[j]? = some v):(bQ pc gf s c len t fr)[37+j]? = some v:=by
 have z:j<16:=by have:=(aGi.1 d).1;rw[Array.length_toList,b7]at this;exact this
 have ht:bH.toList.length=16:=by rw[Array.length_toList];exact b7
 unfold bQ;rw[aGP (by omega),h,show 37+j-20=(16+j)+1 by omega,List.getElem?_cons_succ,aGU (by rw[gP];omega)];have e:dS.toList=bH.toList++bH.toList:=by simp[dS]
 rw[e,aGP (by omega),ht,show 16+j-16=j by omega];exact d
def eN(f:aFJ)(n:Int):List Value:=.int .i64 n::((gI (bV f)).map (Value.int .i64)++f.gains.map (Value.int .i64))
theorem mA(b:List Int):(gI b).length=16:=by simp[gI,EU,nV]
theorem iK{f:aFJ}(h:f.Len)(n:Int):(eN f n).length=21:=by
 unfold eN;rw[List.length_cons,aGG,aF7,aF7,mA,h.g]
theorem pP(f:aFJ)(n:Int):∀ v∈eN f n,v.oneCell'=true:=fun v d=>by
 unfold eN at d;rcases aGw.1 d with rfl|d
 ·rfl
 ·rcases aGJ.1 d with d|d
  ·obtain⟨x,_,rfl⟩:=aGq.1 d;rfl
  ·obtain⟨x,_,rfl⟩:=aGq.1 d;rfl
theorem aA1{s g:List Int}(n:Int)(h:s.length=16)(d:g.length=4):prog.built 163 [(0,.int .i64 n),(1,aR s),(2,aR g)]=some (.int .i64 n::(s.map (Value.int .i64)++g.map (Value.int .i64))).toArray:=by
 obtain⟨g0,g1,g2,g3,rfl⟩:=uF d;obtain⟨a0,t,z,F,G,I,J,O,U,V,W,Z,b2,b3,b4,b5,rfl⟩:=xB h
 kernel_rfl
theorem gG:(prog.info? 163).map (·.size)=some 21:=by kernel_rfl
theorem aFO.apart{wB w w':World}{bs:List Nat}{size:Nat}{D:List aFK}{gx gc gd gs gf:Nat}{Ai:Option Addr}{gm K:Nat}{rd:Int}{v:aFN}{fr lo:Int}(h:aFO wB w bs size D gx gc gd gs gf Ai gm K rd v fr lo){r:Nat}{T:TypeId}{xs:List Value}(t:Blk w r T xs)(h1:151≠T)(h2:208≠T)(z:203≠T)(F:5≠T)(G:52≠T)(I:wB.heap.size<=r)(hA:∀ ad,Ai=some ad->ad.block≠r)(d:aFL [r] w w'):aFO wB w' bs size D gx gc gd gs gf Ai gm K rd v fr lo :=
 ⟨h.bank,h.fit,h.even,h.old.trans (d.below (fun x J=>by rw[aGx.1 J];exact I) h.old.size),h.cN,h.sN,h.dN,h.fN,h.img,d.heap h.head (by simpa using cO h.head t G),h.cache.typed t h1 h2 z F hA d,h.cnt⟩
def aAb(wB w:World)(bs:List Nat)(size:Nat)(D:List aFK)(gx gc gd gs gf:Nat)(Ai:Option Addr)(gm K:Nat)(ff:Int)(gr:Nat)(s c len:Int)(d:Value)(fr n:Int)(e:Ending)(w':World):Prop :=
 e=.returned (.agg (eN (uV D bs size s c n) n).toArray)/\Blk w' gr 94 (bQ (c9 (uV D bs size s c n)) gf s c len d (fr+1))/\aFL [gc,gs,gd,gf,gr] w w'/\∃ h v',aFO wB w' bs size D gx gc gd gs gf Ai gm (K+97) h v' (ff+1) 0
theorem aD1{SS:List aFM}{wB w:World}{size gx gc gd gs gf:Nat}{Ai:Option Addr}{gm K:Nat}{rd:Int}{v:aFN}{ff:Int}{gr:Nat}{pc:List Value}{s c len:Int}{J:Value}{fr:Int}(V:aFY size SS)
 (h:aFO wB w (bC size SS) size (aG size SS) gx gc gd gs gf Ai gm K rd v ff 0)(hR:Blk w gr 94 (bQ pc gf s c len J fr))(aL:pc.length=20)(hN:wB.heap.size<=gr)(hK:K+97<=1000000000000000)(bI:0<=fr/\fr<=1000000000000000)(n:Int)
 (hE:bR (aG size SS) s c n=0)(aU:aFQ (uV (aG size SS) (bC size SS) size s c n))(cE:∀ ad,Ai=some ad->ad.block≠gr):
  Calls prog 121 #[.pointer (some ⟨gr,0,none⟩),.int .i64 n] w (aAb wB w (bC size SS) size (aG size SS) gx gc gd gs gf Ai gm K ff gr s c len J fr n):=by
 have aB:=V.len_bd;have eU:=kS V;have a2:=hid (fun W rd v (hW:aFO wB W (bC size SS) size (aG size SS) gx gc gd gs gf Ai gm K rd v ff 0)=>aEE V hW s c n hK);unfold aFr at a2;rw[hE,FN rfl]at a2;have HP:=hid (show ∀ e w',(e=.returned (.agg (eN (uV (aG size SS) (bC size SS) size s c n) n).toArray)/\Blk w' gr 94 (bQ (c9 (uV (aG size SS) (bC size SS) size s c n)) gf s c len J (fr+1))/\aFL [gc,gs,gd,gf,gr] w w'/\∃ e1 v',aFO wB w' (bC size SS) size (aG size SS) gx gc gd gs gf Ai gm (K+97) e1 v' (ff+1) 0)->aAb wB w (bC size SS) size (aG size SS) gx gc gd gs gf Ai gm K ff gr s c len J fr n e w' from fun _ _ h=>h);have cH:0<(bC size SS).length:=by omega
 have d6:=hid cH;have eD:=hid h.old.size;have eB:=hid (h.cache.img_lt cH);generalize aAb wB w (bC size SS) size (aG size SS) gx gc gd gs gf Ai gm K ff gr s c len J fr n=TP at *
 generalize bC size SS=bs at *
 generalize aG size SS=D at *
 obtain⟨F,hF⟩:∃ F,uV D bs size s c n=F:=⟨_,rfl⟩;rw[hF]at a2 HP aU;have cY:=hid aU;have dK:=rQ aU.len;have dY:=hid (fun W=>(show Calls prog 129 #[.agg bH,aR (bV F)] W fun e w'=>e=.returned (aR (gI (bV F)))/\Below W.heap.size W w' from by
  have:=BD bH (bV F) 2147483648 W b7 I2 (fO F) (by omega) (fun k hk=>IU F hk);rw[aDX (fO F)]at this;exact this))
 have dR:=hid (aA1 n (mA (bV F)) aU.gains.1);have cI:=iK aU.len n;have d5:=hid (pP F n);have d7:=hid (show (eN F n).toArray.all (·.oneCell')=true by
  rw[aGY];intro v I;exact d5.out v (by simpa using I))
 have d8:=hid (show (eN F n).toArray.size=21 by rw[aGH,cI]);have cV:=hid (show (prog.info? 163).map (·.size)=some (eN F n).toArray.size by rw[aGH,cI];exact gG);have hr:=h.head.lt;have eS:=cO hR h.head (by decide);obtain⟨w1,cM⟩:∃ w1,w.alloc (.cells #[.int .i64 0,.int .i64 0,.int .i64 0,.int .i64 0,.int .i64 0,.int .i64 0,.int .i64 0,.int .i64 0,.int .i64 0,.int .i64 0,.int .i64 0,.int .i64 0,.int .i64 0,.int .i64 0,.int .i64 0,.int .i64 0,.int .i64 0,.int .i64 0,.int .i64 0,.int .i64 0,.int .i64 0] 163)=w1:=⟨_,rfl⟩;have B1:=hid (show Below w.heap.size w w1 by rw[<-cM];exact aP w _);have S1:=hid (show Blk w1 w.heap.size 163 (#[.int .i64 0,.int .i64 0,.int .i64 0,.int .i64 0,.int .i64 0,.int .i64 0,.int .i64 0,.int .i64 0,.int .i64 0,.int .i64 0,.int .i64 0,.int .i64 0,.int .i64 0,.int .i64 0,.int .i64 0,.int .i64 0,.int .i64 0,.int .i64 0,.int .i64 0,.int .i64 0,.int .i64 0]:Array Value).toList by rw[<-cM];exact Blk.new w _ _);have K1:=hid (h.later B1.out);have R1:=hid (hR.below B1.out hR.lt);have eP:w1.cell? ⟨gr,59,none⟩=some (.int .i64 fr):=(R1.out.cell 59).trans (cS aL gf s c len J fr 6);have f59:=R1.out.frozen 59;have fA:IntKind.i64.wrap (fr+1)=fr+1:=aGl _ (by omega);obtain⟨w2,cN⟩:∃ w2,w1.setCell ⟨gr,59,none⟩ (.int .i64 (fr+1))=w2:=⟨_,rfl⟩;have R2:=hid (show Blk w2 gr 94 (bQ pc gf s c len J (fr+1)) by
  have h:=R1.out.set_ 59 (.int .i64 (fr+1));rw[RG aL]at h;rw[<-cN];exact h)
 have O2:=hid (show aFL [gr] w1 w2 by rw[<-cN];exact aFL.cellSet _ _ _ _);have K2:=hid (K1.out.apart R1.out (by decide) (by decide) (by decide) (by decide) (by decide) hN cE O2.out);have cK:=hR.lt;have S2:=hid (show Blk w2 w.heap.size 163 (#[.int .i64 0,.int .i64 0,.int .i64 0,.int .i64 0,.int .i64 0,.int .i64 0,.int .i64 0,.int .i64 0,.int .i64 0,.int .i64 0,.int .i64 0,.int .i64 0,.int .i64 0,.int .i64 0,.int .i64 0,.int .i64 0,.int .i64 0,.int .i64 0,.int .i64 0,.int .i64 0,.int .i64 0]:Array Value).toList from O2.out.heap S1.out (by simp only[aGx];omega));have e4:=fun (z:GW w2)=>(show z.1.cell? ⟨gr,53,none⟩=some (.pointer (some ⟨gf,0,none⟩)) from (z.2.cell (p:=⟨gr,53,none⟩) R2.out.lt).trans ((R2.out.cell 53).trans (cS aL gf s c len J (fr+1) 0)))
 have e5:=fun (z:GW w2)=>(show z.1.cell? ⟨gr,54,none⟩=some (.int .i64 s) from (z.2.cell (p:=⟨gr,54,none⟩) R2.out.lt).trans ((R2.out.cell 54).trans (cS aL gf s c len J (fr+1) 1)))
 have e6:=fun (z:GW w2)=>(show z.1.cell? ⟨gr,55,none⟩=some (.int .i64 c) from (z.2.cell (p:=⟨gr,55,none⟩) R2.out.lt).trans ((R2.out.cell 55).trans (cS aL gf s c len J (fr+1) 2)))
 have c2:=hid aL;have bM:=hid dK;have HN:=hid hN;have dQ:=hid cE;have eA:=hid cK;clear h hR aL hN hE aU cE aB eU cH hF dK cI hr eS cK V;go_enter func121,ntmps121;go_wp2_with fail
 refine sQ 13 (o:=.cells bS 45) (by kernel_rfl) rfl (by kernel_rfl) rfl rfl rfl rfl (fun _ _=>rfl) (fun c a' w' d v h=>by cases d <;> exact h) ?_;simp only[List.take_succ_cons,List.take_zero];simp only[Act.put]
 repeat (go_big_quiet_step (fail))
 refine aGv ?_;intro w9 aD;have B9:=hid (aQ aD);have K9:=hid (K2.out.later B9.out);have R9:=hid (R2.out.below B9.out R2.out.lt);have S9:=hid (S2.out.below B9.out S2.out.lt);clear aD e4 e5 e6 eP f59 cM cN;refine⟨?A,?B⟩
 case' A =>
  have BA:=hid (aP w9 (.cells bS 45));have FA:=hid (show Blk (w9.alloc (.cells bS 45)) w9.heap.size 45 bS.toList from Blk.new w9 _ _);have KA:=hid (K9.out.later BA.out);have RA:=hid (R9.out.below BA.out R9.out.lt);have SA:=hid (S9.out.below BA.out S9.out.lt);have cT:=hid (a2.out _ rd v KA.out);go_wp2_with (go_at_call 13;fail)
  refine cT.out.mono ?_;intro e O hq;obtain⟨t,At,ca,rfl,bG,hl,bD,bF,bI,Z,dM,vW,bE⟩:=hq;have aB:=(show t.toArray.size=29 by rw[aGH,hl]);have b5:=hid aB;have bL:=hid (show (prog.info? 45).map (·.size)=some t.toArray.size by rw[aB];exact bZ);have b4:=hid (show t.toArray.all (·.oneCell')=true by
   rw[aGY];intro v I;exact bD v (by simpa using I))
  have c0:=hid (show t.toArray=aZ F (.slice At F.tones.length ca) by rw[bG];rfl);obtain⟨gF,aH⟩:∃ gF,w9.heap.size=gF:=⟨_,rfl⟩;have eY:(w9.alloc (.cells bS 45)).heap.size=gF+1:=by simp[aH]
  have aS:=hid (show Blk O gF 45 bS.toList by rw[<-aH];exact KA.out.keep FA.out (by decide) (by decide) (by decide) (by decide) Z);have aI:=hid (KA.out.keep RA.out (by decide) (by decide) (by decide) (by decide) Z);have aK:=hid (KA.out.keep SA.out (by decide) (by decide) (by decide) (by decide) Z);obtain⟨W,hW⟩:∃ W,O.setRow gF t.toArray=W:=⟨_,rfl⟩;have OF:=hid (show aFL [gF] O W by rw[<-hW];exact aFL.rowSet _ _ _);have RW:=hid (show Blk W gr 94 (bQ pc gf s c len J (fr+1)) from OF.out.heap aI.out (by simpa using cO aI.out aS.out (by decide)));have SW:=hid (show Blk W w.heap.size 163 (#[.int .i64 0,.int .i64 0,.int .i64 0,.int .i64 0,.int .i64 0,.int .i64 0,.int .i64 0,.int .i64 0,.int .i64 0,.int .i64 0,.int .i64 0,.int .i64 0,.int .i64 0,.int .i64 0,.int .i64 0,.int .i64 0,.int .i64 0,.int .i64 0,.int .i64 0,.int .i64 0,.int .i64 0]:Array Value).toList from OF.out.heap aK.out (by simpa using cO aK.out aS.out (by decide)));have FW:=hid (show W.heap[gF]? = some (.cells t.toArray 45 (0,0)) by rw[<-hW];exact aHK _ _ _ _ _ _ aS.out);have TW:=hid (show Row W W.heap.size At (aV F.tones) by
   rcases bI with h0|⟨g',h1,h2⟩
   ·rw[h0];exact fun i v I=>by simp[aV]at I
   ·refine OF.out.row bF (fun ad had=>?_);rw[had]at h1;injection h1 with h1
    rw[h1];simp only[aGx];omega)
  have KW:=hid (bE.other (r:=gF) aS.out (by have:=K9.out.old.size;omega) (fun ad had=>by have:=K9.out.cache.img_lt d6.out ad had;omega) OF.out);have OW:=hid (show aFL [gc,gs,gd,gf,gr] w W by
   have h0:=(((aFL.of_below [gc,gs,gd,gf,gr] B1.out).trans (O2.out.more (by simp))).trans (aFL.of_below _ (aC B9.out BA.out))).trans (Z.more (by simp));rw[<-hW];exact h0.grown (eC (aG1 O (some gF)) _) (fun k hk=>by rw[<-Option.some.inj hk];have:=B1.out.size;have:=O2.out.size;have:=B9.out.size;omega))
  have HW:=hid hW;have a4:=hid aH;clear bG hl bD bF bI Z bE aB hW eY aH;rw[a4.out];go_wp2_with (refine aA rfl 45 (.tmp 5) (.tmp 30) rfl gF rfl _ _ t.toArray rfl aS.out bL.out (by rw[b5.out];rfl) b4.out ?_;rw[HW.out])
  clear cT FA BA KA RA SA aI aK OF aS HW a4
 case' B =>
  have cU:=hid (a2.out _ rd v K9.out);go_wp2_with (go_at_call 13;fail)
  refine cU.out.mono ?_;intro e O hq;obtain⟨t,At,ca,rfl,bG,hl,bD,bF,bI,Z,dM,vW,bE⟩:=hq;have aB:=(show t.toArray.size=29 by rw[aGH,hl]);have b5:=hid aB;have bL:=hid (show (prog.info? 45).map (·.size)=some t.toArray.size by rw[aB];exact bZ);have b4:=hid (show t.toArray.all (·.oneCell')=true by
   rw[aGY];intro v I;exact bD v (by simpa using I))
  have c0:=hid (show t.toArray=aZ F (.slice At F.tones.length ca) by rw[bG];rfl);have aI:=hid (K9.out.keep R9.out (by decide) (by decide) (by decide) (by decide) Z);have aK:=hid (K9.out.keep S9.out (by decide) (by decide) (by decide) (by decide) Z);obtain⟨gF,aH⟩:∃ gF,O.heap.size=gF:=⟨_,rfl⟩;obtain⟨W,hW⟩:∃ W,O.alloc (.cells t.toArray 45)=W:=⟨_,rfl⟩;have B2:=hid (show Below O.heap.size O W by rw[<-hW];exact aP O _);have RW:=hid (aI.out.below B2.out aI.out.lt);have SW:=hid (aK.out.below B2.out aK.out.lt);have FW:=hid (show W.heap[gF]? = some (.cells t.toArray 45 (0,0)) by rw[<-hW,<-aH];exact LT O _);have TW:=hid (bF.later B2.out);have KW:=hid (bE.later B2.out);have OW:=hid (show aFL [gc,gs,gd,gf,gr] w W from ((((aFL.of_below [gc,gs,gd,gf,gr] B1.out).trans (O2.out.more (by simp))).trans (aFL.of_below _ B9.out)).trans (Z.more (by simp))).trans (aFL.of_below _ B2.out));have HW:=hid hW;have a4:=hid aH;clear bG hl bD bF bI Z bE aB hW aH;go_wp2_with (refine aA rfl 45 (.tmp 5) (.tmp 30) rfl O.heap.size rfl _ _ t.toArray rfl (LT O _) bL.out (by rw[b5.out];rfl) b4.out ?_;rw[aGT,HW.out])
  rw[a4.out];clear cU aI aK B2 HW a4
 all_goals
  obtain⟨G,cJ⟩:∃ G,W.heap.size=G:=⟨_,rfl⟩;obtain⟨V1,b1⟩:∃ V1,W.alloc (.cells #[.int .i64 0,.int .i64 0,.int .i64 0,.int .i64 0,.int .i64 0,.int .i64 0,.int .i64 0,.int .i64 0,.int .i64 0,.int .i64 0,.int .i64 0,.int .i64 0,.int .i64 0,.int .i64 0,.int .i64 0,.int .i64 0,.int .i64 0,.int .i64 0,.int .i64 0,.int .i64 0] 75)=V1:=⟨_,rfl⟩;have E1:=hid (show Below W.heap.size W V1 by rw[<-b1];exact aP W _);have P1:=hid (show V1.heap[G]? = some (.cells #[.int .i64 0,.int .i64 0,.int .i64 0,.int .i64 0,.int .i64 0,.int .i64 0,.int .i64 0,.int .i64 0,.int .i64 0,.int .i64 0,.int .i64 0,.int .i64 0,.int .i64 0,.int .i64 0,.int .i64 0,.int .i64 0,.int .i64 0,.int .i64 0,.int .i64 0,.int .i64 0] 75 (0,0)) by rw[<-b1,<-cJ];exact LT W _);have F1:=hid (aF FW.out E1.out);have P0:=eW F1.out;have c1:=hid (show w.heap.size<G/\gr<G by
   have h1:=SW.out.lt;have h2:=RW.out.lt;omega)
  have d9:=hid cJ;clear cJ;go_wp2_with fail
  try rw[b1]
  rw[d9.out];refine aJ 4 (by kernel_rfl) (by kernel_rfl) ?_;simp only[List.take_succ_cons,List.take_zero,aGO,aGR]
  repeat (first|(go_big_quiet_want;refine bT 45 (.tmp 5) rfl gF rfl _ t.toArray _ _ P0 underlying45 rfl bL.out ?_;go_simp;go_big_quiet_on)|go_big_quiet_step (fail))
  refine aGv ?_;intro V2 aD;have E2:=hid (aC E1.out (aQ aD));have P2:=hid (aF P1.out (aQ aD));have cA:=hid (RW.out.below E2.out RW.out.lt);have dB:=hid (SW.out.below E2.out SW.out.lt);have cW:=hid (show Calls prog 128 #[.pointer (some ⟨gr,0,none⟩),.agg t.toArray] V2 _ from by
   rw[c0.out];exact PO F At ca V2 gr 94 _ cY.out (TW.out.later E2.out) cA.out (by rw[RD c2.out];omega))
  clear aD P0 b1;go_wp2_with (go_at_call 128;fail)
  refine cW.out.mono ?_;rintro e V3 ⟨rfl,cF,b0⟩;rw[NS c2.out bM.out]at cF;have R3:=hid cF;have O3:=hid b0;have dI:=c1.out;have P3:=hid (b0.heap P2.out (by simp only[aGx];omega));have S3:=hid (show Blk V3 w.heap.size 163 (#[.int .i64 0,.int .i64 0,.int .i64 0,.int .i64 0,.int .i64 0,.int .i64 0,.int .i64 0,.int .i64 0,.int .i64 0,.int .i64 0,.int .i64 0,.int .i64 0,.int .i64 0,.int .i64 0,.int .i64 0,.int .i64 0,.int .i64 0,.int .i64 0,.int .i64 0,.int .i64 0,.int .i64 0]:Array Value).toList from b0.heap dB.out (by have:=cO dB.out cA.out (by decide);simpa using this));have dW:=hid (show (prog.info? 75).map (·.size)=some (c9 F).toArray.size by rw[aGH,bM.out];exact uI);have d2:=hid (show (c9 F).toArray.size=20 by rw[aGH,bM.out]);have d1:=hid (show (c9 F).toArray.all (·.oneCell')=true by
   rw[aGY];intro v I;exact wW F v (by simpa using I))
  obtain⟨U,b2⟩:∃ U,V3.setRow G (c9 F).toArray=U:=⟨_,rfl⟩;have O4:=hid (show aFL [G] V3 U by rw[<-b2];exact aFL.rowSet _ _ _);have P4:=hid (show U.heap[G]? = some (.cells (c9 F).toArray 75 (0,0)) by rw[<-b2];exact aHK _ _ _ _ _ _ P3.out);have R4:=hid (show Blk U gr 94 (bQ (c9 F) gf s c len J (fr+1)) from O4.out.heap R3.out (by simp only[aGx];omega));have S4:=hid (show Blk U w.heap.size 163 (#[.int .i64 0,.int .i64 0,.int .i64 0,.int .i64 0,.int .i64 0,.int .i64 0,.int .i64 0,.int .i64 0,.int .i64 0,.int .i64 0,.int .i64 0,.int .i64 0,.int .i64 0,.int .i64 0,.int .i64 0,.int .i64 0,.int .i64 0,.int .i64 0,.int .i64 0,.int .i64 0,.int .i64 0]:Array Value).toList from O4.out.heap S3.out (by simp only[aGx];omega));have cZ:=hid b2;clear cF b0 dI b2 cW;go_wp2_with (refine aA rfl 75 (.tmp 7) (.tmp 38) rfl G rfl _ _ (c9 F).toArray rfl P3.out dW.out (by rw[d2.out];rfl) d1.out ?_;rw[cZ.out])
  try simp only[Act.put]
  have b3:((bV F).map (Value.int .i64)).length=16:=by rw[aF7];exact fO F
  have dH:(F.gains.map (Value.int .i64)).length=4:=by rw[aF7];exact cY.out.gains.1
  have dL:bH.toList.length=16:=by rw[Array.length_toList];exact b7
  have HT:=hid (fun w' (V:∃ x:GW U,w'=x.1) j v (I:bH.toList[j]? = some v)=>(show w'.cell? ⟨gr,37+j,none⟩=some v by
   obtain⟨x,rfl⟩:=V;exact (x.2.cell (p:=⟨gr,37+j,none⟩) R4.out.lt).trans ((R4.out.cell (37+j)).trans (RE bM.out gf s c len J (fr+1) I))))
  have HS:=hid (fun w' (V:∃ x:GW U,w'=x.1) j v (I:((bV F).map (Value.int .i64))[j]? = some v)=>(show w'.cell? ⟨G,0+j,none⟩=some v by
   obtain⟨x,rfl⟩:=V;have hj:=(aGi.1 I).1;refine (aGo _ _ _ _ _ _ (aF P4.out x.2)).trans ?_;rw[aGn,aHL];unfold c9;rw[aG2,aGU hj];exact I))
  have dX:=hid (fun w' (V:∃ x:GW U,w'=x.1) j v (I:(F.gains.map (Value.int .i64))[j]? = some v)=>(show w'.cell? ⟨G,16+j,none⟩=some v by
   obtain⟨x,rfl⟩:=V;refine (aGo _ _ _ _ _ _ (aF P4.out x.2)).trans ?_;rw[aHL];unfold c9;rw[aG2,aGP (by rw[b3];omega),b3,show 16+j-16=j by omega];exact I))
  have dT:=hid (show (prog.info? 43).map (·.size)=some ((bV F).map (Value.int .i64)).length by rw[b3];kernel_rfl);have dU:=hid (show (prog.info? 40).map (·.size)=some (F.gains.map (Value.int .i64)).length by rw[dH];exact b9);have dV:=hid (show (prog.info? 89).map (·.size)=some bH.toList.length by rw[dL];exact DS);have dZ:=hid (fun (W:World)=>(show Calls prog 129 #[.agg bH.toList.toArray,.agg ((bV F).map (Value.int .i64)).toArray] W fun e w'=>e=.returned (.agg ((gI (bV F)).map (Value.int .i64)).toArray)/\Below W.heap.size W w' from by
   have h:=dY.out W;unfold aR at h;rw[Array.toArray_toList];exact h))
  have dS:=hid (show prog.built 163 [(0,.int .i64 n),(1,.agg ((gI (bV F)).map (Value.int .i64)).toArray),(2,.agg (F.gains.map (Value.int .i64)).toArray)]=some (eN F n).toArray from dR.out);clear b3 dH dL;generalize (bV F).map (Value.int .i64)=sv at *
  generalize F.gains.map (Value.int .i64)=gv at *
  generalize (gI (bV F)).map (Value.int .i64)=iv at *
  generalize bH.toList=tl at *
  go_wp2_with fail
  refine aJ 11 (by kernel_rfl) (by kernel_rfl) ?_;simp only[List.take_succ_cons,List.take_zero,aGO,aGR]
  repeat (first|(go_big_quiet_want;refine aY 89 (.tmp 57) rfl gr 37 rfl tl _ HT.out underlying89 rfl dV.out ?_;go_simp;go_big_quiet_on)|(go_big_quiet_want;refine aY 43 (.tmp 59) rfl G 0 rfl sv _ HS.out underlying43 rfl dT.out ?_;go_simp;go_big_quiet_on)|(go_big_quiet_want;refine aY 40 (.tmp 62) rfl G 16 rfl gv _ dX.out underlying40 rfl dU.out ?_;go_simp;go_big_quiet_on)|go_big_quiet_step ((go_at_call 129;exact bY (dZ.out _))))
  refine aGv ?_;intro V5 aD;have E5:=hid (aQ aD);have S5:=hid (show V5.heap[w.heap.size]? = some (.cells #[.int .i64 0,.int .i64 0,.int .i64 0,.int .i64 0,.int .i64 0,.int .i64 0,.int .i64 0,.int .i64 0,.int .i64 0,.int .i64 0,.int .i64 0,.int .i64 0,.int .i64 0,.int .i64 0,.int .i64 0,.int .i64 0,.int .i64 0,.int .i64 0,.int .i64 0,.int .i64 0,.int .i64 0] 163 (0,0)) from S4.out.below E5.out S4.out.lt);have R5:=hid (R4.out.below E5.out R4.out.lt);clear aD;go_wp2_with (first|(refine dP rfl 163 _ rfl (eN F n).toArray (by simpa[Act.eval] using dS.out) ?_)|(refine aA rfl 163 (.tmp 4) (.tmp 64) rfl w.heap.size rfl _ _ (eN F n).toArray rfl S5.out cV.out (by rw[d8.out];rfl) d7.out ?_))
  refine aGk (v:=.agg (eN F n).toArray) (aG9 results121 _ _ w.heap.size 163 (eN F n).toArray (0,0) _ rfl (bA _ _ _ _ (eN F n).toArray S5.out) underlying163 rfl cV.out) rfl ?_;have dI:=c1.out;have cK:=eA.out;refine HP.out _ _ ⟨rfl,(aFL.rowSet V5 w.heap.size (eN F n).toArray).heap R5.out (by simp only[aGx];omega),?_,dM,vW,?_⟩
  ·have h0:=(((OW.out.trans (aFL.of_below _ E2.out)).trans (O3.out.more (by simp))).grown (w2:=U) (ow:=some G) (by rw[<-cZ.out];exact eC (aG1 V3 (some G)) _) (fun k hk=>by rw[<-Option.some.inj hk];omega)).trans (aFL.of_below _ E5.out);exact h0.grown (eC (aG1 V5 (some w.heap.size)) _) (fun k hk=>by rw[<-Option.some.inj hk];exact LE _)
  ·have eI:Blk V3 G 75 (#[.int .i64 0,.int .i64 0,.int .i64 0,.int .i64 0,.int .i64 0,.int .i64 0,.int .i64 0,.int .i64 0,.int .i64 0,.int .i64 0,.int .i64 0,.int .i64 0,.int .i64 0,.int .i64 0,.int .i64 0,.int .i64 0,.int .i64 0,.int .i64 0,.int .i64 0,.int .i64 0]:Array Value).toList:=P3.out;have eO:Blk V5 w.heap.size 163 (#[.int .i64 0,.int .i64 0,.int .i64 0,.int .i64 0,.int .i64 0,.int .i64 0,.int .i64 0,.int .i64 0,.int .i64 0,.int .i64 0,.int .i64 0,.int .i64 0,.int .i64 0,.int .i64 0,.int .i64 0,.int .i64 0,.int .i64 0,.int .i64 0,.int .i64 0,.int .i64 0,.int .i64 0]:Array Value).toList:=S5.out;have dJ:=eB.out;have eX:=eD.out;have k3:=(KW.out.later E2.out).apart cA.out (by decide) (by decide) (by decide) (by decide) (by decide) HN.out dQ.out O3.out;have k4:=k3.apart eI (by decide) (by decide) (by decide) (by decide) (by decide) (by omega) (fun ad had=>by have:=dJ ad had;omega) O4.out;exact (k4.later E5.out).apart eO (by decide) (by decide) (by decide) (by decide) (by decide) eX (fun ad had=>by have:=dJ ad had;omega) (aFL.rowSet V5 w.heap.size (eN F n).toArray)
def iL(F:Nat->aFJ)(ns:List Nat):List Value:=(ns.map fun (n:Nat)=>eN (F n) (n:Int)).flatten
theorem gD(F:Nat->aFJ)(n:Nat)(ns:List Nat):iL F (n::ns)=eN (F n) (n:Int)++iL F ns:=rfl
theorem KI(F:Nat->aFJ):∀ a b:List Nat,iL F (a++b)=iL F a++iL F b
 | [],b=>rfl
 | x::a,b=>by rw[List.cons_append,gD,KI F a b,gD,aHU]
theorem zS{F:Nat->aFJ}(hF:∀ n,(F n).Len):∀ ns:List Nat,(iL F ns).length=ns.length*21
 | []=>rfl
 | x::a=>by rw[gD,aGG,iK (hF x),zS hF a,List.length_cons];omega
theorem KJ{F:Nat->aFJ}{ns:List Nat}:∀ v∈iL F ns,v.oneCell'=true:=fun v d=>by
 unfold iL at d;obtain⟨l,h,d⟩:=aIs.1 d;obtain⟨n,_,rfl⟩:=aGq.1 h;exact pP _ _ v d
theorem wA{F:Nat->aFJ}(hF:∀ n,(F n).Len):∀ (ns:List Nat) (i:Nat),(iL F ns).take (i*21)=iL F (ns.take i)
 | [],i=>by simp[iL]
 | x::a,0=>by simp[iL]
 | x::a,i+1=>by
  have d:=iK (hF x) (x:Int);rw[List.take_succ_cons,gD,gD,<-wA hF a i,aJW,d,aGW (by omega),show (i+1)*21-21=i*21 by omega]
theorem v8{F:Nat->aFJ}(hF:∀ n,(F n).Len):∀ (ns:List Nat) (i:Nat),(iL F ns).drop (i*21)=iL F (ns.drop i)
 | [],i=>by simp[iL]
 | x::a,0=>by simp
 | x::a,i+1=>by
  have d:=iK (hF x) (x:Int);rw[aGO,gD,<-v8 hF a i,List.drop_append,d,aJj (by omega),List.nil_append,show (i+1)*21-21=i*21 by omega]
theorem aA0{F:Nat->aFJ}(hF:∀ n,(F n).Len){ns:List Nat}{i n:Nat}(h:ns[i]? = some n){j:Nat}(d:j<21):(iL F ns)[i*21+j]? = (eN (F n) (n:Int))[j]?:=by
 have hi:=(aGi.1 h);rw[<-List.getElem?_drop,v8 hF,List.drop_eq_getElem_cons hi.1,hi.2,gD,aGU (by rw[iK (hF n)];exact d)]
def lS(n:Nat)(ns:List Nat):List Nat:=if n∈ns then n::ns.erase n else n::ns.take 3
def jA(n:Nat)(ns:List Nat):Nat:=if n∈ns then 0 else 1
theorem BQ:∀ (ns:List Nat) (i n:Nat),ns[i]? = some n->(∀ j,j<i->ns[j]?≠some n)->ns.erase n=ns.take i++ns.drop (i+1)
 | [],_,_,h,_=>by simp at h
 | x::r,0,n,h,_=>by
  have:x=n:=by simpa using h
  subst this;simp
 | x::r,i+1,n,h,hj=>by
  have d:x≠n:=fun e=>hj 0 (by omega) (by rw[e];rfl)
  rw[List.erase_cons_tail (by simpa using d),BQ r i n (by simpa using h) (fun j t=>by simpa using hj (j+1) (by omega))]
  rfl
theorem aD9{ns:List Nat}{i n:Nat}(h:ns[i]? = some n)(d:∀ j,j<i->ns[j]?≠some n):lS n ns=n::(ns.take i++ns.drop (i+1))/\jA n ns=0:=by
 have hm:n∈ns:=aGh h;unfold lS jA;rw[FN hm,FN hm,BQ ns i n h d];exact⟨rfl,rfl⟩
theorem aCl{ns:List Nat}{n:Nat}(h:∀ j,j<ns.length->ns[j]?≠some n):lS n ns=n::ns.take 3/\jA n ns=1:=by
 have hm:n ∉ ns:=fun hm=>by
  obtain⟨j,d⟩:=aJT.1 hm;exact h j (aGi.1 d).1 d
 unfold lS jA;rw[sL hm,sL hm];exact⟨rfl,rfl⟩
theorem I7{n:Nat}{ns:List Nat}(h:ns.length<=4):(lS n ns).length<=4/\0<(lS n ns).length:=by
 unfold lS;split
 ·rename_i hm
  rw[List.length_cons,List.length_erase_of_mem hm];omega
 ·rw[List.length_cons,aGB];omega
theorem YI{d b:List Value}{n i:Nat}(G:n*21<=d.length)(hi:i<n)(hb:b.length=21):(aW (aW d 21 (d.take (i*21))) 0 b).take (n*21)=b++((d.take (n*21)).take (i*21)++(d.take (n*21)).drop ((i+1)*21)):=by
 have h:(d.take (i*21)).length=i*21:=by rw[aGB];omega
 have t:aW d 21 (d.take (i*21))=d.take 21++(d.take (i*21)++d.drop (21+i*21)):=by
  unfold aW;rw[h,aHU]
 have F:(d.take 21).length=21:=by rw[aGB];omega
 have z:aW (aW d 21 (d.take (i*21))) 0 b=b++(d.take (i*21)++d.drop (21+i*21)):=by
  rw[t];unfold aW;rw[List.take_zero,List.nil_append,aGn,hb,List.drop_append,F,aJj (by omega),List.nil_append]
  rfl
 rw[z,aJW,aGW (by omega),aJW,h,aGW (l:=d.take (i*21)) (by omega),aJY,aHM (by omega),List.drop_take,hb,
  show n*21-21-i*21=n*21-(i+1)*21 by omega,show 21+i*21=(i+1)*21 by omega]
theorem OT{P:Program}(w:World)(I sT ty z:TypeId)(g o h V:Nat)(a:Addr)(G aE size:Nat)(t:TypeId)(old d:List Value)
 (hu:P.underlying I=some (.slice z))(O:(P.info? z).map (·.size)=some size)(Z:d.length=Nat.min G h*size)(W:w.heap[g]? = some (.cells old.toArray t (0,0)))
 (aB:∀ j v,d[j]? = some v->w.cell? (a.add j)=some v)(ho:o+d.length<=old.length)(h1:∀ v∈d,v.oneCell'=true):
  (Builtin.copy_ #[I,sT] ty #[.slice (some ⟨g,o,none⟩) h V,.slice (some a) G aE]).run P w=.ok (goInt (Nat.min G h)) (w.setRow g (aW old o d).toArray):=by
 have J:=run_loadCells_list (P:=P) w a d aB;have U:=run_storeCells_at P g o t d 0 old.toArray w W (by simpa using ho) h1;rw[Nat.add_zero]at U;have aC:(storeCells ⟨g,o,none⟩ d 0).run P w=.ok () (w.setRow g (aW old o d).toArray):=U;rw[Z]at J;cases F:P.info? z with
 | none=>simp[F]at O
 | some i =>
  have hi:i.size=size:=by simpa[F] using O
  simp[Builtin.copy_,aIz hu,Builtin.lenOf,Builtin.firstCells,sizeOf,typeInfo,F,hi,J,aC]
theorem IE{w w':World}{base:Nat}{e:TypeId}{size n c:Nat}{A:Option Addr}{xs:List Value}{S:List Nat}(h:w.ownsRow base e size (.slice A n c) n xs)(I:aFL S w w')(J:∀ ad,A=some ad->ad.block ∉ S):w'.ownsRow base e size (.slice A n c) n xs:=by
 refine⟨h.1,?_⟩;rcases h.2 with O|⟨G,t,z,d,hb,hh,U⟩
 ·exact .inl O
 ·refine .inr ⟨G,t,z,d,hb,I.heap hh ?_,U⟩;injection d with F _ _
  exact J _ F
theorem uL{w:World}{base:Nat}{e:TypeId}{size n c:Nat}{A:Option Addr}{xs:List Value}(h:w.ownsRow base e size (.slice A n c) n xs){j:Nat}{d:List Value}{T:TypeId}(t:Blk w j T d)(hT:T≠e):∀ ad,A=some ad->ad.block≠j:=fun ad had he=>by
 have:=YQ h t hT;rw[had,<-he]at this;exact this rfl
theorem UG{w:World}{base:Nat}{e:TypeId}{size n:Nat}{v:Value}{xs:List Value}(h:w.ownsRow base e size v n xs)(G:0<n):∃ g c,v=.slice (some ⟨g,0,none⟩) n c/\base<=g/\g<w.heap.size/\n<=c/\c<=9223372036854775807:=by
 rcases h.2 with ⟨_,F⟩|⟨g,cap,z,t,hb,hh,d,hm,_⟩
 ·omega
 ·exact⟨g,cap,t,hb,hlt hh,d,by simpa only[maxLen] using hm⟩
theorem UF{w:World}{N:Nat}(e:TypeId){xs:List Value}(d:xs.length=21)(h:N<=w.heap.size):(w.alloc (.cells xs.toArray e)).ownsRow N e 21 (.slice (some ⟨w.heap.size,0,none⟩) 1 1) 1 xs :=
 ⟨by rw[d],.inr ⟨w.heap.size,1,xs.toArray,rfl,h,LT w _,LE _,by simp[maxLen],by rw[aGH,d],by rw[List.toList_toArray,aGW (by omega)]⟩⟩
theorem aAu{w:World}{base size n cap g:Nat}{e:TypeId}{xs:List Value}(h:w.ownsRow base e size (.slice (some ⟨g,0,none⟩) n cap) n xs):
  ∃ old:List Value,w.heap[g]? = some (.cells old.toArray e (0,0))/\n*size<=old.length/\old.take (n*size)=xs/\old.length=cap*size:=by
 rcases h.2 with ⟨d,_⟩|⟨O,J,z,d,hb,F,G,U,t,I⟩
 ·simp at d
 ·simp only[Value.slice.injEq,aIN,Addr.mk.injEq,and_true,true_and]at d;obtain⟨rfl,rfl⟩:=d;refine⟨z.toList,by rw[Array.toArray_toList];exact F,?_,I,by rw[Array.length_toList,t]⟩;rw[Array.length_toList,t];exact aHq _ G
theorem Q9:∃ i,prog.info? 163=some i/\(∃ z,i.zero=some z/\z.cells.size=21)/\i.size=21/\i.bytes=168:=by
 have h:(prog.info? 163).map (fun i=>(i.zero.map (fun z=>z.cells.size),i.size,i.bytes))=some (some 21,21,168):=by kernel_rfl
 cases hi:prog.info? 163 with
 | none=>rw[hi]at h;cases h
 | some i =>
  rw[hi]at h;simp at h;obtain⟨⟨z,t,F⟩,h2,d⟩:=h;exact⟨i,rfl,⟨z,t,F⟩,h2,d⟩
theorem aAU(g j:Nat):(⟨g,0,none⟩:Addr).add j=⟨g,j,none⟩:=by
 unfold Addr.add;split
 ·rename_i h
  rw[h]
 ·rw[aGn]
theorem IL(l:List Value)(o:Nat):aW l o []=l:=by
 unfold aW;rw[aIh,List.length_nil,Nat.add_zero,aIK]
theorem mM{P:Program}{o:Oper}{a:Act}{w:World}{K:Act->World->Prop}{Q:Exit->Act->World->Prop}(t e:TypeId)(x:Operand)(W:o.op=.buildSlice t 1 #[(0,x)])
 (F:TypeInfo)(z:Value)(s:Nat)(Z:P.underlying t=some (.slice e))(V:P.info? e=some F)(hz:F.zero=some z)(G:F.size=s)(O:0<s)(aB:s<=1000000)(d:Array Value)(J:(a.eval x).cells=d)(U:d.size=s)
 (h:K (a.put o.dst (.slice (some ⟨w.heap.size,0,none⟩) 1 1)) (w.alloc (.cells d e))):o.wp P a w K Q:=by
 refine wp_buildSlice t e 1 #[(0,x)] W d F z Z V hz (by rw[G];omega) (by rw[G];omega) ?_ h;rw[G];have:=Great.fill_whole (s:=s) O [a.eval x] ((Array.range (1*s)).map (z.cells[· % z.cells.size]!)) (fun v I=>by rw[aGx]at I;rw[I,J,U]) (by simp);simpa[J] using this
theorem aE3{P:Program}{o:Oper}{a:Act}{w:World}{K:Act->World->Prop}{Q:Exit->Act->World->Prop}(s x:Operand)(t:TypeId)(aB:o.op=Op.call { callee:=Callee.builtin Builtin.append,args:=#[s,x],argTypes:=#[t,t] })
 (base:Nat)(e:TypeId)(i:TypeInfo)(z:Value)(size bytes:Nat)(ht:P.underlying t=some (.slice e))(hi:P.info? e=some i)(hz:i.zero=some z)
 (aG:i.size=size)(W:i.bytes=bytes)(aK:z.cells.size=size)(aH:0<size)
 (v:Value)(n:Nat)(xs:List Value)(hs:a.eval s=v)(aC:w.ownsRow base e size v n xs)
 (B:Nat)(A:Option Addr)(m c:Nat)(F:List Value)(hx:a.eval x=.slice A m c)(hl:F.length=m*size)(hr:Row w B A F)(h1:∀ u∈F,u.oneCell'=true)
 (O:n+m<=9223372036854775807)(Z:(n+m)*bytes<=140737488355328)(V:base<=w.heap.size)
 (U:∀ h d w',w'.ownsRow base e size (.slice h (n+m) d) (n+m) (xs++F)->w.grownBy w' v.ownBlock ->
   ((Value.slice h (n+m) d).ownBlock=v.ownBlock\/(Value.slice h (n+m) d).ownBlock=some w.heap.size)->n+m<=d->K (a.put o.dst (.slice h (n+m) d)) w'):o.wp P a w K Q:=by
 obtain⟨h,d,w',aE,h2,G,I,J⟩:=OS (P:=P) w base t o.type e i z size bytes ht hi hz aG W aK aH v n xs aC B A m c F hl hr h1 O Z V;unfold Oper.wp;simp[execOp,aB,resolve,invoke,builtin,hs,hx,aE,Result.andThen];exact U _ _ _ h2 G I J
noncomputable def nD(size:Nat)(SS:List aFM)(s c:Int)(n:Nat):aFJ:=uV (aG size SS) (bC size SS) size s c n
theorem Q7(size:Nat)(SS:List aFM)(s c:Int)(n:Nat):(nD size SS s c n).Len:=aDf _ _ _ _ _ _
structure aF3(w:World)(N:Nat)(F:Nat->aFJ)(gr gf:Nat)(s c len:Int)(A:Option Addr)(cap:Nat)(ns:List Nat)(fr:Int)(pc:List Value):Prop where
 head:Blk w gr 94 (bQ pc gf s c len (.slice A ns.length cap) fr)
 pcl:pc.length=20
 own:w.ownsRow N 163 21 (.slice A ns.length cap) ns.length (iL F ns)
 lo:N<=gr
theorem aF3.later{w w':World}{N:Nat}{F:Nat->aFJ}{gr gf:Nat}{s c len:Int}{A:Option Addr}{cap:Nat}{ns:List Nat}{fr:Int}{pc:List Value}(h:aF3 w N F gr gf s c len A cap ns fr pc)(hb:Below w.heap.size w w'):aF3 w' N F gr gf s c len A cap ns fr pc :=
 ⟨h.head.below hb h.head.lt,h.pcl,cU h.own hb,h.lo⟩
def pQ:Option Addr->List Nat
 | none=>[]
 | some a=>[a.block]
theorem AJ{A:Option Addr}{x:Nat}(h:x∈pQ A):∃ ad,A=some ad/\ad.block=x:=by
 cases A with
 | none=>simp[pQ]at h
 | some a=>exact⟨a,rfl,(aGx.1 h).symm⟩
def zK(wB w:World)(size:Nat)(SS:List aFM)(gx gc gd gs gf:Nat)(Ai:Option Addr)(gm K:Nat)(ff:Int)(N gr:Nat)(s c len:Int)(A:Option Addr)(ns:List Nat)(fr:Int)(n:Nat)(e:Ending)(w':World):Prop :=
 ∃ d h t,e=.returned (.pointer (some ⟨d,0,none⟩))/\aF3 w' N (nD size SS s c) gr gf s c len (some ⟨d,0,none⟩) h (lS n ns) (fr+(jA n ns:Nat)) t/\(A=some ⟨d,0,none⟩\/w.heap.size<=d) /\
  aFL (gc::gs::gd::gf::gr::pQ A) w w'/\∃ z v',aFO wB w' (bC size SS) size (aG size SS) gx gc gd gs gf Ai gm (K+97) z v' (ff+(jA n ns:Nat)) 0
theorem KK{SS:List aFM}{wB w:World}{size gx gc gd gs gf:Nat}{Ai:Option Addr}{gm K:Nat}{rd:Int}{v:aFN}{ff:Int}{N gr:Nat}{s c len:Int}{A:Option Addr}{cap:Nat}{ns:List Nat}{fr:Int}{pc:List Value}(hC:aFY size SS)
 (h:aFO wB w (bC size SS) size (aG size SS) gx gc gd gs gf Ai gm K rd v ff 0)(hA:aF3 w N (nD size SS s c) gr gf s c len A cap ns fr pc)(d2:ns.length<=4)(t:K+97<=1000000000000000)(dY:0<=fr/\fr<=1000000000000000)(n:Nat)
 (hE:bR (aG size SS) s c n=0)(dV:aFQ (nD size SS s c n))(hN:wB.heap.size<=N)(cP:∀ ad,Ai=some ad->ad.block<N):
  Calls prog 75 #[.pointer (some ⟨gr,0,none⟩),.int .i64 n] w (zK wB w size SS gx gc gd gs gf Ai gm K ff N gr s c len A ns fr n):=by
 obtain⟨i0,hi,⟨z0,bL,fX⟩,bK,fP⟩:=Q9;have bU:=hid (aD1 hC h hA.head hA.pcl (aGE hN hA.lo) t dY n hE dV (fun ad had=>by have:=cP ad had;have:=hA.lo;omega));unfold aAb at bU;obtain⟨TP,cV⟩:∃ TP,zK wB w size SS gx gc gd gs gf Ai gm K ff N gr s c len A ns fr n=TP:=⟨_,rfl⟩;have HP:=hid (show ∀ e w',zK wB w size SS gx gc gd gs gf Ai gm K ff N gr s c len A ns fr n e w'->TP e w' from fun _ _ h=>cV▸h);rw[cV];unfold zK at HP;have HF:=hid (fun k=>Q7 size SS s c k);rw[show uV (aG size SS) (bC size SS) size s c (n:Int)=nD size SS s c n from rfl]at bU;clear cV;generalize bC size SS=bs at *
 generalize aG size SS=D at *
 generalize nD size SS s c=F at *
 have HA:=hid hA;have HH:=hid h;have HN:=hid hN;have b8:=hid cP;have f7:=hid d2;obtain⟨m,hm⟩:∃ m,ns.length=m:=⟨_,rfl⟩;have Hm:=hid hm;rw[hm]at bU;have hd:=hA.head;rw[hm]at hd;have Hd:=hid hd;have aB:=hid (show w.ownsRow N 163 21 (.slice A m cap) m (iL F ns) by rw[<-hm];exact hA.own);have f4:w.cell? ⟨gr,57,none⟩=some (.slice A m cap):=(hd.cell 57).trans (cS hA.pcl gf s c len _ fr 4);have f6:=hid (show (prog.info? 163).map (·.size)=some 21 from gG);have gL:m<=4:=by omega
 clear hA h d2 t dY hE dV hN cP hm hd hC;go_enter func75,ntmps75;go_wp2_with fail
 go_loopw [13] (fun i wr=>∃ k:Nat,k<=m/\i=.int .i64 k/\(∀ j,j<k->ns[j]?≠some n)/\wr=w) (fun i _=>m-(intOf i).toNat)
 case atStart=>exact⟨0,aG3 _,rfl,fun j h=>absurd h (Nat.not_lt_zero _),rfl⟩
 case round =>
  obtain⟨k,hk,rfl,hq,rfl⟩:=hrel;have Hq:=hid hq;clear hq
  by_cases hlt:k<m
  ·have t1:(k:Int)<(m:Int):=by omega
   have t2:(0:Int)<=(k:Int):=by omega
   obtain⟨x,hx⟩:=aE (k:=k) Hm.out hlt;obtain⟨gA,cp,V,fJ,fO,fS,dX⟩:=UG aB.out (by omega);injection V with e1 _ e3
   subst e1 e3;obtain⟨old,cW,d4,cZ,d3⟩:=aAu aB.out;have HO:=hid cW;have a4:=hid d4;have cF:=hid d3;have dH:=hid cZ;have Hx:=hid hx;have dE:=hid (fun (W:World) (hW:Below wr.heap.size wr W) (j:Nat) y (hy:(eN (F x) (x:Int))[j]? = some y)=>(show W.cell? ⟨gA,k*21+j,none⟩=some y from by
    have hj:j<21:=by have:=(aGi.1 hy).1;rwa [iK (HF.out x)]at this
    have h1:=aA0 HF.out hx hj;rw[hy,<-cZ,aHe,FN (by omega)]at h1;exact (hW.cell (p:=⟨gA,k*21+j,none⟩) fO).trans ((Blk.cell cW _).trans h1)))
   have c0:wr.cell? ⟨gA,k*21,none⟩=some (.int .i64 x):=dE.out wr (aGj _ _) 0 _ rfl;clear fJ cW d4 cZ hx d3
   by_cases c3:x=n
   ·subst c3;have u1:((x:Int) == (x:Int))=true:=beq_self_eq_true _;obtain⟨d,aD⟩:∃ d,eN (F x) (x:Int)=d:=⟨_,rfl⟩;have aM:d.length=21:=by rw[<-aD];exact iK (HF.out x) _
    have bV:=hid (show ∀ v∈d,v.oneCell'=true by rw[<-aD];exact pP _ _);have cC:=hid (show d.toArray.all (·.oneCell')=true by
     rw[aGY];intro v V;exact bV.out v (by simpa using V))
    have a1:=hid (show d.toArray.size=21 by rw[aGH,aM]);have aV:=hid (show (prog.info? 163).map (·.size)=some d.toArray.size by rw[aGH,aM];exact gG);have dB:=hid (show (prog.info? 163).map (·.size)=some d.length by rw[aM];exact gG);have eL:=hid (fun (j:Nat) y (hy:d[j]? = some y)=>dE.out wr (aGj _ _) j y (by rw[aD];exact hy));have bG:=hid aM;have cD:=hid aD;obtain⟨G,b2⟩:∃ G,wr.alloc (.cells d.toArray 163)=G:=⟨_,rfl⟩;have B1:=hid (show Below wr.heap.size wr G by rw[<-b2];exact aP wr _);have L1:=hid (show G.heap[wr.heap.size]? = some (.cells d.toArray 163 (0,0)) by rw[<-b2];exact LT wr _);have eS:=hid b2;clear aM aD b2;go_wp2_with (first|(refine aL rfl 163 (.tmp 31) rfl gA (k*21) rfl d _ eL.out underlying163 rfl dB.out ?_)|(refine aA rfl 163 (.tmp 6) (.tmp 32) rfl wr.heap.size rfl _ _ d.toArray rfl (LT wr _) aV.out (by rw[a1.out];rfl) cC.out ?_;rw[aGT,eS.out]))
    obtain⟨PD,a6⟩:∃ PD:World->Prop,PD=fun W=>Blk W gr 94 (bQ pc gf s c len (.slice (some ⟨gA,0,none⟩) m cap) fr):=⟨_,rfl⟩
    have dA:=hid (show PD wr by rw[a6];exact Hd.out);have bF:=hid (show ∀ W W',PD W->Below W.heap.size W W'->PD W' by rw[a6];exact fun W W' h hb=>Blk.below h hb h.lt);have dC:=hid (show ∀ W W',PD W->aFL [gA] W W'->gr≠gA->PD W' by rw[a6];exact fun W W' h hO hn=>hO.heap h (by simpa using hn));have aX:=hid (show ∀ W,PD W->W.cell? ⟨gr,57,none⟩=some (.slice (some ⟨gA,0,none⟩) m cap) by rw[a6];exact fun W h=>(Blk.cell h 57).trans (cS HA.out.pcl gf s c len _ fr 4));have eI:=hid (show ∀ W,PD W->Blk W gr 94 (bQ pc gf s c len (.slice (some ⟨gA,0,none⟩) m cap) fr) by rw[a6];exact fun W h=>h);have eE:=hid (show ∀ U,PD U->U.heap[gA]? = some (.cells (aW (aW old 21 (old.take (k*21))) 0 d).toArray 163 (0,0))->aFL [gA] wr U->TP (.returned (.pointer (some ⟨gA,0,none⟩))) U from fun U fC fE b0=>by
     have d0:(k+1)*21<=m*21:=aHq _ hlt;have a7:(old.take (k*21)).length=k*21:=by rw[aGB,aHM (by have:=a4.out;omega)]
     have dT:(aW old 21 (old.take (k*21))).length=old.length:=by rw[dG (by rw[a7];have:=a4.out;omega)]
     have fH:0+d.length<=(aW old 21 (old.take (k*21))).length:=by rw[dT,bG.out,cF.out];omega
     obtain⟨a8,a9⟩:=aD9 Hx.out Hq.out;have aY:(lS x ns).length=m:=by rw[a8,List.length_cons,aGG,aGB,aHV,Hm.out];omega
     refine HP.out _ _ ⟨gA,cap,pc,rfl,⟨?_,HA.out.pcl,⟨?_,.inr ⟨gA,cap,(aW (aW old 21 (old.take (k*21))) 0 d).toArray,?_,?_,fE,?_,?_,?_,?_⟩⟩,HA.out.lo⟩,.inl rfl,?_,rd,v,?_⟩
     ·rw[aY,a9,show fr+((0:Nat):Int)=fr by omega];exact eI.out U fC
     ·rw[zS HF.out]
     ·rw[aY]
     ·exact bO aB.out gA rfl
     ·rw[aY];exact fS
     ·simpa only[maxLen] using dX
     ·rw[aGH,dG fH,dT,cF.out]
     ·rw[List.toList_toArray,aY,YI a4.out hlt bG.out,a8,gD,KI,<-wA HF.out,<-v8 HF.out,dH.out,cD.out]
     ·exact b0.more (fun y hy=>by rw[aGx.1 hy];simp[pQ])
     ·rw[a9,show ff+((0:Nat):Int)=ff by omega];exact (HH.out.apart (r:=gA) (xs:=old) HO.out (by decide) (by decide) (by decide) (by decide) (by decide) (aGE HN.out (bO aB.out gA rfl)) (fun ad had=>by have h1:=b8.out ad had;have h2:=bO aB.out gA rfl;omega) b0).more (by omega))
    have v1:IntKind.i64.wrap ((k:Int)+1)=(k:Int)+1:=aGl _ (by omega);have v2:(1:Int)<=(k:Int)+1:=by omega
    have v3:(k:Int)+1<=(cap:Int):=by omega
    have v4:(k:Int)<=(cap:Int):=by omega
    have fK:cap=1\/¬ cap=1:=by omega
    clear a6;rcases fK with rfl|gI
    all_goals
     have xk:=fun (z:GW G)=>aX.out z.1 (bF.out G z.1 (bF.out wr G dA.out B1.out) z.2)
     refine aJ 13 (by kernel_rfl) (by kernel_rfl) ?_;simp only[List.take_succ_cons,List.take_zero,aGO,aGR]
     repeat (go_big_quiet_step (fail))
     refine aGv ?_;intro w2 bA;have B2:=hid (aC B1.out (aQ bA));have L2:=hid (aF L1.out (aQ bA));have O2:=hid (show w2.heap[gA]? = some (.cells old.toArray 163 (0,0)) from aF HO.out B2.out);clear bA xk;have d0:(k+1)*21<=m*21:=aHq _ hlt;have a7:(old.take (k*21)).length=k*21:=by rw[aGB,aHM (by have:=a4.out;omega)]
     have d6:(aW old 21 (old.take (k*21))).length=old.length:=by rw[dG (by rw[a7];have:=a4.out;omega)]
     have eH:=hid d6;obtain⟨w3,b4⟩:∃ w3,w2.setRow gA (aW old 21 (old.take (k*21))).toArray=w3:=⟨_,rfl⟩;have C2:=hid (show ∀ ty o c' cc,(o=21\/(o=0/\k=0))->(Builtin.copy_ #[92,92] ty #[.slice (some ⟨gA,o,none⟩) k c',.slice (some ⟨gA,0,none⟩) k cc]).run prog w2=.ok (goInt (Nat.min k k)) w3 from fun ty o c' cc ho=>by
      have he:aW old 21 (old.take (k*21))=aW old o (old.take (k*21)):=by
       rcases ho with rfl|⟨rfl,h0⟩
       ·rfl
       ·rw[h0,aIk,List.take_zero,IL,IL]
      rw[<-b4,he];refine OT (P:=prog) w2 _ _ ty 163 gA o _ _ ⟨gA,0,none⟩ _ _ 21 163 old (old.take (k*21)) underlying92 gG ?_ O2.out ?_ ?_ ?_
      ·have:Nat.min k k=k:=Nat.min_self k;rw[a7,this]
      ·intro j v hj;rw[show (⟨gA,0,none⟩:Addr).add j=⟨gA,j,none⟩ from aAU gA j];rw[aHe]at hj;split at hj
       ·exact (Blk.cell O2.out j).trans hj
       ·cases hj
      ·rw[a7];have:=a4.out;omega
      ·intro v V;have e1:old.take (k*21)=(iL F ns).take (k*21):=by rw[<-dH.out,aJY,aHM (by omega)]
       rw[e1]at V;exact KJ v (aIJ V))
     have cE:=hid (show wr.heap.size≠gA/\gr≠gA from ⟨by omega,fun e=>by
      have h1:=Hd.out;rw[e]at h1;exact absurd e.symm (by have:=cO (xs:=old) HO.out Hd.out (by decide);omega)⟩)
     have O3:=hid (show w3.heap[gA]? = some (.cells (aW old 21 (old.take (k*21))).toArray 163 (0,0)) by rw[<-b4];exact aHK _ _ _ _ _ _ O2.out);have N3:=hid (show aFL [gA] w2 w3 by rw[<-b4];exact aFL.rowSet _ _ _);have L3:=hid (N3.out.heap L2.out (by simp only[aGx];exact cE.out.1));have D3:=hid (dC.out w2 w3 (bF.out wr w2 dA.out B2.out) N3.out cE.out.2);clear d0 a7 d6 b4
     first
     | have Z:=C2.out 3 0 0 1 (.inr ⟨rfl,by omega⟩)
     | have Z:=C2.out 3 21 (cap-1) cap (.inl rfl)
     go_wp2_with fail
     clear Z;have xk:=fun (z:GW w3)=>aX.out z.1 (bF.out w3 z.1 D3.out z.2)
     have P0:=eW L3.out;have v5:(0:Int)<(m:Int):=by omega
     refine aJ 6 (by kernel_rfl) (by kernel_rfl) ?_;simp only[List.take_succ_cons,List.take_zero,aGO,aGR]
     repeat (first|(go_big_quiet_want;refine bT 163 (.tmp 6) rfl wr.heap.size rfl _ d.toArray _ _ P0 underlying163 rfl aV.out ?_;go_simp;go_big_quiet_on)|go_big_quiet_step (fail))
     refine aGv ?_;intro w4 bA;have B4:=hid (aQ bA);have O4:=hid (show w4.heap[gA]? = some (.cells (aW old 21 (old.take (k*21))).toArray 163 (0,0)) from aF O3.out B4.out);clear bA xk P0;obtain⟨U,b5⟩:∃ U,w4.setRow gA (aW (aW old 21 (old.take (k*21))) 0 d).toArray=U:=⟨_,rfl⟩;have O5:=hid (show U.heap[gA]? = some (.cells (aW (aW old 21 (old.take (k*21))) 0 d).toArray 163 (0,0)) by rw[<-b5];exact aHK _ _ _ _ _ _ O4.out);have N5:=hid (show aFL [gA] w4 U by rw[<-b5];exact aFL.rowSet _ _ _);have D5:=hid (dC.out w4 U (bF.out w3 w4 D3.out B4.out) N5.out cE.out.2);have eU:=hid b5;have x5:=aX.out U D5.out;have eK:=hid (show 0+d.length<=(aW old 21 (old.take (k*21))).length by rw[eH.out,bG.out,cF.out];omega);clear b5;go_wp2_with (refine cH rfl 163 (.tmp 52) (.tmp 51) rfl gA 0 rfl 163 (aW old 21 (old.take (k*21))) d rfl O4.out dB.out eK.out bV.out ?_;rw[eU.out])
     have b0:aFL [gA] wr U:=(((aFL.of_below [gA] B2.out).trans N3.out).trans (aFL.of_below _ B4.out)).trans N5.out;exact eE.out U D5.out O5.out b0
   ·have u1:((x:Int) == (n:Int))=false:=aG8.2 (by omega);have eY:=hid c3;clear c3;go_wp2_with fail
    go_roundw
    case rel=>exact⟨k+1,by omega,by go_num,fun j hj=>by
     by_cases fQ:j=k
     ·subst fQ;rw[Hx.out];intro he;exact eY.out (aG7 he)
     ·exact Hq.out j (by omega),trivial⟩
    case measure=>simp[intOf];omega
  ·have t1:¬ (k:Int)<(m:Int):=by omega
   obtain rfl:m=k:=by omega
   clear f4;obtain⟨r,hr⟩:∃ r,min m 3=r:=⟨_,rfl⟩;have t3:min (m:Int) 3=(r:Int):=by omega
   have gM:r<=3/\r<=m:=by omega
   have Hr:=hid hr;clear hr;go_wp2_with (go_at_call 121;fail)
   refine bU.out.mono ?_;rintro e G ⟨rfl,dU,cR,f0,v1,dS⟩;have R1:=hid dU;have O1:=hid cR;have K1:=hid dS;have fA:=hid (IE aB.out cR (fun ad had=>by
    obtain⟨cd,fL⟩:=HH.out.cache.disk.blk;have n1:=uL aB.out HH.out.cache.cache.head (by decide) ad had;have n2:=uL aB.out HH.out.cache.cache.slots (by decide) ad had;have n3:=uL aB.out fL (by decide) ad had;have n4:=uL aB.out HH.out.head (by decide) ad had;have n5:=uL aB.out Hd.out (by decide) ad had;simp only[aGw,aGV,aGS];omega))
   clear dU cR dS;obtain⟨d,aD⟩:∃ d,eN (F n) (n:Int)=d:=⟨_,rfl⟩;rw[aD];have aM:d.length=21:=by rw[<-aD];exact iK (HF.out n) _
   have bV:=hid (show ∀ v∈d,v.oneCell'=true by rw[<-aD];exact pP _ _);have cC:=hid (show d.toArray.all (·.oneCell')=true by
    rw[aGY];intro v V;exact bV.out v (by simpa using V))
   have a1:=hid (show d.toArray.size=21 by rw[aGH,aM]);have aV:=hid (show (prog.info? 163).map (·.size)=some d.toArray.size by rw[aGH,aM];exact gG);obtain⟨w2,b3⟩:∃ w2,G.alloc (.cells d.toArray 163)=w2:=⟨_,rfl⟩;have B2:=hid (show Below G.heap.size G w2 by rw[<-b3];exact aP G _);have R2:=hid (R1.out.below B2.out R1.out.lt);have K2:=hid (K1.out.later B2.out);have cK:=hid (cU fA.out B2.out);have eT:=hid b3;have e7:=hid (show w2.heap[G.heap.size]? = some (.cells d.toArray 163 (0,0)) by rw[<-b3];exact LT G _);have bG:=hid aM;have cD:=hid aD;clear b3 aD aM;go_wp2_with (refine aA rfl 163 (.tmp 7) (.tmp 61) rfl G.heap.size rfl _ _ d.toArray rfl (LT G _) aV.out (by rw[a1.out];rfl) cC.out ?_;rw[aGT,eT.out])
   have dX:=oZ cK.out;have d1:(iL F (ns.take 3)).length=r*21:=by rw[zS HF.out,aGB,Hm.out,<-Hr.out,Nat.min_comm]
   have eG:=hid d1;have eJ:=hid (show Row w2 w2.heap.size A (iL F (ns.take 3)) from fun j y hy=>by
    refine Row.of_own cK.out j y ?_;rw[<-wA HF.out,aHe]at hy;split at hy
    ·exact hy
    ·cases hy)
   have dD:=hid (fun (W W':World) (hW:Below w2.heap.size w2 W) (hg:W.grownBy W' (some w2.heap.size))=>(show Blk W' gr 94 (bQ (c9 (F n)) gf s c len (.slice A m cap) (fr+1)) from Blk.grown (R2.out.below hW R2.out.lt) hg (fun e=>by have h1:=R2.out.lt;injection e with e;omega)));have aX:=hid (rQ (HF.out n));have bS:=hid (aGE HA.out.lo (aHv R2.out.lt));have t4:(0:Int)<=(r:Int):=by omega
   have t5:(r:Int)<=(cap:Int):=by omega
   have eA:w2.cell? ⟨gr,57,none⟩=some (.slice A m cap):=(R2.out.cell 57).trans (cS aX.out gf s c len _ (fr+1) 4);clear d1;obtain⟨a8,a9⟩:=aCl (n:=n) (ns:=ns) (by rw[Hm.out];exact Hq.out);have aY:(lS n ns).length=1+r:=by rw[a8,List.length_cons,aGB,Hm.out];have:=Hr.out;omega
   have eD:=hid (show ∀ O Z I wz gn,Below w2.heap.size w2 I->w2.heap.size<=gn->I.heap[gn]? = some (.cells d.toArray 163 (0,0))->I.grownBy wz (some gn)->wz.ownsRow N 163 21 (.slice (some ⟨O,0,none⟩) (1+r) Z) (1+r) (d++iL F (ns.take 3))->gn<=O->TP (.returned (.pointer (some ⟨O,0,none⟩))) (wz.setCell ⟨gr,57,none⟩ (.slice (some ⟨O,0,none⟩) (1+r) Z)) from fun O Z I wz gn bZ gK fN cX fV dZ=>by
    have r2:=R2.out.lt;have r1:=R1.out.lt;have gU:=bZ.size;have dW:Blk wz gr 94 (bQ (c9 (F n)) gf s c len (.slice A m cap) (fr+1)):=Blk.grown (R2.out.below bZ r2) cX (fun e=>by injection e with e;omega);have fG:Blk (wz.setCell ⟨gr,57,none⟩ (.slice (some ⟨O,0,none⟩) (1+r) Z)) gr 94 (bQ (c9 (F n)) gf s c len (.slice (some ⟨O,0,none⟩) (1+r) Z) (fr+1)):=by
     have h:=dW.set_ 57 (.slice (some ⟨O,0,none⟩) (1+r) Z)
     rwa [NT aX.out]at h
    have fF:aFL [gn] I wz:=aFL.of_grown cX (aGx.2 rfl);have cT:aFL [gr] wz (wz.setCell ⟨gr,57,none⟩ (.slice (some ⟨O,0,none⟩) (1+r) Z)):=aFL.cellSet _ _ _ _;have gH:=O1.out.size;have gF:=B2.out.size;refine HP.out _ _ ⟨O,Z,c9 (F n),rfl,⟨?_,aX.out,?_,HA.out.lo⟩,.inr (by omega),?_,f0,v1,?_⟩
    ·rw[aY,a9];exact fG
    ·rw[aY,a8,gD,cD.out];exact IE fV cT (fun ad had=>by
      injection had with had
      rw[<-had,aGx];show ¬ O=gr;omega)
    ·have h0:aFL (gc::gs::gd::gf::gr::pQ A) wr I:=((O1.out.more (by simp)).trans (aFL.of_below _ B2.out)).trans (aFL.of_below _ bZ);exact (h0.grown cX (fun k hk=>by injection hk with hk;omega)).trans (cT.more (by simp))
    ·rw[a9];have k9:=(K2.out.later bZ).apart (r:=gn) (xs:=d) fN (by decide) (by decide) (by decide) (by decide) (by decide) (by have:=HN.out;have:=bS.out;omega) (fun ad had=>by have:=b8.out ad had;have:=bS.out;omega) fF;exact k9.apart dW (by decide) (by decide) (by decide) (by decide) (by decide) (aGE HN.out HA.out.lo) (fun ad had=>by have:=b8.out ad had;have:=HA.out.lo;omega) cT)
   clear a8 a9 aY;have eC:=hid (fun W W' hW hg=>((dD.out W W' hW hg).cell 57).trans (cS aX.out gf s c len _ (fr+1) 4));have eF:=hid (fun W W' hW hg=>(dD.out W W' hW hg).frozen 57);obtain⟨J,b6⟩:∃ J,w2.drew=J:=⟨_,rfl⟩;have B8:=hid (show Below w2.heap.size w2 J by rw[<-b6];exact (aGj w2.heap.size w2).drew);have bI:=hid (show w2.heap.size=J.heap.size by rw[<-b6];rfl);have eV:=hid b6;have X8:=hid (show J.heap[G.heap.size]? = some (.cells d.toArray 163 (0,0)) from aF e7.out B8.out);obtain⟨I,bB⟩:∃ I,J.alloc (.cells d.toArray 163)=I:=⟨_,rfl⟩;have B9:=hid (show Below J.heap.size J I by rw[<-bB];exact aP J _);have dK:=hid (show I.heap.size=J.heap.size+1 by rw[<-bB];simp);have eP:=hid (show N<=I.heap.size by have:=bS.out;have:=dK.out;have:=bI.out;omega);have eQ:=hid (show I.ownsRow N 163 21 (.slice (some ⟨J.heap.size,0,none⟩) 1 1) 1 d by rw[<-bB];exact UF 163 bG.out (by have:=bS.out;have:=bI.out;omega));have eR:=hid (eJ.out.later (aC B8.out B9.out));have eM:=hid (fun W' (hg:I.grownBy W' (some J.heap.size))=>eC.out I W' (aC B8.out B9.out) (by rw[bI.out];exact hg));have eO:=hid (fun W' (hg:I.grownBy W' (some J.heap.size))=>eF.out I W' (aC B8.out B9.out) (by rw[bI.out];exact hg));have dJ:=hid (show J.cell? ⟨gr,57,none⟩=some (.slice A m cap) from (B8.out.cell (p:=⟨gr,57,none⟩) R2.out.lt).trans eA);have eX:=hid (show I.cell? ⟨gr,57,none⟩=some (.slice A m cap) from (B9.out.cell (p:=⟨gr,57,none⟩) (aGM R2.out.lt B8.out.size)).trans dJ.out);have H9:=hid (show I.heap[J.heap.size]? = some (.cells d.toArray 163 (0,0)) by rw[<-bB];exact LT J _);have bX:=hid bB;clear b6 bB eA;have fM:(A=none/\m=0/\cap=0)\/∃ gA,A=some ⟨gA,0,none⟩:=by
    rcases cK.out.2 with ⟨V,fR⟩|⟨gA,cp,f9,V,_⟩
    ·injection V with e1 e2 e3
     exact .inl ⟨e1,fR,e3⟩
    ·injection V with e1 _ e3
     exact .inr ⟨gA,e1⟩
   have f3:min (0:Int) 3=0:=by decide
   have d9:m=0->r=0:=fun h=>by omega
   rcases fM with ⟨rfl,rfl,rfl⟩|⟨gA,rfl⟩
   rotate_left
   clear f3
   rotate_left
   obtain rfl:=d9 rfl;clear t3
   all_goals clear d9
   all_goals
    refine aIf (by kernel_rfl) ?_;change wpAny _ _ _ _ _ _ _ (World.drew _);rw[eV.out];have x8:=dJ.out;have x9:=eX.out;refine aGI (i:=0) (v:=?_) rfl (by kernel_rfl) (by kernel_rfl) (by kernel_rfl) (fun _ _ _ h=>h) (Or.inl ⟨by rfl,?_⟩) ?_
    rotate_left
    ·intro w;go_simp;try (with_reducible rfl)
    simp only[Act.put,List.getElem_toArray,List.getElem_cons_zero,aGK,List.set_cons_succ,List.set_cons_zero];refine aGI (i:=3) (v:=?_) rfl (by kernel_rfl) (by kernel_rfl) (by kernel_rfl) (fun _ _ _ h=>h) (Or.inl ⟨by rfl,?_⟩) ?_
    rotate_left
    ·intro w;go_simp;try (with_reducible rfl)
    simp only[Act.put,List.getElem_toArray,List.getElem_cons_succ,List.getElem_cons_zero,aGK,List.set_cons_succ,List.set_cons_zero];refine aGI (i:=4) (v:=?_) rfl (by kernel_rfl) (by kernel_rfl) (by kernel_rfl) (fun _ _ _ h=>h) (Or.inl ⟨by rfl,?_⟩) ?_
    rotate_left
    ·intro w;go_simp;try (with_reducible rfl)
    simp only[Act.put,List.getElem_toArray,List.getElem_cons_succ,List.getElem_cons_zero,aGK,List.set_cons_succ,List.set_cons_zero];refine aGI (i:=5) (v:=?_) rfl (by kernel_rfl) (by kernel_rfl) (by kernel_rfl) (fun _ _ _ h=>h) (Or.inl ⟨by rfl,?_⟩) ?_
    rotate_left
    ·intro w;go_simp;try (with_reducible rfl)
    simp only[Act.put,List.getElem_toArray,List.getElem_cons_succ,List.getElem_cons_zero,aGK,List.set_cons_succ,List.set_cons_zero];refine aGI (i:=7) (v:=?_) rfl (by kernel_rfl) (by kernel_rfl) (by kernel_rfl) (fun _ _ _ h=>h) (Or.inl ⟨by rfl,?_⟩) ?_
    rotate_left
    ·intro w;go_simp;try (with_reducible rfl)
    simp only[Act.put,List.getElem_toArray,List.getElem_cons_succ,List.getElem_cons_zero,aGK,List.set_cons_succ,List.set_cons_zero];refine aGI (i:=8) (v:=?_) rfl (by kernel_rfl) (by kernel_rfl) (by kernel_rfl) (fun _ _ _ h=>h) (Or.inl ⟨by rfl,?_⟩) ?_
    rotate_left
    ·intro w;go_simp;try (with_reducible rfl)
    simp only[Act.put,List.getElem_toArray,List.getElem_cons_succ,List.getElem_cons_zero,aGK,List.set_cons_succ,List.set_cons_zero];refine aGI (i:=9) (v:=?_) rfl (by kernel_rfl) (by kernel_rfl) (by kernel_rfl) (fun _ _ _ h=>h) (Or.inl ⟨by rfl,?_⟩) ?_
    rotate_left
    ·intro w;go_simp;try (with_reducible rfl)
    simp only[Act.put,List.getElem_toArray,List.getElem_cons_succ,List.getElem_cons_zero,aGK,List.set_cons_succ,List.set_cons_zero]
   all_goals first|(refine aHh (rs:=[1,6,10]) (by decide +kernel) (by simp) ?_;refine aGX rfl (fun K t=>?_) (aGX rfl (fun K t=>?_) (aGX rfl (fun K t=>?_) aHf)))
   all_goals
    first
    | refine aIX 163 (.tmp 7) rfl G.heap.size rfl 163 d.toArray _ _ X8.out underlying163 rfl aV.out ?_
    | refine mM 92 163 (.tmp 63) rfl i0 z0 21 underlying92 hi bL bK (by omega) (by omega) d.toArray rfl a1.out ?_
    | go_simp
    refine t _ _ ?_;clear t K
    try simp only[Act.put,List.getElem_toArray,List.getElem_cons_succ,List.getElem_cons_zero,aGK,List.set_cons_succ,List.set_cons_zero]
    try rw[bX.out]
    try
     refine aGI (i:=11) (v:=?_) rfl (by kernel_rfl) (by decide +kernel) (by decide +kernel) (fun _ _ _ h=>h) (Or.inl ⟨by rfl,?_⟩) ?_
     rotate_left
     ·intro w;go_simp;try (with_reducible rfl)
     try simp only[Act.put,List.getElem_toArray,List.getElem_cons_succ,List.getElem_cons_zero,aGK,List.set_cons_succ,List.set_cons_zero]
     refine aGI (i:=12) (v:=?_) rfl (by kernel_rfl) (by decide +kernel) (by decide +kernel) (fun _ _ _ h=>h) (Or.inl ⟨by rfl,?_⟩) ?_
     rotate_left
     ·intro w;go_simp;try (with_reducible rfl)
     try simp only[Act.put,List.getElem_toArray,List.getElem_cons_succ,List.getElem_cons_zero,aGK,List.set_cons_succ,List.set_cons_zero]
    try
     refine aGI (i:=13) (v:=?_) rfl (by kernel_rfl) (by decide +kernel) (by decide +kernel) (fun _ _ _ h=>h) (Or.inl ⟨by rfl,?_⟩) ?_
     rotate_left
     ·intro w;go_simp;try (with_reducible rfl)
     try simp only[Act.put,List.getElem_toArray,List.getElem_cons_succ,List.getElem_cons_zero,aGK,List.set_cons_succ,List.set_cons_zero]
   all_goals first|(refine aHh (rs:=[1,6]) (by decide +kernel) (by simp) ?_;refine aGX rfl (fun K t=>?_) (aGX rfl (fun K t=>?_) aHf))|(refine aHh (rs:=[1,10]) (by decide +kernel) (by simp) ?_;refine aGX rfl (fun K t=>?_) (aGX rfl (fun K t=>?_) aHf))|(refine aHh (rs:=[2,6,10]) (by decide +kernel) (by simp) ?_;refine aGX rfl (fun K t=>?_) (aGX rfl (fun K t=>?_) (aGX rfl (fun K t=>?_) aHf)))
   all_goals
    first
    | refine aIX 163 (.tmp 7) rfl G.heap.size rfl 163 d.toArray _ _ X8.out underlying163 rfl aV.out ?_
    | refine mM 92 163 (.tmp 63) rfl i0 z0 21 underlying92 hi bL bK (by omega) (by omega) d.toArray rfl a1.out ?_
    | go_simp
    refine t _ _ ?_;clear t K
    try simp only[Act.put,List.getElem_toArray,List.getElem_cons_succ,List.getElem_cons_zero,aGK,List.set_cons_succ,List.set_cons_zero]
    try rw[bX.out]
    try
     refine aGI (i:=11) (v:=?_) rfl (by kernel_rfl) (by decide +kernel) (by decide +kernel) (fun _ _ _ h=>h) (Or.inl ⟨by rfl,?_⟩) ?_
     rotate_left
     ·intro w;go_simp;try (with_reducible rfl)
     try simp only[Act.put,List.getElem_toArray,List.getElem_cons_succ,List.getElem_cons_zero,aGK,List.set_cons_succ,List.set_cons_zero]
     refine aGI (i:=12) (v:=?_) rfl (by kernel_rfl) (by decide +kernel) (by decide +kernel) (fun _ _ _ h=>h) (Or.inl ⟨by rfl,?_⟩) ?_
     rotate_left
     ·intro w;go_simp;try (with_reducible rfl)
     try simp only[Act.put,List.getElem_toArray,List.getElem_cons_succ,List.getElem_cons_zero,aGK,List.set_cons_succ,List.set_cons_zero]
    try
     refine aGI (i:=13) (v:=?_) rfl (by kernel_rfl) (by decide +kernel) (by decide +kernel) (fun _ _ _ h=>h) (Or.inl ⟨by rfl,?_⟩) ?_
     rotate_left
     ·intro w;go_simp;try (with_reducible rfl)
     try simp only[Act.put,List.getElem_toArray,List.getElem_cons_succ,List.getElem_cons_zero,aGK,List.set_cons_succ,List.set_cons_zero]
   all_goals first|(refine aHh (rs:=[1]) (by decide +kernel) (by simp) ?_;refine aGX rfl (fun K t=>?_) aHf)|(refine aHh (rs:=[2,6]) (by decide +kernel) (by simp) ?_;refine aGX rfl (fun K t=>?_) (aGX rfl (fun K t=>?_) aHf))|(refine aHh (rs:=[2,10]) (by decide +kernel) (by simp) ?_;refine aGX rfl (fun K t=>?_) (aGX rfl (fun K t=>?_) aHf))|(refine aHh (rs:=[6,10]) (by decide +kernel) (by simp) ?_;refine aGX rfl (fun K t=>?_) (aGX rfl (fun K t=>?_) aHf))
   all_goals
    first
    | refine aIX 163 (.tmp 7) rfl G.heap.size rfl 163 d.toArray _ _ X8.out underlying163 rfl aV.out ?_
    | refine mM 92 163 (.tmp 63) rfl i0 z0 21 underlying92 hi bL bK (by omega) (by omega) d.toArray rfl a1.out ?_
    | go_simp
    refine t _ _ ?_;clear t K
    try simp only[Act.put,List.getElem_toArray,List.getElem_cons_succ,List.getElem_cons_zero,aGK,List.set_cons_succ,List.set_cons_zero]
    try rw[bX.out]
    try
     refine aGI (i:=11) (v:=?_) rfl (by kernel_rfl) (by decide +kernel) (by decide +kernel) (fun _ _ _ h=>h) (Or.inl ⟨by rfl,?_⟩) ?_
     rotate_left
     ·intro w;go_simp;try (with_reducible rfl)
     try simp only[Act.put,List.getElem_toArray,List.getElem_cons_succ,List.getElem_cons_zero,aGK,List.set_cons_succ,List.set_cons_zero]
     refine aGI (i:=12) (v:=?_) rfl (by kernel_rfl) (by decide +kernel) (by decide +kernel) (fun _ _ _ h=>h) (Or.inl ⟨by rfl,?_⟩) ?_
     rotate_left
     ·intro w;go_simp;try (with_reducible rfl)
     try simp only[Act.put,List.getElem_toArray,List.getElem_cons_succ,List.getElem_cons_zero,aGK,List.set_cons_succ,List.set_cons_zero]
    try
     refine aGI (i:=13) (v:=?_) rfl (by kernel_rfl) (by decide +kernel) (by decide +kernel) (fun _ _ _ h=>h) (Or.inl ⟨by rfl,?_⟩) ?_
     rotate_left
     ·intro w;go_simp;try (with_reducible rfl)
     try simp only[Act.put,List.getElem_toArray,List.getElem_cons_succ,List.getElem_cons_zero,aGK,List.set_cons_succ,List.set_cons_zero]
   all_goals first|(refine aHh (rs:=[2]) (by decide +kernel) (by simp) ?_;refine aGX rfl (fun K t=>?_) aHf)|(refine aHh (rs:=[6]) (by decide +kernel) (by simp) ?_;refine aGX rfl (fun K t=>?_) aHf)|(refine aHh (rs:=[10]) (by decide +kernel) (by simp) ?_;refine aGX rfl (fun K t=>?_) aHf)
   all_goals
    first
    | refine aIX 163 (.tmp 7) rfl G.heap.size rfl 163 d.toArray _ _ X8.out underlying163 rfl aV.out ?_
    | refine mM 92 163 (.tmp 63) rfl i0 z0 21 underlying92 hi bL bK (by omega) (by omega) d.toArray rfl a1.out ?_
    | go_simp
    refine t _ _ ?_;clear t K
    try simp only[Act.put,List.getElem_toArray,List.getElem_cons_succ,List.getElem_cons_zero,aGK,List.set_cons_succ,List.set_cons_zero]
    try rw[bX.out]
    try
     refine aGI (i:=11) (v:=?_) rfl (by kernel_rfl) (by decide +kernel) (by decide +kernel) (fun _ _ _ h=>h) (Or.inl ⟨by rfl,?_⟩) ?_
     rotate_left
     ·intro w;go_simp;try (with_reducible rfl)
     try simp only[Act.put,List.getElem_toArray,List.getElem_cons_succ,List.getElem_cons_zero,aGK,List.set_cons_succ,List.set_cons_zero]
     refine aGI (i:=12) (v:=?_) rfl (by kernel_rfl) (by decide +kernel) (by decide +kernel) (fun _ _ _ h=>h) (Or.inl ⟨by rfl,?_⟩) ?_
     rotate_left
     ·intro w;go_simp;try (with_reducible rfl)
     try simp only[Act.put,List.getElem_toArray,List.getElem_cons_succ,List.getElem_cons_zero,aGK,List.set_cons_succ,List.set_cons_zero]
    try
     refine aGI (i:=13) (v:=?_) rfl (by kernel_rfl) (by decide +kernel) (by decide +kernel) (fun _ _ _ h=>h) (Or.inl ⟨by rfl,?_⟩) ?_
     rotate_left
     ·intro w;go_simp;try (with_reducible rfl)
     try simp only[Act.put,List.getElem_toArray,List.getElem_cons_succ,List.getElem_cons_zero,aGK,List.set_cons_succ,List.set_cons_zero]
   all_goals
    refine aHh (rs:=[14]) (by kernel_rfl) (by simp) ?_;refine aGX rfl (fun K t=>?_) aHf;refine aE3 _ _ _ (by rfl) N 163 i0 z0 21 168 underlying92 hi bL bK fP fX (by omega) (.slice (some ⟨J.heap.size,0,none⟩) 1 1) 1 d (by rfl) eQ.out I.heap.size _ _ _ (iL F (ns.take 3)) (by rfl) eG.out eR.out (fun u hu=>KJ u hu) (by omega) (by omega) eP.out ?_;intro A2 Z wz d5 cY fI gJ;obtain⟨O,c',V,_,_,_,_⟩:=UG d5 (by omega);injection V with e1 _ e3
    subst e1 e3;have dZ:J.heap.size<=O:=by
     have hz:=dK.out;rcases fI with h|h
     ·have:O=J.heap.size:=by simpa[Value.ownBlock] using h
      omega
     ·have:O=I.heap.size:=by simpa[Value.ownBlock] using h
      omega
    have cz:=eM.out _ cY;have fz:=eO.out _ cY;refine t _ _ ?_;clear t K
    try simp only[Act.put,List.getElem_toArray,List.getElem_cons_succ,List.getElem_cons_zero,aGK,List.set_cons_succ,List.set_cons_zero]
    refine aGI (i:=15) (v:=?_) rfl (by kernel_rfl) (by kernel_rfl) (by kernel_rfl) (fun _ _ _ h=>h) (Or.inl ⟨by rfl,?_⟩) ?_
    rotate_left
    ·intro w;go_simp;try (with_reducible rfl)
    simp only[Act.put,List.getElem_toArray,List.getElem_cons_succ,List.getElem_cons_zero,aGK,List.set_cons_succ,List.set_cons_zero];refine aGI (i:=16) (v:=?_) rfl (by kernel_rfl) (by kernel_rfl) (by kernel_rfl) (fun _ _ _ h=>h) (Or.inl ⟨by rfl,?_⟩) ?_
    rotate_left
    ·intro w;go_simp;try (with_reducible rfl)
    simp only[Act.put,List.getElem_toArray,List.getElem_cons_succ,List.getElem_cons_zero,aGK,List.set_cons_succ,List.set_cons_zero];refine aHh (rs:=[17]) (by kernel_rfl) (by simp) ?_;refine aGX rfl (fun K t=>?_) aHf;go_simp;refine t _ _ ?_;clear t K
    try simp only[Act.put,List.getElem_toArray,List.getElem_cons_succ,List.getElem_cons_zero,aGK,List.set_cons_succ,List.set_cons_zero]
    refine aJg (by kernel_rfl) ?_ _;go_wp2_with fail
    exact eD.out O Z _ _ J.heap.size (aC B8.out B9.out) (by rw[bI.out];exact LE _) H9.out cY d5 dZ
def BC:List Value:=List.replicate 20 (.int .i64 0)
theorem NJ(gf:Nat)(s c len:Int):prog.built 94 [(1,.agg dS),(2,.pointer (some ⟨gf,0,none⟩)),(3,.int .i64 s),(4,.int .i64 c),(5,.int .i64 len)]=some (bQ BC gf s c len (.slice none 0 0) 0).toArray:=by
 kernel_rfl
theorem mR{w:World}{gr gf:Nat}{s c len:Int}{d:Value}{fr:Int}{pc:List Value}(h:Blk w gr 94 (bQ pc gf s c len d fr))(t:pc.length=20):Calls prog 73 #[.pointer (some ⟨gr,0,none⟩)] w fun e w'=>e=.returned (.bool false)/\w=w':=by
 have z:w.cell? ⟨gr,53,none⟩=some (.pointer (some ⟨gf,0,none⟩)):=(h.cell 53).trans (cS t gf s c len d fr 0);clear h;go_enter func73,ntmps73;go_wp2
 go_ret
 exact⟨rfl,rfl⟩
theorem u7{w:World}{gr gf:Nat}{s c len:Int}{t:Value}{fr:Int}{pc:List Value}(h:Blk w gr 94 (bQ pc gf s c len t fr))(d:pc.length=20):Calls prog 32 #[.pointer (some ⟨gr,0,none⟩)] w fun e w'=>e=.returned (.int .i64 len)/\w=w':=by
 have z:=hid (mR h d);have F:w.cell? ⟨gr,56,none⟩=some (.int .i64 len):=(h.cell 56).trans (cS d gf s c len t fr 3);clear h;go_enter func32,ntmps32;go_wp2_with (go_at_call 73;refine z.out.mono ?_;rintro e w' ⟨rfl,rfl⟩)
 go_ret
 exact⟨rfl,rfl⟩
theorem JP{w:World}{gr gf:Nat}{s c len:Int}{t:Value}{fr:Int}{pc:List Value}(h:Blk w gr 94 (bQ pc gf s c len t fr))(d:pc.length=20):Calls prog 23 #[.pointer (some ⟨gr,0,none⟩)] w fun e w'=>e=.returned (.int .i64 fr)/\w=w':=by
 have z:=hid (mR h d);have F:w.cell? ⟨gr,59,none⟩=some (.int .i64 fr):=(h.cell 59).trans (cS d gf s c len t fr 6);clear h;go_enter func23,ntmps23;go_wp2_with (go_at_call 73;refine z.out.mono ?_;rintro e w' ⟨rfl,rfl⟩)
 go_ret
 exact⟨rfl,rfl⟩
theorem PP{w:World}{gr gf:Nat}{s c len:Int}{t:Value}{fr:Int}{pc:List Value}(h:Blk w gr 94 (bQ pc gf s c len t fr))(d:pc.length=20):Calls prog 33 #[.pointer (some ⟨gr,0,none⟩)] w fun e w'=>e=.returned (.int .i64 0)/\w=w':=by
 have z:w.cell? ⟨gr,20,none⟩=some (.int .i64 0):=(h.cell 20).trans (by
  unfold bQ;rw[aGP (by omega),d]
  rfl)
 clear h;go_enter func33,ntmps33;go_wp2
 go_ret
 exact⟨rfl,rfl⟩
theorem NU{pc:List Value}(h:pc.length=20)(gf:Nat)(s c len:Int)(d:Value)(fr:Int):(bQ pc gf s c len d fr).set 58 (.slice none 0 0)=bQ pc gf s c len d fr:=by
 unfold bQ;rw[aHA _ _ (by omega),h,show 58-20=37+1 by omega,List.set_cons_succ,aHA _ _ (by rw[gP];omega),gP]
 rfl
theorem FF{w:World}{gr gf:Nat}{s c len:Int}{d:Value}{fr:Int}{pc:List Value}(h:Blk w gr 94 (bQ pc gf s c len d fr))(t:pc.length=20):Calls prog 29 #[.pointer (some ⟨gr,0,none⟩)] w (fun e w'=>e=.returned (.slice none 0 0)/\aFL [gr] w w'/\Blk w' gr 94 (bQ pc gf s c len d fr)):=by
 have F:=hid (mR h t);have G:w.cell? ⟨gr,58,none⟩=some (.slice none 0 0):=(h.cell 58).trans (cS t gf s c len d fr 5);have f58:=h.frozen 58;have z:=hid (show Blk (w.setCell ⟨gr,58,none⟩ (.slice none 0 0)) gr 94 (bQ pc gf s c len d fr) by
  have h2:=h.set_ 58 (.slice none 0 0)
  rwa [NU t]at h2)
 clear h;go_enter func29,ntmps29;go_wp2_with (go_at_call 73;refine F.out.mono ?_;rintro e w' ⟨rfl,rfl⟩)
 go_ret
 exact⟨rfl,aFL.cellSet _ _ _ _,z.out⟩
def QB(w:World)(size:Nat)(SS:List aFM)(gf:Nat)(s c:Int)(e:Ending)(w':World):Prop :=
 Below w.heap.size w w'/\((i8 (aG size SS) s≠0/\e=.returned (.tuple #[.pointer none,.int .i64 (i8 (aG size SS) s)])) \/
  (i8 (aG size SS) s=0/\(c<0\/(fF (aG size SS) s).channels<=c)/\e=.returned (.tuple #[.pointer none,.int .i64 5])) \/
  (i8 (aG size SS) s=0/\0<=c/\c<(fF (aG size SS) s).channels/\∃ gr,e=.returned (.tuple #[.pointer (some ⟨gr,0,none⟩),.int .i64 0])/\w.heap.size<=gr/\Blk w' gr 94 (bQ BC gf s c (fF (aG size SS) s).length (.slice none 0 0) 0)))
theorem FG{SS:List aFM}{wB w:World}{size gx gc gd gs gf:Nat}{Ai:Option Addr}{gm K:Nat}{rd:Int}{v:aFN}{ff:Int}(hC:aFY size SS)(h:aFO wB w (bC size SS) size (aG size SS) gx gc gd gs gf Ai gm K rd v ff 0)(s c:Int):
  Calls prog 20 #[.pointer (some ⟨gf,0,none⟩),.int .i64 s,.int .i64 c] w (QB w size SS gf s c):=by
 obtain⟨TP,aK⟩:∃ TP,QB w size SS gf s c=TP:=⟨_,rfl⟩;have G:=hid (show ∀ e w',QB w size SS gf s c e w'->TP e w' from fun _ _ h=>aK▸h);rw[aK];unfold QB at G;have J:=hid (fun W (hW:Below w.heap.size w W)=>JQ (h.head.below hW h.head.lt));have O:=hid (pI gx size (bC size SS) (aG size SS) s w h.bankAt (by have:=hC.lo;omega) (by rw[dJ];have:=hC.many;omega));have HL:=hid GQ;clear aK;generalize aG size SS=D at *
 obtain⟨V,aU⟩:∃ V,i8 D s=V:=⟨_,rfl⟩;obtain⟨pm,aW⟩:∃ pm,fF D s=pm:=⟨_,rfl⟩;obtain⟨nm,I,rate,ch,lp,f,t,s0,f0⟩:=pm;rw[aU,aW]at G O;simp only[aFK.cells]at O G;have HT:=hid (NJ gf s c I);obtain⟨cl,aV⟩:∃ cl,bQ BC gf s c I (.slice none 0 0) 0=cl:=⟨_,rfl⟩;rw[aV]at HT G;generalize dS=lv at *
 clear h hC aU aW aV
 by_cases Z:V=0
 ·subst Z
  by_cases hc:c<0\/ch<=c
  ·have Hc:=hid hc;have d1:(c<0/\decide (c<0)=true)\/(¬ c<0/\decide (c<0)=false/\ch<=c/\decide (ch<=c)=true):=by
    by_cases h1:c<0
    ·exact .inl ⟨h1,aGs h1⟩
    ·exact .inr ⟨h1,aGm h1,by omega,aGs (by omega)⟩
   clear hc;rcases d1 with ⟨t1,t2⟩|⟨t1,t2,t3,t4⟩
   all_goals
    go_enter func20,ntmps20;go_wp2_with (first|(go_at_call 71;refine (J.out _ (aGj _ _)).mono ?_;rintro e w' ⟨rfl,rfl⟩)|(go_at_call 36;fail))
    refine O.out.mono ?_;rintro e d ⟨rfl,U⟩;have F:=hid (aC U (aP d (.cells #[.string nm,.int .i64 I,.int .i64 rate,.int .i64 ch,.bool lp,.int .i64 f,.int .i64 t,.int .i64 s0,.int .i64 f0] 101)));go_wp2_with (go_at_call 71;refine (J.out _ F.out).mono ?_;rintro e w' ⟨rfl,rfl⟩)
    exact G.out _ _ ⟨F.out,.inr (.inl ⟨by trivial,Hc.out,rfl⟩)⟩
  ·have Hc:=hid (show 0<=c/\c<ch by omega);have t1:¬ c<0:=by omega
   have t2:decide (c<0)=false:=aGm t1;have t3:¬ ch<=c:=by omega
   have t4:decide (ch<=c)=false:=aGm t3;clear hc;go_enter func20,ntmps20;go_wp2_with (first|(go_at_call 71;refine (J.out _ (aGj _ _)).mono ?_;rintro e w' ⟨rfl,rfl⟩)|(go_at_call 36;fail))
   refine O.out.mono ?_;rintro e d ⟨rfl,U⟩;obtain⟨w2,aM⟩:∃ w2,d.alloc (.cells #[.string nm,.int .i64 I,.int .i64 rate,.int .i64 ch,.bool lp,.int .i64 f,.int .i64 t,.int .i64 s0,.int .i64 f0] 101)=w2:=⟨_,rfl⟩;have F:=hid (show Below w.heap.size w w2 by rw[<-aM];exact aC U (aP d _));have X2:=hid (show Blk w2 d.heap.size 101 [.string nm,.int .i64 I,.int .i64 rate,.int .i64 ch,.bool lp,.int .i64 f,.int .i64 t,.int .i64 s0,.int .i64 f0] by rw[<-aM];exact Blk.new d _ _);have y3:w2.cell? ⟨d.heap.size,3,none⟩=some (.int .i64 ch):=X2.out.cell 3;clear U O;go_wp2_with (go_at_call 71;refine (J.out _ F.out).mono ?_;rintro e w' ⟨rfl,rfl⟩)
   have x1:=fun (z:GW w2)=>(show z.1.cell? ⟨d.heap.size,1,none⟩=some (.int .i64 I) from (z.2.cell (p:=⟨d.heap.size,1,none⟩) X2.out.lt).trans (X2.out.cell 1))
   refine aJ 6 (by kernel_rfl) (by kernel_rfl) ?_;simp only[List.take_succ_cons,List.take_zero,aGO,aGR]
   repeat (go_big_quiet_step ((go_at_call 72;exact bY (HL.out _))))
   refine aGv ?_;intro w3 aX;have B3:=hid (aC F.out (aQ aX));clear aX x1 aM;go_wp2_with (refine dP rfl 94 _ rfl cl.toArray (by simpa[Act.eval,Act.put] using HT.out) ?_)
   exact G.out _ _ ⟨aC B3.out (aP w3 _),.inr (.inr ⟨by trivial,Hc.out.1,Hc.out.2,w3.heap.size,rfl,B3.out.size,Blk.new w3 _ _⟩)⟩
 ·have t1:(V != 0)=true:=by rw[aHk];exact Z
  have t2:(V == 0)=false:=aG8.2 Z;have HE:=hid Z;clear Z;go_enter func20,ntmps20;go_wp2_with (first|(go_at_call 71;refine (J.out _ (aGj _ _)).mono ?_;rintro e w' ⟨rfl,rfl⟩)|(go_at_call 36;fail))
  refine O.out.mono ?_;rintro e d ⟨rfl,U⟩;have F:=hid (aC U (aP d (.cells #[.string nm,.int .i64 I,.int .i64 rate,.int .i64 ch,.bool lp,.int .i64 f,.int .i64 t,.int .i64 s0,.int .i64 f0] 101)));go_wp2_with (go_at_call 71;refine (J.out _ F.out).mono ?_;rintro e w' ⟨rfl,rfl⟩)
  exact G.out _ _ ⟨F.out,.inl ⟨HE.out,rfl⟩⟩
theorem uE{size:Nat}{SS:List aFM}(h:aFY size SS){m k n:Nat}{S:aFM}{d:List Int}(G:SS[m]? = some S)(F:S.rows[k]? = some d)(I:n<aS d.length):
  bR (aG size SS) m k n=0/\(bK d size)[n]? = some (nD size SS m k n)/\aFQ (nD size SS m k n):=by
 obtain⟨x,t⟩:∃ x,(bK d size)[n]? = some x:=⟨_,TT (by rw[eU];exact I)⟩;obtain⟨z,O,Z,U⟩:=h.opened G F t;obtain⟨V,J,W⟩:=h.had z;have e:nD size SS m k n=x:=by
  unfold nD uV;rw[FN z,<-J,O,U]
 refine⟨z,by rw[e];exact t,?_⟩;rw[e];exact (dO ((h.fine S (aGh G)).good.2 d (aGh F)).2 (size:=(size:Int)) (by have:=h.lo;omega) (by have:=h.hi;omega) x (aGh t)).1
def atV(F:Nat->aFJ)(len:Nat)(at_:Int):Int:=if 0<=at_/\at_<len then atZ F len at_.toNat else 0
def atN(len:Nat)(at_:Int)(ns:List Nat):List Nat:=if 0<=at_/\at_<len then lS (nI at_.toNat (aS len)) (lS (kR at_.toNat) ns) else ns
def atM(len:Nat)(at_:Int)(ns:List Nat):Nat:=if 0<=at_/\at_<len then jA (kR at_.toNat) ns+jA (nI at_.toNat (aS len)) (lS (kR at_.toNat) ns) else 0
theorem G7(n:Nat)(ns:List Nat):jA n ns<=1:=by unfold jA;split <;> omega
theorem aCM(len:Nat)(at_:Int)(ns:List Nat):atM len at_ ns<=2:=by
 unfold atM;split
 ·have h1:=G7 (kR at_.toNat) ns;have h2:=G7 (nI at_.toNat (aS len)) (lS (kR at_.toNat) ns);omega
 ·omega
theorem aAf(len:Nat)(at_:Int){ns:List Nat}(h:ns.length<=4):(atN len at_ ns).length<=4:=by
 unfold atN;split
 ·exact (I7 (I7 h).1).1
 ·exact h
theorem YJ{k len:Nat}(h:k<len):kR k<aS len/\nI k (aS len)<aS len/\(k / 16=kR k\/k / 16=nI k (aS len))/\k / 16<aS len:=by
 unfold kR nI aS;obtain⟨a,ha⟩:∃ a,k / 16=a:=⟨_,rfl⟩;obtain⟨c,z⟩:∃ c,(len+15) / 16=c:=⟨_,rfl⟩;have t:a<c:=by omega
 rw[ha,z]
 by_cases d:k % 16<8
 ·rw[FN d,FN d];exact⟨by omega,by omega,.inr rfl,t⟩
 ·rw[sL d,sL d];exact⟨t,by omega,.inl rfl,t⟩
theorem aFv{xs:List Int}{M N:Int}(h:BdL M xs)(z:xs.length=16)(d:M<=N):∀ j,j<16->-N<=bgt xs j/\bgt xs j<=N:=fun j t=>by
 have:=h j (by omega);omega
theorem GM(f:aFJ):∀ j,j<16->-1099511627776<=bgt (gI (bV f)) j/\bgt (gI (bV f)) j<=1099511627776 :=
 aFv (aAo (M:=2147483648) (N:=12884901948) (fO f) (fun j d=>IU f (by rw[fO]at d;exact d)) (by omega) (by omega)) (mA _) (by omega)
theorem aEj{w:World}{g:Nat}{f:aFJ}{n:Int}(h:∀ j v,(eN f n)[j]? = some v->w.cell? ⟨g,j,none⟩=some v)(d:g<w.heap.size):SixAt w g 1 (gI (bV f)):=by
 refine⟨mA _,d,fun j t=>h (1+j) _ ?_⟩;unfold eN;have z:=mA (bV f);rw[show 1+j=j+1 by omega,List.getElem?_cons_succ,aGU (by rw[aF7];omega),aF5,rI (by omega)]
 rfl
theorem aCT{w:World}{g:Nat}{f:aFJ}{n:Int}(h:∀ j v,(eN f n)[j]? = some v->w.cell? ⟨g,j,none⟩=some v):∀ (j:Nat) v,(f.gains.map (Value.int .i64))[j]? = some v->w.cell? ⟨g,17+j,none⟩=some v:=fun j v t=>by
 refine h (17+j) v ?_;unfold eN;have d:=mA (bV f);rw[show 17+j=(16+j)+1 by omega,List.getElem?_cons_succ,aGP (by rw[aF7];omega),aF7,d,show 16+j-16=j by omega];exact t
theorem RC{pc:List Value}(h:pc.length=20)(gf:Nat)(s c len:Int)(t:Value)(fr:Int){j:Nat}{v:Value}(d:dS.toList[j]? = some v):(bQ pc gf s c len t fr)[21+j]? = some v:=by
 have z:j<32:=by have:=(aGi.1 d).1;rwa [gP]at this
 unfold bQ;rw[aGP (by omega),h,show 21+j-20=j+1 by omega,List.getElem?_cons_succ,aGU (by rw[gP];omega)];exact d
theorem GN{w:World}{N g cap n:Nat}{F:Nat->aFJ}{ns:List Nat}(hF:(F n).Len)(h:w.ownsRow N 163 21 (.slice (some ⟨g,0,none⟩) (n::ns).length cap) (n::ns).length (iL F (n::ns))):∀ (j:Nat) v,(eN (F n) (n:Int))[j]? = some v->w.cell? ⟨g,j,none⟩=some v:=fun j v d=>by
 obtain⟨old,t,G,ht,_⟩:=aAu h;have z:j<21:=by have:=(aGi.1 d).1;rwa [iK hF]at this
 refine (Blk.cell t j).trans ?_;have h1:(iL F (n::ns))[j]? = some v:=by
  rw[gD,aGU (by rw[iK hF];exact z)];exact d
 rw[<-ht,aHe,FN (by rw[List.length_cons];omega)]at h1;exact h1
theorem MT(n:Nat)(ns:List Nat):∃ r,lS n ns=n::r:=by
 unfold lS;split
 ·exact⟨_,rfl⟩
 ·exact⟨_,rfl⟩
theorem YZ{f:aFJ}(h:aFQ f):GainB f.gains:=by
 refine⟨h.gains.1,?_⟩;unfold iW;rw[aGD];intro x t;obtain⟨j,d⟩:=aJT.1 t;have:=h.gains.2 j (by have:=(aGi.1 d).1;have:=h.gains.1;omega);rw[aD d]at this;unfold inB;simp;omega
theorem aFL.transNew{S T:List Nat}{a b c:World}(h:aFL S a b)(k:aFL T b c)(hT:∀ x∈T,x∈S\/a.heap.size<=x):aFL S a c :=
 ⟨k.os.trans h.os,k.tape.trans h.tape,k.output.trans h.output,aGE h.size k.size,fun j h1 h2=>(k.block j (aGM h1 h.size) (fun hm=>by
  rcases hT j hm with d|d
  ·exact h2 d
  ·omega)).trans (h.block j h1 h2)⟩
def AtP(wB w:World)(size:Nat)(SS:List aFM)(gx gc gd gs gf:Nat)(Ai:Option Addr)(gm K:Nat)(ff:Int)(N gr:Nat)(m k len:Nat)(A:Option Addr)(ns:List Nat)(fr:Int)(at_:Int)(e:Ending)(w':World):Prop :=
 e=.returned (.int .i64 (atV (nD size SS m k) len at_))/\∃ d h t,aF3 w' N (nD size SS m k) gr gf m k len d h (atN len at_ ns) (fr+(atM len at_ ns:Nat)) t/\(d=A\/∀ ad,d=some ad->w.heap.size<=ad.block) /\
  aFL (gc::gs::gd::gf::gr::pQ A) w w'/\∃ z v',aFO wB w' (bC size SS) size (aG size SS) gx gc gd gs gf Ai gm (K+194) z v' (ff+(atM len at_ ns:Nat)) 0
theorem aCX{SS:List aFM}{wB w:World}{size gx gc gd gs gf:Nat}{Ai:Option Addr}{gm K:Nat}{rd:Int}{v:aFN}{ff:Int}{N gr m k:Nat}{A:Option Addr}{cap:Nat}{ns:List Nat}{fr:Int}{pc:List Value}(hC:aFY size SS){S:aFM}{d:List Int}(hs:SS[m]? = some S)(hd:S.rows[k]? = some d)
 (h:aFO wB w (bC size SS) size (aG size SS) gx gc gd gs gf Ai gm K rd v ff 0)(hA:aF3 w N (nD size SS m k) gr gf m k d.length A cap ns fr pc)(b3:ns.length<=4)(hK:K+194<=1000000000000000)(cI:0<=fr/\fr+1<=1000000000000000)
 (hN:wB.heap.size<=N)(bZ:∀ ad,Ai=some ad->ad.block<N)(hl:d.length<=1048576)(q:Nat)(hq:q<d.length):
  Calls prog 22 #[.pointer (some ⟨gr,0,none⟩),.int .i64 q] w (AtP wB w size SS gx gc gd gs gf Ai gm K ff N gr m k d.length A ns fr q):=by
 obtain⟨a7,a8,cO,cP⟩:=YJ hq;have bE:=hid (KK hC h hA b3 (by omega) (by omega) (kR q) (uE hC hs hd a7).1 (uE hC hs hd a7).2.2 hN bZ);unfold zK at bE;have bF:=hid (fun W (K':Nat) b4 v' dK A' dI dT dL dU h' dM h1 h2 h3=>KK (wB:=wB) (w:=W) (gx:=gx) (gc:=gc) (gd:=gd) (gs:=gs) (gf:=gf) (Ai:=Ai) (gm:=gm) (K:=K') (rd:=b4) (v:=v') (ff:=dK) (N:=N) (gr:=gr) (s:=m) (c:=k) (len:=d.length) (A:=A') (cap:=dI) (ns:=dT) (fr:=dL) (pc:=dU) hC h' dM h1 h2 h3 (nI q (aS d.length)) (uE hC hs hd a8).1 (uE hC hs hd a8).2.2 hN bZ);unfold zK at bF;have c2:=hid (fun W=>S8 q (aS d.length) W (by unfold aS;omega) (by unfold aS;omega));have cZ:=hid (fun W=>pK d.length W (by omega));have HG:=hid (fun n (hn:n<aS d.length)=>YZ (uE hC hs hd hn).2.2);have HF:=hid (fun n=>Q7 size SS m k n);obtain⟨TP,b2⟩:∃ TP,AtP wB w size SS gx gc gd gs gf Ai gm K ff N gr m k d.length A ns fr q=TP:=⟨_,rfl⟩;have HP:=hid (show ∀ e w',AtP wB w size SS gx gc gd gs gf Ai gm K ff N gr m k d.length A ns fr q e w'->TP e w' from fun _ _ h=>b2▸h);rw[b2];unfold AtP at HP;have hV:atV (nD size SS m k) d.length q=atZ (nD size SS m k) d.length q:=by unfold atV;rw[FN (by omega),Int.toNat_natCast]
 have cG:atN d.length q ns=lS (nI q (aS d.length)) (lS (kR q) ns):=by unfold atN;rw[FN (by omega),Int.toNat_natCast]
 have cF:atM d.length q ns=jA (kR q) ns+jA (nI q (aS d.length)) (lS (kR q) ns):=by unfold atM;rw[FN (by omega),Int.toNat_natCast]
 unfold atZ at hV;rw[hV,cG,cF]at HP;clear hV cG cF;clear b2;generalize bC size SS=bs at *
 generalize aG size SS=D at *
 generalize nD size SS m k=F at *
 generalize dO:d.length=len at *
 generalize hcnt:aS len=cnt at *
 generalize dQ:kR q=t at *
 generalize dR:nI q cnt=G at *
 generalize cQ:q / 16=nq at *
 generalize cM:q % 16=iq at *
 have cL:iq<16:=by omega
 have dH:w.cell? ⟨gr,57,none⟩=some (.slice A ns.length cap):=(hA.head.cell 57).trans (cS hA.pcl gf m k len _ fr 4);have d3:w.cell? ⟨gr,56,none⟩=some (.int .i64 len):=(hA.head.cell 56).trans (cS hA.pcl gf m k len _ fr 3);have c3:=hid (mR hA.head hA.pcl);have t1:¬ (q:Int)<0:=by omega
 have t2:¬ (len:Int)<=(q:Int):=by omega
 have t3:(q:Int).tdiv 16=(nq:Int):=by rw[<-cQ];rfl
 have t4:(q:Int).tmod 16=(iq:Int):=by rw[<-cM];rfl
 have t5:IntKind.i64.wrap (nq:Int)=(nq:Int):=aGl _ (by omega);have t6:IntKind.i64.wrap (iq:Int)=(iq:Int):=aGl _ (by omega);have HA:=hid hA;have HH:=hid h;have Hn:=hid b3;have Hq:=hid (show t<cnt/\G<cnt/\(nq=t\/nq=G)/\nq<cnt from ⟨a7,a8,cO,cP⟩);have b8:=hid (show K+194<=1000000000000000/\(0<=fr/\fr+1<=1000000000000000) from ⟨hK,cI⟩);have bQ:=hid cL;clear hA h b3 hK cI hN bZ hl hq a7 a8 cO cP cQ cM dQ dR hcnt dO hs hd hC cL dH;go_enter func22,ntmps22;go_wp2_with (first|(go_at_call 73;refine c3.out.mono ?_;rintro e w' ⟨rfl,rfl⟩)|(go_at_call 61;refine (cZ.out _).mono ?_;rintro e w' ⟨rfl,rfl⟩)|(go_at_call 74;refine (c2.out _).mono ?_;rintro e w' ⟨rfl,rfl⟩)|(go_at_call 75;fail))
 refine bE.out.mono ?_;rintro e O ⟨g1,dJ,dV,rfl,hA1,cJ,cH,dW,v1,cD⟩;obtain⟨r1,cT⟩:=MT t ns;have cN:=I7 (n:=t) Hn.out;have X1:=hid (show ∀ (j:Nat) v,(eN (F t) (t:Int))[j]? = some v->O.cell? ⟨g1,j,none⟩=some v from by
  have ho:=hA1.own;rw[cT]at ho;exact GN (HF.out t) ho)
 have A1:=hid hA1;have K1:=hid cD;have O1:=hid cH;have G1:=hid cJ;have a5:=iK (HF.out t) (t:Int);have c4:=hid (pP (F t) (t:Int));have c6:=hid (show (eN (F t) (t:Int)).toArray.all (·.oneCell')=true by
  rw[aGY];intro v J;exact c4.out v (by simpa using J))
 have c7:=hid (show (eN (F t) (t:Int)).toArray.size=21 by rw[aGH,a5]);have c0:=hid (show (prog.info? 163).map (·.size)=some (eN (F t) (t:Int)).toArray.size by rw[aGH,a5];exact gG);have c1:=hid (show (prog.info? 163).map (·.size)=some (eN (F t) (t:Int)).length by rw[a5];exact gG);have dG:=hid (show ∀ (j:Nat) v,(eN (F t) (t:Int))[j]? = some v->O.cell? ⟨g1,0+j,none⟩=some v from fun j v J=>by rw[aGn];exact X1.out j v J);obtain⟨w2,a9⟩:∃ w2,O.alloc (.cells (eN (F t) (t:Int)).toArray 163)=w2:=⟨_,rfl⟩;have B2:=hid (show Below O.heap.size O w2 by rw[<-a9];exact aP O _);have L2:=hid (show Blk w2 O.heap.size 163 (eN (F t) (t:Int)) by rw[<-a9];exact Blk.new O _ _);have dA:=hid a9;have b7:=hid (bF.out w2 (K+97) dW v1 _ _ dJ (lS t ns) _ dV (K1.out.later B2.out) (A1.out.later B2.out) cN.1 (by have:=b8.out;omega) (by have:=b8.out;have:=G7 t ns;omega));have cY:=hid (show g1<O.heap.size from yU A1.out.own g1 rfl);clear hA1 cD cH cJ a5 a9 bE bF cT cN;go_wp2_with (first|(refine aL rfl 163 (.tmp 46) rfl g1 0 rfl (eN (F t) (t:Int)) _ dG.out underlying163 rfl c1.out ?_)|(refine aA rfl 163 (.tmp 10) (.tmp 47) rfl O.heap.size rfl _ _ (eN (F t) (t:Int)).toArray rfl (LT O _) c0.out (by rw[c7.out];rfl) c6.out ?_;rw[aGT,dA.out])|(go_at_call 75;fail))
 refine b7.out.mono ?_;rintro e I ⟨U,a3,bB,rfl,hA3,cK,b1,dX,v3,cE⟩;obtain⟨r2,cU⟩:=MT G (lS t ns);have X3:=hid (show ∀ (j:Nat) v,(eN (F G) (G:Int))[j]? = some v->I.cell? ⟨U,j,none⟩=some v from by
  have ho:=hA3.own;rw[cU]at ho;exact GN (HF.out G) ho)
 have A3:=hid hA3;have K3:=hid cE;have O3:=hid b1;have G3:=hid cK;have a6:=iK (HF.out G) (G:Int);have c5:=hid (pP (F G) (G:Int));have bO:=hid (show (eN (F G) (G:Int)).toArray.all (·.oneCell')=true by
  rw[aGY];intro v J;exact c5.out v (by simpa using J))
 have bP:=hid (show (eN (F G) (G:Int)).toArray.size=21 by rw[aGH,a6]);have bI:=hid (show (prog.info? 163).map (·.size)=some (eN (F G) (G:Int)).toArray.size by rw[aGH,a6];exact gG);have bJ:=hid (show (prog.info? 163).map (·.size)=some (eN (F G) (G:Int)).length by rw[a6];exact gG);have bV:=hid (show ∀ (j:Nat) v,(eN (F G) (G:Int))[j]? = some v->I.cell? ⟨U,0+j,none⟩=some v from fun j v J=>by rw[aGn];exact X3.out j v J);have L3:=hid (show Blk I O.heap.size 163 (eN (F t) (t:Int)) from b1.heap L2.out (by
  have h1:=K1.out.cache.lts;have h2:=K1.out.head.lt;have h3:=A1.out.head.lt;have h4:=cY.out;simp only[pQ,aGw,aGV,aGS];omega))
 obtain⟨V,bA⟩:∃ V,I.alloc (.cells (eN (F G) (G:Int)).toArray 163)=V:=⟨_,rfl⟩;have B4:=hid (show Below I.heap.size I V by rw[<-bA];exact aP I _);have Lb:=hid (show Blk V I.heap.size 163 (eN (F G) (G:Int)) by rw[<-bA];exact Blk.new I _ _);have La:=hid (L3.out.below B4.out L3.out.lt);have D4:=hid (A3.out.head.below B4.out A3.out.head.lt);have c9:=hid A3.out.pcl;have bR:=hid bA;have bW:=hid (show ∀ W,(∃ x:GW V,W=x.1)->∀ (j:Nat) v,dS.toList[j]? = some v->W.cell? ⟨gr,21+j,none⟩=some v from by
  rintro _ ⟨z,rfl⟩ j v J;exact (z.2.cell (p:=⟨gr,21+j,none⟩) D4.out.lt).trans ((D4.out.cell (21+j)).trans (RC c9.out _ _ _ _ _ _ J))) 
 have bK:=hid (show (prog.info? 91).map (·.size)=some dS.toList.length by rw[gP];kernel_rfl);have aV:=hid (fun (W:World) (g n:Nat) (hb:Blk W g 163 (eN (F n) (n:Int)))=>aEj (f:=F n) (n:=(n:Int)) (fun j v J=>(hb.cell j).trans J) hb.lt);have bM:=hid (fun (W:World) (g n:Nat) (hb:Blk W g 163 (eN (F n) (n:Int)))=>aCT (f:=F n) (n:=(n:Int)) (fun j v J=>(hb.cell j).trans J));have bN:=hid (fun v W=>(show Calls prog 76 #[.int .i64 v] W fun e w'=>e=.returned (.int .i64 (sR v))/\Below W.heap.size W w' from (aAa v W).mono (by rintro e w' ⟨rfl,rfl⟩;exact⟨rfl,aGj _ _⟩)));have bH:=hid (fun n=>(show (prog.info? 40).map (·.size)=some ((F n).gains.map (Value.int .i64)).length from by rw[aF7,(HF.out n).g];exact b9));have bG:=hid (show ∀ Z,Below I.heap.size I Z->aF3 Z N F gr gf m k len (some ⟨U,0,none⟩) a3 (lS G (lS t ns)) (fr+((jA t ns+jA G (lS t ns):Nat):Int)) bB/\(some ⟨U,0,none⟩=A\/∀ ad,some (⟨U,0,none⟩:Addr)=some ad->w.heap.size<=ad.block)/\aFL (gc::gs::gd::gf::gr::pQ A) w Z /\
   ∃ b4 v',aFO wB Z bs size D gx gc gd gs gf Ai gm (K+194) b4 v' (ff+((jA t ns+jA G (lS t ns):Nat):Int)) 0 from fun Z h5=>by
  have s1:=O1.out.size;have s2:=B2.out.size;refine⟨?_,?_,?_,dX,v3,?_⟩
  ·have:=A3.out.later h5
   rwa [show fr+((jA t ns:Nat):Int)+((jA G (lS t ns):Nat):Int)=fr+((jA t ns+jA G (lS t ns):Nat):Int) by push_cast;omega]at this
  ·rcases G3.out with h|h
   ·rcases G1.out with h'|h'
    ·exact .inl (by rw[h',h])
    ·refine .inr fun ad had=>?_
     rw[<-h]at had;injection had with had
     rw[<-had];exact h'
   ·refine .inr fun ad had=>?_
    injection had with had
    rw[<-had];exact aGE (aGE s1 s2) h
  ·refine ((O1.out.trans (aFL.of_below _ B2.out)).transNew O3.out (fun x hx=>?_)).trans (aFL.of_below _ h5);simp only[aGw,pQ,aGV,aGS]at hx ⊢;rcases hx with h|h|h|h|h|h
   ·exact .inl (.inl h)
   ·exact .inl (.inr (.inl h))
   ·exact .inl (.inr (.inr (.inl h)))
   ·exact .inl (.inr (.inr (.inr (.inl h))))
   ·exact .inl (.inr (.inr (.inr (.inr (.inl h)))))
   ·rcases G1.out with h'|h'
    ·exact .inl (.inr (.inr (.inr (.inr (.inr (by rw[h',h];simp))))))
    ·exact .inr (by rw[h];exact h')
  ·have:=K3.out.later h5
   rwa [show ff+((jA t ns:Nat):Int)+((jA G (lS t ns):Nat):Int)=ff+((jA t ns+jA G (lS t ns):Nat):Int) by push_cast;omega,show K+97+97=K+194 by omega]at this)
 clear hA3 cE b1 cK a6 bA cU b7 L3
 by_cases a4:t=G
 ·obtain rfl:nq=t:=by have:=Hq.out;omega
  subst a4;rw[FN rfl]at HP;go_wp2_with (first|(refine aL rfl 163 (.tmp 51) rfl U 0 rfl (eN (F nq) (nq:Int)) _ bV.out underlying163 rfl bJ.out ?_)|(refine aA rfl 163 (.tmp 11) (.tmp 52) rfl I.heap.size rfl _ _ (eN (F nq) (nq:Int)).toArray rfl (LT I _) bI.out (by rw[bP.out];rfl) bO.out ?_;rw[aGT,bR.out]))
  have XG:=hid (show ∀ W,(∃ x:GW V,W=x.1)->∀ (j:Nat) v,((F nq).gains.map (Value.int .i64))[j]? = some v->W.cell? ⟨O.heap.size,17+j,none⟩=some v from by
   rintro _ ⟨z,rfl⟩ j v J;exact bM.out z.1 _ nq (La.out.below z.2 La.out.lt) j v J)
  have aT:=hid (fun (z:GW V)=>(show Calls prog 77 #[.agg dS.toList.toArray,.pointer (some ⟨O.heap.size,1,none⟩),.pointer none,.agg ((F nq).gains.map (Value.int .i64)).toArray,.int .i64 iq] z.1 _ from by
   rw[Array.toArray_toList];exact TA _ _ _ _ iq z.1 (aV.out z.1 _ nq (La.out.below z.2 La.out.lt)) (HG.out nq Hq.out.2.2.2) bQ.out (GM _)))
  refine aU (by kernel_rfl) (by kernel_rfl) ?_
  repeat (first|(go_big_quiet_want;refine aY 91 (.tmp 63) rfl gr 21 rfl dS.toList _ bW.out underlying91 rfl bK.out ?_;go_simp;go_big_quiet_on)|(go_big_quiet_want;refine aY 40 (.tmp 71) rfl O.heap.size 17 rfl ((F nq).gains.map (Value.int .i64)) _ XG.out underlying40 rfl (bH.out nq) ?_;go_simp;go_big_quiet_on)|go_big_quiet_step (first|(go_at_call 77;exact bY (aT.out _))|(go_at_call 76;exact bY (bN.out _ _))))
  refine aGv ?_;intro Z aI;have B5:=hid (aC B4.out (aQ aI));clear aI;go_wp2;exact HP.out _ _ ⟨rfl,some ⟨U,0,none⟩,a3,bB,bG.out Z B5.out⟩
 ·rw[sL a4]at HP;have e2:((t:Int) == (G:Int))=false:=aG8.2 (by omega)
  by_cases hf:nq=t
  ·subst hf;rw[FN rfl]at HP;clear a4;go_wp2_with (first|(refine aL rfl 163 (.tmp 51) rfl U 0 rfl (eN (F G) (G:Int)) _ bV.out underlying163 rfl bJ.out ?_)|(refine aA rfl 163 (.tmp 11) (.tmp 52) rfl I.heap.size rfl _ _ (eN (F G) (G:Int)).toArray rfl (LT I _) bI.out (by rw[bP.out];rfl) bO.out ?_;rw[aGT,bR.out]))
   have XG:=hid (show ∀ W,(∃ x:GW V,W=x.1)->∀ (j:Nat) v,((F nq).gains.map (Value.int .i64))[j]? = some v->W.cell? ⟨O.heap.size,17+j,none⟩=some v from by
    rintro _ ⟨z,rfl⟩ j v J;exact bM.out z.1 _ nq (La.out.below z.2 La.out.lt) j v J)
   have aT:=hid (fun (z:GW V)=>(show Calls prog 77 #[.agg dS.toList.toArray,.pointer (some ⟨O.heap.size,1,none⟩),.pointer (some ⟨I.heap.size,1,none⟩),.agg ((F nq).gains.map (Value.int .i64)).toArray,.int .i64 iq] z.1 _ from by
    rw[Array.toArray_toList];exact CA _ _ _ _ _ _ _ iq z.1 (aV.out z.1 _ nq (La.out.below z.2 La.out.lt)) (aV.out z.1 _ G (Lb.out.below z.2 Lb.out.lt)) (HG.out nq Hq.out.2.2.2) bQ.out (GM _) (GM _)))
   refine aU (by kernel_rfl) (by kernel_rfl) ?_
   repeat (first|(go_big_quiet_want;refine aY 91 (.tmp 63) rfl gr 21 rfl dS.toList _ bW.out underlying91 rfl bK.out ?_;go_simp;go_big_quiet_on)|(go_big_quiet_want;refine aY 40 (.tmp 71) rfl O.heap.size 17 rfl ((F nq).gains.map (Value.int .i64)) _ XG.out underlying40 rfl (bH.out nq) ?_;go_simp;go_big_quiet_on)|go_big_quiet_step (first|(go_at_call 77;exact bY (aT.out _))|(go_at_call 76;exact bY (bN.out _ _))))
   refine aGv ?_;intro Z aI;have B5:=hid (aC B4.out (aQ aI));clear aI;go_wp2;exact HP.out _ _ ⟨rfl,some ⟨U,0,none⟩,a3,bB,bG.out Z B5.out⟩
  ·rw[sL hf]at HP;have e1:((nq:Int) == (t:Int))=false:=aG8.2 (by omega);obtain rfl:nq=G:=by have:=Hq.out;omega
   clear a4 hf;go_wp2_with (first|(refine aL rfl 163 (.tmp 51) rfl U 0 rfl (eN (F nq) (nq:Int)) _ bV.out underlying163 rfl bJ.out ?_)|(refine aA rfl 163 (.tmp 11) (.tmp 52) rfl I.heap.size rfl _ _ (eN (F nq) (nq:Int)).toArray rfl (LT I _) bI.out (by rw[bP.out];rfl) bO.out ?_;rw[aGT,bR.out]))
   have XG:=hid (show ∀ W,(∃ x:GW V,W=x.1)->∀ (j:Nat) v,((F nq).gains.map (Value.int .i64))[j]? = some v->W.cell? ⟨I.heap.size,17+j,none⟩=some v from by
    rintro _ ⟨z,rfl⟩ j v J;exact bM.out z.1 _ nq (Lb.out.below z.2 Lb.out.lt) j v J)
   have aT:=hid (fun (z:GW V)=>(show Calls prog 77 #[.agg dS.toList.toArray,.pointer (some ⟨I.heap.size,1,none⟩),.pointer (some ⟨O.heap.size,1,none⟩),.agg ((F nq).gains.map (Value.int .i64)).toArray,.int .i64 iq] z.1 _ from by
    rw[Array.toArray_toList];exact CA _ _ _ _ _ _ _ iq z.1 (aV.out z.1 _ nq (Lb.out.below z.2 Lb.out.lt)) (aV.out z.1 _ t (La.out.below z.2 La.out.lt)) (HG.out nq Hq.out.2.2.2) bQ.out (GM _) (GM _)))
   refine aU (by kernel_rfl) (by kernel_rfl) ?_
   repeat (first|(go_big_quiet_want;refine aY 91 (.tmp 63) rfl gr 21 rfl dS.toList _ bW.out underlying91 rfl bK.out ?_;go_simp;go_big_quiet_on)|(go_big_quiet_want;refine aY 40 (.tmp 71) rfl I.heap.size 17 rfl ((F nq).gains.map (Value.int .i64)) _ XG.out underlying40 rfl (bH.out nq) ?_;go_simp;go_big_quiet_on)|go_big_quiet_step (first|(go_at_call 77;exact bY (aT.out _))|(go_at_call 76;exact bY (bN.out _ _))))
   refine aGv ?_;intro Z aI;have B5:=hid (aC B4.out (aQ aI));clear aI;go_wp2;exact HP.out _ _ ⟨rfl,some ⟨U,0,none⟩,a3,bB,bG.out Z B5.out⟩
theorem KT{SS:List aFM}{wB w:World}{size gx gc gd gs gf:Nat}{Ai:Option Addr}{gm K:Nat}{rd:Int}{v:aFN}{ff:Int}{N gr m k:Nat}{A:Option Addr}{cap:Nat}{ns:List Nat}{fr:Int}{pc:List Value}(I:aFY size SS){S:aFM}{d:List Int}(hs:SS[m]? = some S)(U:S.rows[k]? = some d)
 (h:aFO wB w (bC size SS) size (aG size SS) gx gc gd gs gf Ai gm K rd v ff 0)(hA:aF3 w N (nD size SS m k) gr gf m k d.length A cap ns fr pc)(aA:ns.length<=4)(J:K+194<=1000000000000000)(V:0<=fr/\fr+1<=1000000000000000)
 (O:wB.heap.size<=N)(G:∀ ad,Ai=some ad->ad.block<N)(W:d.length<=1048576)(at_:Int):
  Calls prog 22 #[.pointer (some ⟨gr,0,none⟩),.int .i64 at_] w (AtP wB w size SS gx gc gd gs gf Ai gm K ff N gr m k d.length A ns fr at_):=by
 by_cases t:0<=at_/\at_<d.length
 ·obtain⟨q,rfl⟩:∃ q:Nat,at_=q:=⟨at_.toNat,by omega⟩;exact aCX I hs U h hA aA J V O G W q (by omega)
 ·have z:AtP wB w size SS gx gc gd gs gf Ai gm K ff N gr m k d.length A ns fr at_ (.returned (.int .i64 0)) w:=by
   refine⟨by unfold atV;rw[sL t],A,cap,pc,?_,.inl rfl,aFL.refl _ _,rd,v,?_⟩
   ·have e1:atN d.length at_ ns=ns:=by unfold atN;rw[sL t]
    have F:atM d.length at_ ns=0:=by unfold atM;rw[sL t]
    rw[e1,F,show fr+((0:Nat):Int)=fr by omega];exact hA
   ·have F:atM d.length at_ ns=0:=by unfold atM;rw[sL t]
    rw[F,show ff+((0:Nat):Int)=ff by omega];exact h.more (by omega)
  generalize AtP wB w size SS gx gc gd gs gf Ai gm K ff N gr m k d.length A ns fr at_=TP at *
  have z:=hid z;have aD:w.cell? ⟨gr,56,none⟩=some (.int .i64 d.length):=(hA.head.cell 56).trans (cS hA.pcl gf m k d.length _ fr 3);have aC:=hid (mR hA.head hA.pcl);obtain⟨len,Z⟩:∃ len,d.length=len:=⟨_,rfl⟩;rw[Z]at t aD;have aF:(at_<0/\decide (at_<0)=true)\/(¬ at_<0/\decide (at_<0)=false/\(len:Int)<=at_/\decide ((len:Int)<=at_)=true):=by
   by_cases h1:at_<0
   ·exact .inl ⟨h1,aGs h1⟩
   ·exact .inr ⟨h1,aGm h1,by omega,aGs (by omega)⟩
  clear h hA aA J V O G W t Z hs U I;rcases aF with ⟨t1,t2⟩|⟨t1,t2,t3,t4⟩
  all_goals
   go_enter func22,ntmps22;go_wp2_with (go_at_call 73;refine aC.out.mono ?_;rintro e w' ⟨rfl,rfl⟩)
   exact z.out
def l20:List Int:=(List.range 20).map fun (i:Nat)=>100*(i:Int)
def nE:aFM:=aBD ⟨#[97]⟩ l20
theorem XA:dM [nE]=0:=aBE _ _ (by decide +kernel)
theorem XD:∀ s∈[nE],s.small:=fun s h=>by
 rw[aGx]at h;subst h;refine⟨by decide,by decide,fun r d=>?_⟩;simp only[nE,aBD,aGx]at d;subst d
 decide
theorem XC:sK 60 [nE]=0:=by
 unfold sK;rw[sL (by omega)];exact XA
theorem aER{w:World}{N:Nat}{A:Option Addr}{n c:Nat}(nm:ByteArray)(xs:List Int)(h:w.ownsRow N 3 1 (.slice A n c) n (xs.map (.int .i64)))(V:xs.length=n)(d t:TypeId):
  aFX ((w.alloc (.cells #[.slice A n c] d)).alloc (.cells (aBC nm w.heap.size).cells.toArray t)) (w.heap.size+2) (some ⟨w.heap.size+1,0,none⟩) [(aBC nm w.heap.size,aBD nm xs)]:=by
 have h1:=Row.of_own h;have h2:=Row.new w d [.slice A n c];have F:=Row.new (w.alloc (.cells #[.slice A n c] d)) t (aBC nm w.heap.size).cells;have W:=oZ h;have U:=gK h;simp only[aG5]at h2 F;refine⟨by simpa[fK] using F,fun p G=>?_⟩;rw[aGx]at G;subst G;have J:Below w.heap.size w ((w.alloc (.cells #[.slice A n c] d)).alloc (.cells (aBC nm w.heap.size).cells.toArray t)):=((aGj _ _).alloc (by simp) _).alloc (by simp) _;have O:Below (w.heap.size+1) (w.alloc (.cells #[.slice A n c] d)) ((w.alloc (.cells #[.slice A n c] d)).alloc (.cells (aBC nm w.heap.size).cells.toArray t)):=(aGj _ _).alloc (by simp) _;refine⟨⟨rfl,rfl,rfl,rfl,rfl,rfl⟩,LE _,by show (1:Nat)<=_;omega,[.slice A n c],(h2.below O).more (by omega),rfl,fun i v Z z I=>?_⟩;cases i with
 | zero =>
  simp[aBD]at z I;subst z I;exact⟨A,c,by rw[V],by omega,U,(h1.below J).more (by omega)⟩
 | succ i=>simp at z
def aFt(w:World)(e:Ending)(w':World):Prop:=∃ g h,e=.returned (.slice (some ⟨g,0,none⟩) 1 1)/\aFX w' w'.heap.size (some ⟨g,0,none⟩) [(h,nE)]/\Below w.heap.size w w'
theorem aBB(w:World):Calls prog 70 #[] w (aFt w):=by
 obtain⟨i0,hi,aD,aE,aF⟩:=aHx aAn;go_enter func70,ntmps70;go_wp2;go_loopw [1,2] (fun o i wr=>∃ (m:Nat) (A:Option Addr) (c:Nat),m<=20/\o=.slice A m c/\i=.int .i64 m/\wr.ownsRow w.heap.size 3 1 (.slice A m c) m ((l20.take m).map (.int .i64))/\Below w.heap.size w wr) (fun _ i _=>20-(intOf i).toNat)
 case atStart=>exact⟨0,none,0,by omega,rfl,rfl,aHc _ _ _ _,aGj _ _⟩
 case round =>
  obtain⟨m,A,c,hm,rfl,rfl,t,F⟩:=hrel;have z:=hid t;have d:=hid F;have O:=hid (bO t);obtain⟨A3,c3,he,h1,h2⟩:=jK t;injection he with W _ Z
  subst W Z;have aN:=gK t;clear t F h2
  by_cases hlt:m<20
  ·have t1:(m:Int)<20:=by omega
   have t2:IntKind.i64.wrap (100*(m:Int))=100*(m:Int):=aGl _ (by omega);have U:=hid (show (l20.take (m+1)).map (Value.int .i64)=(l20.take m).map (.int .i64)++[.int .i64 (100*(m:Int))] by
    rw[aJp,show l20[m]? = some (100*(m:Int)) from aI _ hlt,aG2]
    rfl)
   go_wp2_with (at_builtin;refine cF _ rfl (.tmp 7) (.tmp 10) 63 rfl w.heap.size 3 i0 (.int .i64 0) 1 8 underlying63 hi aD aE aF rfl (by omega) _ m _ rfl (z.out.alloc _) (wr.heap.size+1) (some ⟨wr.heap.size,0,none⟩) 1 1 [.int .i64 _] rfl rfl (Row.new wr _ _) (fun u G=>by simp at G;subst G;rfl) (by omega) (by omega) (by have:=d.out.size;simp;omega) ?_;intro I V w2 aB aA aL aM)
   go_roundw
   case rel =>
    refine⟨m+1,I,V,by omega,rfl,by go_num,?_,((d.out).alloc (by have:=d.out.size;omega) _).grown aA (by have:=d.out.size;simp;omega) (fun g h=>O.out g h)⟩;rw[U.out];exact aB
   case measure=>simp[intOf];omega
  ·have t1:¬ (m:Int)<20:=by omega
   obtain rfl:m=20:=by omega
   have J:=hid (aER (w:=wr) (N:=w.heap.size) (A:=A) (n:=20) (c:=c) ⟨#[97]⟩ l20 (by have:=z.out;rwa [aGW (by decide)]at this) rfl 63 119);go_wp2
   go_ret
   refine⟨wr.heap.size+1,aBC ⟨#[97]⟩ wr.heap.size,rfl,J.out.more (by simp),?_⟩;exact aC (aC d.out (aP _ _)) (aP _ _)
theorem Q8{size:Nat}{SS:List aFM}(h:aFY size SS){m k q:Nat}{S:aFM}{d:List Int}(z:SS[m]? = some S)(t:S.rows[k]? = some d)(G:q<d.length):(lO (bK d size) (d.length:Nat))[q]? = some (atZ (nD size SS m k) d.length q):=by
 have I:=dO ((h.fine S (aGh z)).good.2 d (aGh t)).2 (size:=(size:Int)) (by have:=h.lo;omega) (by have:=h.hi;omega);refine aCO (fun f hf=>(I f hf).1.len) (fun i x F=>?_) (eU d size) G;have hi:=(aGi.1 F).1;rw[eU]at hi;have:=(uE h z t hi).2.1;rw[F]at this;exact (aG7 this).symm
theorem KU{size:Nat}{SS:List aFM}(t:aFY size SS){m k q:Nat}{S:aFM}{d:List Int}(G:SS[m]? = some S)(z:S.rows[k]? = some d)(F:q<d.length)(J:55<=size):atZ (nD size SS m k) d.length q=bgt d q:=by
 have h:=Q8 t G z F;have I:=((t.fine S (aGh G)).good.2 d (aGh z)).2;rw[OY I (size:=(size:Int)) (by omega) (by have:=t.hi;omega),rI F]at h;exact (aG7 h).symm
theorem aAs{size:Nat}{SS:List aFM}(U:aFY size SS){m k N gf:Nat}{S:aFM}{d:List Int}(J:SS[m]? = some S)(G:S.rows[k]? = some d){w w':World}{e:Ending}(V:N<=w.heap.size)(h:QB w size SS gf m k e w'):
  Below w.heap.size w w'/\∃ gr,e=.returned (.tuple #[.pointer (some ⟨gr,0,none⟩),.int .i64 0])/\w.heap.size<=gr/\aF3 w' N (nD size SS m k) gr gf m k d.length none 0 [] 0 BC:=by
 obtain⟨z,O⟩:=oE (size:=size) J;have hk:=(aGi.1 G).1;have W:=(U.fine S (aGh J)).same d (aGh G);have h1:(fF (aG size SS) m).channels=(S.rows.length:Int):=by rw[z];rfl
 have h2:(fF (aG size SS) m).length=(d.length:Int):=by rw[z,W];rfl
 obtain⟨hb,⟨t,_⟩|⟨_,t,_⟩|⟨_,_,_,gr,he,I,F⟩⟩:=h
 ·exact absurd O t
 ·rw[h1]at t;omega
 ·refine⟨hb,gr,he,I,?_,by simp[BC],aHc _ _ _ _,aGE V I⟩;rw[h2]at F;exact F
theorem QN(w:World):Calls prog 19 #[] w fun e w'=>e=.returned (.bool true)/\Below w.heap.size w w':=by
 have aD:=hid (aBB w);have HM:=hid (fun W g h (hs:aFX W W.heap.size (some ⟨g,0,none⟩) [(h,nE)])=>(show Calls prog 9 #[.int .i64 60,.slice (some ⟨g,0,none⟩) 1 1,.int .i64 2,.int .i64 0] W (fun e w'=>Below W.heap.size W w'/\∃ G gx gc gd gs gf Ai gm Z wB rd v,e=.returned (.pointer (some ⟨G,0,none⟩))/\W.heap.size<=wB.heap.size/\aFY 60 [nE] /\
   Blk w' G 34 [.pointer (some ⟨gx,0,none⟩),.pointer (some ⟨gd,0,none⟩),.pointer (some ⟨gf,0,none⟩),.slice (some ⟨Z,0,none⟩) (b6 60 [nE]) (b6 60 [nE])]/\aFO wB w' (bC 60 [nE]) 60 (aG 60 [nE]) gx gc gd gs gf Ai gm 0 rd v 0 0) from
  (aBv [(h,nE)] (some ⟨g,0,none⟩) 1 60 2 0 W hs (by show (1:Nat)<=8;omega) (fun p hp=>by rw[aGx]at hp;subst hp;exact XD _ (by simp))).mono (by
   rintro e w' ⟨hb,⟨bL,_⟩|⟨_,_,sz,G,gx,gc,gd,gs,gf,Ai,gm,Z,wB,cB,t,he,aA,cA,J,z⟩⟩
   ·rcases bL with h|h
    ·exact absurd XC h
    ·unfold jF at h;omega
   ·obtain rfl:sz=60:=by omega
    rw[show cV ([(h,nE)].map Prod.snd)=[nE] from aDJ nE]at J z t;exact⟨hb,G,gx,gc,gd,gs,gf,Ai,gm,Z,wB,_,_,he,aA,t,J,z⟩)))
 unfold aFt at aD;generalize b6 60 [nE]=pl at *
 go_enter func19,ntmps19;go_wp2_with (go_at_call 70;fail)
 refine aD.out.mono ?_;rintro e w1 ⟨g1,h1,rfl,a0,aU⟩;have aM:=hid (HM.out w1 g1 h1 a0);have B1:=hid aU;clear a0 aU HM aD;go_wp2_with (go_at_call 9;fail)
 refine aM.out.mono ?_;rintro e w2 ⟨aV,G,gx,gc,gd,gs,gf,Ai,gm,Z,wB,rd,v,rfl,aA,t,J,z⟩;have B2:=hid (aC B1.out aV);have O:[nE][0]? = some nE:=rfl;have U:nE.rows[0]? = some l20:=rfl;have aY:l20.length=20:=rfl;have h0:0<(bC 60 [nE]).length:=by rw[kS t];have:=t.len_bd;omega
 have I:=hid z;have a8:=hid (z.cache.img_lt h0);have aN:=hid z.old.size;have aB:=hid ((FG t z 0 0).mono (fun e w' h=>aAs (m:=0) (k:=0) (N:=w2.heap.size) t O U (LE _) h));have V:=hid (fun W K rd v ff gr A cap ns fr pc hF hA h4 z hf at_=>KT (wB:=wB) (w:=W) (gx:=gx) (gc:=gc) (gd:=gd) (gs:=gs) (gf:=gf) (Ai:=Ai) (gm:=gm) (K:=K) (rd:=rd) (v:=v) (ff:=ff) (N:=w2.heap.size) (gr:=gr) (m:=0) (k:=0) (A:=A) (cap:=cap) (ns:=ns) (fr:=fr) (pc:=pc) t O U hF hA h4 z hf aN.out a8.out (by omega) at_);unfold AtP at V;rw[aY]at V aB;have V0:=hid (show atV (nD 60 [nE] (0:Nat) (0:Nat)) 20 0=0 from by
  unfold atV;rw[FN (by omega)];exact (KU t O U (q:=0) (by omega) (by omega)).trans (by decide))
 have bF:=hid (show atV (nD 60 [nE] (0:Nat) (0:Nat)) 20 15=1500 from by
  unfold atV;rw[FN (by omega)];exact (KU t O U (q:=15) (by omega) (by omega)).trans (by decide))
 generalize bC 60 [nE]=bs at *
 generalize aG 60 [nE]=D at *
 generalize nD 60 [nE] ((0:Nat):Int) ((0:Nat):Int)=F at *
 have a2:w2.cell? ⟨G,2,none⟩=some (.pointer (some ⟨gf,0,none⟩)):=J.cell 2;clear aV t J z h0 O U aY aM;go_wp2_with (go_at_call 20;fail)
 refine aB.out.mono ?_;rintro e w3 ⟨aE,gr,rfl,aX,hA3⟩;have B3:=hid (aC B2.out aE);have aI:=hid (V.out w3 0 rd v 0 gr none 0 [] 0 BC (I.out.later aE) hA3 (by simp) (by omega) (by omega) 0);have bB:=hid aX;have bD:=hid aA;clear aE hA3 aX a2 aB aA;go_wp2_with (go_at_call 22;fail)
 refine aI.out.mono ?_;rintro e w4 ⟨rfl,A4,c4,p4,hA4,aW,aS,bP,v4,aR⟩;have O4:=hid aS;have F4:=hid aW;have aJ:=hid (V.out w4 194 bP v4 _ gr A4 c4 (atN 20 0 []) _ p4 (by simpa using aR) hA4 (by decide) (by omega) (by rw[show atM 20 0 []=1 by decide];omega) 15);rw[V0.out];clear hA4 aW aS aR aI;go_wp2_with (go_at_call 22;fail)
 refine aJ.out.mono ?_;rintro e w5 ⟨rfl,A5,c5,p5,hA5,bM,aT,cE,v5,bK⟩;rw[bF.out];have aK:=hid (JP hA5.head hA5.pcl);rw[show (0:Int)+((atM 20 0 []:Nat):Int)+((atM 20 15 (atN 20 0 []):Nat):Int)=2 by decide]at aK;have bA:=hid (u7 hA5.head hA5.pcl);have a9:=hid (show Below w.heap.size w w5 from by
  have a1:=I.out.cN;have a2:=I.out.sN;have a3:=I.out.dN;have a4:=I.out.fN;have b1:=bD.out;have b2:=B1.out.size;have b3:=B3.out.size;have b4:=bB.out;have b5:=aN.out;have s4:=O4.out.size;refine B3.out.trans ((O4.out.below (fun x d=>?_) b3).trans (aT.below (fun x d=>?_) (by omega)))
  ·simp only[aGw,pQ,aGV,aGS]at d;omega
  ·rcases aGw.1 d with h|d
   ·omega
   rcases aGw.1 d with h|d
   ·omega
   rcases aGw.1 d with h|d
   ·omega
   rcases aGw.1 d with h|d
   ·omega
   rcases aGw.1 d with h|d
   ·omega
   obtain⟨ad,had,he⟩:=AJ d;rcases F4.out with h|h
   ·rw[h]at had;cases had
   ·have:=h ad had;omega)
 clear hA5 bM aT bK aJ;go_wp2_with (first|(go_at_call 23;refine aK.out.mono ?_;rintro e w' ⟨rfl,rfl⟩)|(go_at_call 32;refine bA.out.mono ?_;rintro e w' ⟨rfl,rfl⟩))
 go_ret
 exact⟨rfl,a9.out⟩
theorem aF3.keep{wB w w':World}{bs:List Nat}{size:Nat}{D:List aFK}{gx gc gd gs gf:Nat}{Ai:Option Addr}{gm K:Nat}{rd:Int}{v:aFN}{ff lo:Int}{N gr:Nat}{F:Nat->aFJ}{s c len:Int}{A:Option Addr}{cap:Nat}{ns:List Nat}{fr:Int}{pc:List Value}(hA:aF3 w N F gr gf s c len A cap ns fr pc)
 (h:aFO wB w bs size D gx gc gd gs gf Ai gm K rd v ff lo){g:Nat}{T:TypeId}{xs:List Value}(d:Blk w g T xs)(h1:151≠T)(h2:208≠T)(t:203≠T)(z:52≠T)(G:94≠T)(I:163≠T)(J:aFL (gc::gs::gd::gf::gr::pQ A) w w'):Blk w' g T xs:=by
 obtain⟨cd,O⟩:=h.cache.disk.blk;have U:=cO h.cache.cache.head d h1;have V:=cO h.cache.cache.slots d h2;have W:=cO O d t;have Z:=cO h.head d z;have n5:=cO hA.head d G;refine J.heap d (fun hm=>?_);rcases aGw.1 hm with h|hm
 ·omega
 rcases aGw.1 hm with h|hm
 ·omega
 rcases aGw.1 hm with h|hm
 ·omega
 rcases aGw.1 hm with h|hm
 ·omega
 rcases aGw.1 hm with h|hm
 ·omega
 obtain⟨ad,had,he⟩:=AJ hm;exact uL hA.own d (fun e=>I e.symm) ad had he
theorem aF3.keepOwn{wB w w':World}{bs:List Nat}{size:Nat}{D:List aFK}{gx gc gd gs gf:Nat}{Ai:Option Addr}{gm K:Nat}{rd:Int}{v:aFN}{ff lo:Int}{N gr:Nat}{F:Nat->aFJ}{s c len:Int}{A:Option Addr}{cap:Nat}{ns:List Nat}{fr:Int}{pc:List Value}(hA:aF3 w N F gr gf s c len A cap ns fr pc)
 (h:aFO wB w bs size D gx gc gd gs gf Ai gm K rd v ff lo){B sz n:Nat}{T:TypeId}{V:Value}{xs:List Value}(t:w.ownsRow B T sz V n xs)(h1:151≠T)(h2:208≠T)(G:203≠T)(I:52≠T)(J:94≠T)(O:163≠T)(U:aFL (gc::gs::gd::gf::gr::pQ A) w w'):w'.ownsRow B T sz V n xs:=by
 refine⟨t.1,?_⟩;rcases t.2 with W|⟨g,z,d,hv,hb,hh,Z⟩
 ·exact .inl W
 ·exact .inr ⟨g,z,d,hv,hb,hA.keep h (g:=g) (T:=T) (xs:=d.toList) (by unfold Blk;rw[Array.toArray_toList];exact hh) h1 h2 G I J O U,Z⟩
theorem aF3.under{wB w w':World}{bs:List Nat}{size:Nat}{D:List aFK}{gx gc gd gs gf:Nat}{Ai:Option Addr}{gm K:Nat}{rd:Int}{v:aFN}{ff lo:Int}{N gr:Nat}{F:Nat->aFJ}{s c len:Int}{A:Option Addr}{cap:Nat}{ns:List Nat}{fr:Int}{pc:List Value}(hA:aF3 w N F gr gf s c len A cap ns fr pc)
 (h:aFO wB w bs size D gx gc gd gs gf Ai gm K rd v ff lo)(O:wB.heap.size<=N)(d:aFL (gc::gs::gd::gf::gr::pQ A) w w'):Below wB.heap.size w w':=by
 have t:=h.cN;have z:=h.sN;have G:=h.dN;have I:=h.fN;have J:=hA.lo;refine d.below (fun x hm=>?_) h.old.size;rcases aGw.1 hm with h|hm
 ·omega
 rcases aGw.1 hm with h|hm
 ·omega
 rcases aGw.1 hm with h|hm
 ·omega
 rcases aGw.1 hm with h|hm
 ·omega
 rcases aGw.1 hm with h|hm
 ·omega
 obtain⟨ad,had,he⟩:=AJ hm;subst had;have:=bO hA.own ad.block rfl;omega
theorem aBs{w:World}{v:Value}(h:Arg w (.slice 1 (.int .i64)) v):∃ (l:List Int) (A:Option Addr) (cap:Nat),v=.slice A l.length cap/\l.length<=9223372036854775807/\aCx l/\Row w w.heap.size A (l.map (.int .i64)):=by
 obtain⟨v',xs,z,hi,t⟩:=vF h;obtain⟨a,cap,rfl,h1,h2,d⟩:=hi;have F:v=.slice a xs.length cap:=by simpa using z
 exact⟨xs,a,cap,F,by omega,t,d⟩
theorem aCN{size:Nat}{SS:List aFM}(t:aFY size SS){m k:Nat}{S:aFM}{d:List Int}(F:SS[m]? = some S)(z:S.rows[k]? = some d)(p:Int):
  atV (nD size SS m k) d.length p=if 0<=p/\p<d.length then bgt (lO (bK d size) (d.length:Nat)) p.toNat else 0:=by
 unfold atV;split
 ·rename_i h
  have:=Q8 t F z (q:=p.toNat) (by omega);rw[aD this]
 ·rfl
theorem aBW{size:Nat}{SS:List aFM}(h:aFY size SS){m k:Nat}{S:aFM}{d:List Int}(z:SS[m]? = some S)(t:S.rows[k]? = some d):(lO (bK d size) (d.length:Nat)).length=d.length:=by
 unfold lO l7;have G:=dO ((h.fine S (aGh z)).good.2 d (aGh t)).2 (size:=(size:Int)) (by have:=h.lo;omega) (by have:=h.hi;omega);have F:=xI (gs:=((bK d size).map (·.gains)).flatten) (zW (fun f (_:f∈bK d size)=>fO f));rw[aF7,aGB,F,eU];unfold aS;omega
theorem zM(c0 i c:Int)(L0:List (aFR × aFM))(A0:Option Addr)(b7:Nat)(Lp:List Int)(Ap:Option Addr)(dR:Nat)(w:World)(cX:aFX w w.heap.size A0 L0)(cN:∀ p∈L0,p.2.name.size<=9223372036854775807)
 (bS:Lp.length<=9223372036854775807)(cU:Row w w.heap.size Ap (Lp.map (.int .i64))):
  Calls prog 6 #[.int .i64 c0,.slice A0 L0.length b7,.int .i64 i,.int .i64 c,.slice Ap Lp.length dR] w fun e w'=>e=.returned (.bool true)/\Below w.heap.size w w':=by
 have HM:=hid (YE L0 A0 b7 c0 2 0 w cX cN);have aW:=hid (fun W=>QN W);have dF:=hid cU;unfold QA at HM;generalize L0.length=l0 at *
 obtain⟨lp,bT⟩:∃ lp,Lp.length=lp:=⟨_,rfl⟩;rw[bT]at bS ⊢;have dL:=hid bT;clear cX cN bT cU;go_enter func6,ntmps6;go_wp2_with (go_at_call 9;fail)
 refine HM.out.mono ?_;rintro e t ⟨ss,a4,⟨_,rfl⟩|⟨_,_,size,ga,gx,gc,gd,gs,gf,Ai,gm,gi,wB,d4,I,rfl,cY,d1,hG,U⟩⟩
 ·have B1:=hid a4;clear a4;go_wp2_with (go_at_call 19;refine (aW.out t).mono ?_;rintro e w' ⟨rfl,z⟩)
  go_ret
  exact⟨rfl,aC B1.out z⟩
 ·have B1:=hid a4;have G1:=hid hG;have K1:=hid U;have b3:=hid cY;obtain⟨pl,cS⟩:∃ pl,b6 size (cV ss)=pl:=⟨_,rfl⟩;rw[cS]at G1;generalize cV ss=SS at *
  have Z:=hid I;have cH:0<(bC size SS).length:=by rw[kS I];have:=I.len_bd;omega
  have c6:=hid (U.cache.img_lt cH);have aY:=hid U.old.size;have c7:=hid U.fit;have a0:t.cell? ⟨ga,0,none⟩=some (.pointer (some ⟨gx,0,none⟩)):=hG.cell 0;have a2:t.cell? ⟨ga,2,none⟩=some (.pointer (some ⟨gf,0,none⟩)):=hG.cell 2;have bE:=hid (fun W (hW:Below t.heap.size t W)=>(show W.cell? ⟨ga,0,none⟩=some (.pointer (some ⟨gx,0,none⟩)) from (hW.cell (p:=⟨ga,0,none⟩) G1.out.lt).trans (G1.out.cell 0)));have aD:=hid (FG I U i c);have aB:=hid (fun W (hW:Below t.heap.size t W)=>(U.later hW).bankAt);have dW:(i<0\/(SS.length:Int)<=i)\/∃ (m:Nat) (S:aFM),i=m/\SS[m]? = some S/\((c<0\/(S.rows.length:Int)<=c)\/∃ (k:Nat) (d:List Int),c=k/\S.rows[k]? = some d):=by
   by_cases h1:i<0\/(SS.length:Int)<=i
   ·exact .inl h1
   ·obtain⟨S,G⟩:∃ S,SS[i.toNat]? = some S:=⟨_,TT (by omega)⟩;refine .inr ⟨i.toNat,S,by omega,G,?_⟩
    by_cases h2:c<0\/(S.rows.length:Int)<=c
    ·exact .inl h2
    ·obtain⟨d,V⟩:∃ d,S.rows[c.toNat]? = some d:=⟨_,TT (by omega)⟩;exact .inr ⟨c.toNat,d,by omega,V⟩
  clear a4 hG U cY d1 d4 cS cH HM;rcases dW with hi|⟨m,S,rfl,G,hc|⟨k,d,rfl,V⟩⟩
  ·have hE:=(CO (size:=size) (SS:=SS) (c:=0) (b:=0) hi).2;have dD:=hid (aD.out.mono (fun e w' h=>(show e=.returned (.tuple #[.pointer none,.int .i64 7])/\Below t.heap.size t w' from by
    obtain⟨hb,⟨_,he⟩|⟨h0,_⟩|⟨h0,_⟩⟩:=h
    ·rw[hE]at he;exact⟨he,hb⟩
    ·rw[hE]at h0;omega
    ·rw[hE]at h0;omega)))
   have dI:=hid (fun W (hW:Below t.heap.size t W)=>aAS Z.out gx i c hi W (aB.out W hW));clear hi hE aD aB I;go_wp2_with (go_at_call 20;fail)
   refine dD.out.mono ?_;rintro e w2 ⟨rfl,z⟩;have B2:=hid z;have y0:=bE.out w2 z;have aF:=hid (dI.out w2 z);clear z;go_wp2_with (go_at_call 31;fail)
   refine aF.out.mono ?_;rintro e w3 ⟨rfl,J⟩;have B3:=hid (aC B1.out (aC B2.out J));clear J;go_wp2_with (go_at_call 19;refine (aW.out w3).mono ?_;rintro e w' ⟨rfl,bO⟩)
   go_ret
   exact⟨rfl,aC B3.out bO⟩
  ·obtain⟨e1,e2⟩:=oE (size:=size) G;have cK:(fF (aG size SS) (m:Int)).channels=(S.rows.length:Int):=by rw[e1];rfl
   have dC:=hid (aD.out.mono (fun e w' h=>(show e=.returned (.tuple #[.pointer none,.int .i64 5])/\Below t.heap.size t w' from by
    obtain⟨hb,⟨h0,_⟩|⟨_,_,he⟩|⟨_,h1,h2,_⟩⟩:=h
    ·exact absurd e2 h0
    ·exact⟨he,hb⟩
    ·rw[cK]at h2;omega)))
   have dH:=hid (fun W (hW:Below t.heap.size t W)=>V8 Z.out gx G c hc W (aB.out W hW) c7.out);clear hc e1 e2 cK aD aB I G;go_wp2_with (go_at_call 20;fail)
   refine dC.out.mono ?_;rintro e w2 ⟨rfl,z⟩;have B2:=hid z;have y0:=bE.out w2 z;have aF:=hid (dH.out w2 z);clear z;go_wp2_with (go_at_call 31;fail)
   refine aF.out.mono ?_;rintro e w3 ⟨rfl,J⟩;have B3:=hid (aC B1.out (aC B2.out J));clear J;go_wp2_with (go_at_call 19;refine (aW.out w3).mono ?_;rintro e w' ⟨rfl,bO⟩)
   go_ret
   exact⟨rfl,aC B3.out bO⟩
  ·have bU:=(I.fine S (aGh G)).same d (aGh V);have cL:=(I.ch_bd G).2.2.2;rw[<-bU]at cL;have dE:=hid (aD.out.mono (fun e w' h=>aAs (N:=t.heap.size) Z.out G V (LE _) h));have aX:=hid (fun W (hW:Below t.heap.size t W)=>V9 Z.out gx G V W (aB.out W hW));have dG:=hid (fun p=>aCN Z.out G V p);have b2:=hid (fun W K rd v ff gr A cap ns fr pc hF hA h4 U hf at_=>KT (wB:=wB) (w:=W) (gx:=gx) (gc:=gc) (gd:=gd) (gs:=gs) (gf:=gf) (Ai:=Ai) (gm:=gm) (K:=K) (rd:=rd) (v:=v) (ff:=ff) (N:=t.heap.size) (gr:=gr) (m:=m) (k:=k) (A:=A) (cap:=cap) (ns:=ns) (fr:=fr) (pc:=pc) Z.out G V hF hA h4 U hf aY.out c6.out cL at_);have bN:=aBW I G V;rw[<-bU]at aX;unfold aCI at aX;unfold AtP at b2;rw[bN]at aX;generalize lO (bK d size) (d.length:Nat)=XS at *
   generalize bC size SS=bs at *
   generalize aG size SS=D at *
   generalize nD size SS m k=F at *
   generalize d.length=len at *
   have dJ:=hid bN;clear I G V bU aD aB bN Z;go_wp2_with (go_at_call 20;fail)
   refine dE.out.mono ?_;rintro e w2 ⟨z,gr,rfl,d2,hA2⟩;have B2:=hid z;have y0:=bE.out w2 z;have aF:=hid (aX.out w2 z);have K2:=hid (K1.out.later z);have A2:=hid hA2;clear z hA2 d2;go_wp2_with (go_at_call 31;fail)
   refine aF.out.mono ?_;rintro e w3 ⟨Aw,cw,rfl,dY,dX,cQ,J⟩;have B3:=hid (aC B1.out (aC B2.out J));have K3:=hid (K2.out.later J);have A3:=hid (A2.out.later J);have c9:=hid (u7 A3.out.head A3.out.pcl);have b5:=hid cQ;have eG:=bS;clear J cQ aF;go_wp2_with (go_at_call 32;refine c9.out.mono ?_;rintro e w' ⟨rfl,rfl⟩)
   have W3:=hid (IF (base':=0) b5.out (aG3 _));have b4:=hid (fun (W W':World) (h:Below w.heap.size w W) (h':Below wB.heap.size W W')=>(show Below w.heap.size w W' from h.trans (h'.mono b3.out)));have t0:((len:Int) != (len:Int))=false:=by simp
   clear bS dY dX y0 a0 a2 b5;go_loopw [16] (fun q wr=>∃ (n f:Nat) (A:Option Addr) (cap:Nat) (ns:List Nat) (pc:List Value) (rd:Int) (v:aFN),(n<=lp/\n<=100)/\f<=2*n/\q=.int .i64 n/\ns.length<=4/\aFO wB wr bs size D gx gc gd gs gf Ai gm (194*n) rd v f 0/\aF3 wr t.heap.size F gr gf m k len A cap ns f pc/\wr.ownsRow 0 3 1 (.slice Aw len cw) len (XS.map (.int .i64))/\Below w.heap.size w wr) (fun q _=>100-(intOf q).toNat)
   case atStart=>exact⟨0,0,_,_,[],_,_,_,by omega,by omega,rfl,by simp,K3.out,A3.out,W3.out,B3.out⟩
   case round =>
    obtain⟨n,f,A,cap,ns,pc,d6,v',hn,hf,rfl,cO,cC,cA,cE,cI⟩:=hrel;have Kr:=hid cC;have O:=hid cA;have Wr:=hid cE;have Er:=hid cI;have Hn:=hid (show (n<=lp/\n<=100)/\f<=2*n/\ns.length<=4 from ⟨hn,hf,cO⟩);clear cC cA cE cI hn hf cO;obtain⟨wa,rfl⟩:∃ wa,wa=wr:=⟨_,rfl⟩
    by_cases OC:n<lp/\n<100
    ·obtain⟨d3,eH⟩:=OC;have t1:(n:Int)<(lp:Int):=by omega
     have t2:(n:Int)<100:=by omega
     have t3:(0:Int)<=(n:Int):=by omega
     obtain⟨p,hp⟩:=aE (k:=n) dL.out d3;have cT:(Lp.map (Value.int .i64))[n]? = some (.int .i64 p):=by rw[aF5,hp];rfl
     obtain⟨bP,oP,rfl,eE,cP⟩:=(dF.out.later Er.out) n _ cT;have aV:=hid (b2.out wa (194*n) d6 v' f gr A cap ns f pc Kr.out O.out Hn.out.2.2 (by omega) (by have:=Hn.out;omega) p);have HV:=hid (dG.out p);clear hp cT
     by_cases a5:0<=p/\p<(len:Int)
     ·rw[FN a5]at HV;obtain⟨u1,u2⟩:=a5;obtain⟨q,rfl⟩:∃ q:Nat,p=q:=⟨p.toNat,by omega⟩;rw[Int.toNat_natCast]at HV;have cF:XS[q]? = some (bgt XS q):=rI (by rw[dJ.out];omega);have cG:(XS.map (Value.int .i64))[q]? = some (.int .i64 (bgt XS q)):=by rw[aF5,cF];rfl
      obtain⟨bW,oW,rfl,eF,cW⟩:=(Row.of_own Wr.out) q _ cG;clear cF cG;go_wp2_with (go_at_call 22;fail)
      refine aV.out.mono ?_;rintro e w4 ⟨rfl,A',bM,bV,aS,bR,aA,bX,v2,aT⟩;rw[HV.out];have A4:=hid aS;have K4:=hid aT;have W4:=hid (O.out.keepOwn Kr.out Wr.out (by decide) (by decide) (by decide) (by decide) (by decide) (by decide) aA);have E4:=hid (b4.out wa w4 Er.out (O.out.under Kr.out aY.out aA));have M4:=hid (aCM len (q:Int) ns);have N4:=hid (aAf len (q:Int) Hn.out.2.2);clear aS bR aA aT aV;go_wp2;go_roundw
      case rel =>
       refine⟨n+1,f+atM len (q:Int) ns,A',bM,atN len (q:Int) ns,bV,bX,v2,by omega,by have:=M4.out;have:=Hn.out;omega,by go_num,N4.out,?_,?_,W4.out,E4.out⟩
       ·rw[show 194*(n+1)=194*n+194 by omega,Int.natCast_add];exact K4.out
       ·rw[Int.natCast_add];exact A4.out
      case measure=>simp[intOf];omega
     ·rw[sL a5]at HV;have d0:(¬ 0<=p/\decide (0<=p)=false)\/(0<=p/\decide (0<=p)=true/\¬ p<(len:Int)/\decide (p<(len:Int))=false):=by
       by_cases h1:0<=p
       ·exact .inr ⟨h1,aGs h1,by omega,aGm (by omega)⟩
       ·exact .inl ⟨h1,aGm h1⟩
      clear a5;rcases d0 with ⟨u1,u2⟩|⟨u1,u2,u3,u4⟩
      all_goals
       go_wp2_with (go_at_call 22;fail)
       refine aV.out.mono ?_;rintro e w4 ⟨rfl,A',bM,bV,aS,bR,aA,bX,v2,aT⟩;rw[HV.out];have A4:=hid aS;have K4:=hid aT;have W4:=hid (O.out.keepOwn Kr.out Wr.out (by decide) (by decide) (by decide) (by decide) (by decide) (by decide) aA);have E4:=hid (b4.out wa w4 Er.out (O.out.under Kr.out aY.out aA));have M4:=hid (aCM len p ns);have N4:=hid (aAf len p Hn.out.2.2);clear aS bR aA aT aV;go_wp2;go_roundw
       case rel =>
        refine⟨n+1,f+atM len p ns,A',bM,atN len p ns,bV,bX,v2,by omega,by have:=M4.out;have:=Hn.out;omega,by go_num,N4.out,?_,?_,W4.out,E4.out⟩
        ·rw[show 194*(n+1)=194*n+194 by omega,Int.natCast_add];exact K4.out
        ·rw[Int.natCast_add];exact A4.out
       case measure=>simp[intOf];omega
    ·have dZ:(n<lp/\(n:Int)<(lp:Int)/\¬ (n:Int)<100)\/(¬ n<lp/\¬ (n:Int)<(lp:Int)):=by omega
     have dB:=hid (FF O.out.head O.out.pcl);have dA:=hid (fun W (h:Blk W gr 94 (bQ pc gf m k len (.slice A ns.length cap) f))=>PP h O.out.pcl);have dK:=hid (show w.heap.size<=gr from aGE (aGE b3.out aY.out) O.out.lo);clear OC;rcases dZ with ⟨_,t1,t2⟩|⟨_,t1⟩
     all_goals
      go_wp2_with (go_at_call 29;fail)
      refine dB.out.mono ?_;rintro e w5 ⟨rfl,cD,cB⟩;have c8:=hid (dA.out w5 cB);have E5:=hid (Er.out.trans (cD.below (fun x hx=>by rw[aGx.1 hx];exact dK.out) Er.out.size));clear cD cB;go_wp2_with (first|(go_at_call 33;refine c8.out.mono ?_;rintro e w' ⟨rfl,rfl⟩)|(go_at_call 19;refine (aW.out _).mono ?_;rintro e w' ⟨rfl,dV⟩))
      go_ret
      exact⟨rfl,aC E5.out dV⟩
theorem CursorClean_law(W:World)(v0 v1 d h t:Value)(a0:Arg W (.int .i64) v0)(G:Arg W (.slice 6 OX) v1)(I:Arg W (.int .i64) d)(J:Arg W (.int .i64) h)(O:Arg W (.slice 1 (.int .i64)) t):
  Calls prog 6 #[v0,v1,d,h,t] W fun e w'=>e=.returned (.bool true)/\Below W.heap.size W w':=by
 obtain⟨size,V,_,_⟩:=a0;obtain rfl:v0=.int .i64 size:=by simpa using V
 obtain⟨L,A,cap,rfl,_,_,_,hs,hn⟩:=aBV G;obtain⟨i,h2,_,_⟩:=I;obtain rfl:d=.int .i64 i:=by simpa using h2
 obtain⟨c,Z,_,_⟩:=J;obtain rfl:h=.int .i64 c:=by simpa using Z
 obtain⟨F,z,U,rfl,aA,_,aC⟩:=aBs O;exact zM size i c L A cap F z U W hs hn aA aC
end Go.Proofs.YtbpgfkjhclpbdaaGreatDoor
