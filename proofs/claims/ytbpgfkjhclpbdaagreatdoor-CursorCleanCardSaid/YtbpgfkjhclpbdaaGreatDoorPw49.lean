/- DskA, CurB, DskB, CacA, CacB, CacC, CacD, CacE. Conditions: as each theorem states. -/
import Derived.Maps.OwnSet
import Derived.Test.YtbpgfkjhclpbdaaGreatDoorPw48
set_option maxRecDepth 100000
set_option maxHeartbeats 16000000
namespace Go.Proofs.YtbpgfkjhclpbdaaGreatDoor
open Tryz
open Go.RowKit Go.Lib
structure aFL(S:List Nat)(w w':World):Prop where
 os:w'.os=w.os
 tape:w'.tape=w.tape
 output:w'.output=w.output
 size:w.heap.size<=w'.heap.size
 block:∀ j,j<w.heap.size->j ∉ S->w'.heap[j]? = w.heap[j]?
theorem aFL.refl(S:List Nat)(w:World):aFL S w w:=⟨rfl,rfl,rfl,LE _,fun _ _ _=>rfl⟩
theorem aFL.trans{S:List Nat}{a b c:World}(h:aFL S a b)(k:aFL S b c):aFL S a c :=
 ⟨k.os.trans h.os,k.tape.trans h.tape,k.output.trans h.output,aGE h.size k.size,fun j h1 h2=>(k.block j (aGM h1 h.size) h2).trans (h.block j h1 h2)⟩
theorem aFL.of_grown{S:List Nat}{w w':World}{g:Nat}(h:w.grownBy w' (some g))(d:g∈S):aFL S w w' :=
 ⟨h.os,h.tape,h.output,h.size,fun j h1 h2=>h.block j h1 (fun e=>h2 (aG7 e▸d))⟩
theorem aFL.of_below(S:List Nat){w w':World}(h:Below w.heap.size w w'):aFL S w w':=by
 have d:=aH4 (aG1 w none) h;exact⟨d.os,d.tape,d.output,d.size,fun j h1 _=>d.block j h1 (by simp)⟩
theorem aFL.more{S T:List Nat}{w w':World}(h:aFL S w w')(d:∀ x∈S,x∈T):aFL T w w':=⟨h.os,h.tape,h.output,h.size,fun j h1 h2=>h.block j h1 (fun e=>h2 (d j e))⟩
theorem aFL.heap{S:List Nat}{w w':World}(h:aFL S w w'){g:Nat}{o:Obj}(d:w.heap[g]? = some o)(t:g ∉ S):w'.heap[g]? = some o:=(h.block g (hlt d) t).trans d
theorem aFL.cell{S:List Nat}{w w':World}(h:aFL S w w'){p:Addr}{v:Value}(d:w.cell? p=some v)(t:p.block<w.heap.size)(z:p.block ∉ S):w'.cell? p=some v:=(aH5 (h.block p.block t z)).trans d
theorem aFL.row{S:List Nat}{w w':World}(h:aFL S w w'){A:Option Addr}{vs:List Value}(t:Row w w.heap.size A vs)(z:∀ ad,A=some ad->ad.block ∉ S):Row w' w'.heap.size A vs:=fun i v F=>by
 obtain⟨b,off,ha,hb,d⟩:=t i v F;exact⟨b,off,ha,aGM hb h.size,h.cell d hb (show b ∉ S from z ⟨b,off,none⟩ ha)⟩
def DiskAt(w:World)(g:Nat)(bs:List Nat)(rd:Int)(Ai:Option Addr)(gm:Nat):Prop :=
 (∃ ci,w.heap[g]? = some (.cells #[.slice Ai bs.length ci,.map (some gm),.int .i64 rd,.int .i64 0] 203 (0,0))/\bs.length<=ci/\ci<=9223372036854775807)/\Row w w.heap.size Ai (u8s bs)/\w.heap[gm]? = some (.map #[] 0)
theorem DiskAt.later{w w':World}{g:Nat}{bs:List Nat}{rd:Int}{Ai:Option Addr}{gm:Nat}(h:DiskAt w g bs rd Ai gm)(hb:Below w.heap.size w w'):DiskAt w' g bs rd Ai gm:=by
 obtain⟨⟨ci,h1,h2,t⟩,z,d⟩:=h;exact⟨⟨ci,aF h1 hb,h2,t⟩,z.later hb,(hb.block gm (hlt d)).trans d⟩
theorem aDx(gm:Nat)(W:World):(binOp .eql 201 (.map (some gm)) (.map none)).run prog W=.ok (.bool false) W:=by kernel_rfl
theorem yA(w:World)(g:Nat)(bs:List Nat)(rd:Int)(Ai:Option Addr)(gm:Nat)(h:DiskAt w g bs rd Ai gm):Calls prog 106 #[.pointer (some ⟨g,0,none⟩)] w fun e w'=>e=.returned (.bool false)/\w=w':=by
 obtain⟨⟨ci,h1,_,_⟩,_,_⟩:=h;have t:w.cell? ⟨g,1,none⟩=some (.map (some gm)):=(aGo _ _ _ _ _ _ h1).trans rfl;have d:=fun W=>aDx gm W
 clear h1;go_enter func106,ntmps106;go_wp2
 go_ret
 exact⟨rfl,rfl⟩
theorem u9(w:World)(g:Nat)(bs:List Nat)(rd:Int)(Ai:Option Addr)(gm:Nat)(h:DiskAt w g bs rd Ai gm)(I:bs.length<=4194304):Calls prog 66 #[.pointer (some ⟨g,0,none⟩)] w fun e w'=>e=.returned (.int .i64 ((bs.length+63) / 64:Nat))/\w=w':=by
 have F:=aGC (yA w g bs rd Ai gm h);obtain⟨⟨ci,h1,_,_⟩,_,_⟩:=h;have G:w.cell? ⟨g,0,none⟩=some (.slice Ai bs.length ci):=(aGo _ _ _ _ _ _ h1).trans rfl;obtain⟨n,z⟩:∃ n,bs.length=n:=⟨_,rfl⟩;rw[z]at I G ⊢;obtain⟨q,d⟩:∃ q,(n+63) / 64=q:=⟨_,rfl⟩;rw[d];have t:(n:Int)+64-1=((n+63:Nat):Int):=by push_cast;omega
 have J:((n:Int)+64-1).tdiv 64=(q:Int):=by rw[t,<-d];rfl
 have O:IntKind.i64.wrap (q:Int)=(q:Int):=aGl _ (by omega);clear h1 z t d;go_enter func66,ntmps66;go_wp2_with (go_at_call 106;refine F.out.mono ?_;rintro e w2 ⟨rfl,rfl⟩)
 go_ret
 exact⟨rfl,rfl⟩
theorem RM(w:World)(g:Nat)(bs:List Nat)(rd:Int)(Ai:Option Addr)(gm:Nat)(p:Int)(h:DiskAt w g bs rd Ai gm)(z:bs.length<=4194304):Calls prog 105 #[.pointer (some ⟨g,0,none⟩),.int .i64 p] w fun e w'=>e=.returned (.int .i64 (if p<0\/((bs.length+63) / 64:Nat)<=p then 5 else 0))/\w=w':=by
 have d:=aGC (yA w g bs rd Ai gm h);have t:=aGC (u9 w g bs rd Ai gm h z);generalize (bs.length+63) / 64=q at *
 clear h z
 by_cases h1:p<0
 ·rw[FN (.inl h1)];go_enter func105,ntmps105;go_wp2_with (first|(go_at_call 106;refine d.out.mono ?_;rintro e w2 ⟨rfl,rfl⟩)|(go_at_call 66;refine t.out.mono ?_;rintro e w2 ⟨rfl,rfl⟩))
  go_ret
  exact⟨rfl,rfl⟩
 ·by_cases h2:(q:Int)<=p
  ·rw[FN (.inr h2)];go_enter func105,ntmps105;go_wp2_with (first|(go_at_call 106;refine d.out.mono ?_;rintro e w2 ⟨rfl,rfl⟩)|(go_at_call 66;refine t.out.mono ?_;rintro e w2 ⟨rfl,rfl⟩))
   go_ret
   exact⟨rfl,rfl⟩
  ·rw[sL (by omega)];go_enter func105,ntmps105;go_wp2_with (first|(go_at_call 106;refine d.out.mono ?_;rintro e w2 ⟨rfl,rfl⟩)|(go_at_call 66;refine t.out.mono ?_;rintro e w2 ⟨rfl,rfl⟩))
   go_ret
   exact⟨rfl,rfl⟩
def jB(bs:List Nat)(p:Nat):List Nat:=cC bs (64*p) 64
theorem aBt{w:World}{b:Nat}(hb:w.heap[b]? = some (.map #[] 0))(i:Int)(h1:0<=i)(h2:i<=1000000):(Instr.lookup 201 (.map (some b)) (.int .i64 i) true).run prog w=.ok (.tuple #[.agg #[.int .i64 0,.int .i64 0,.int .u8 0],.bool false]) w:=by
 have K:=Go.Maps.int_keyed (P:=prog) (k:=3) underlying3;have z:(zeroValue 206).run prog w=.ok (.agg #[.int .i64 0,.int .i64 0,.int .u8 0]) w:=by kernel_rfl
 have d:=Go.Maps.keyOf_int_mk (P:=prog) (k:=3) underlying3 (WalkArith.wf_i64 (n:=i) (by omega));rcases K.find w d [] nofun with ⟨h,_⟩|⟨j,F,_,t,_⟩
 ·simp[Instr.lookup,aIz underlying201,MapKept.run_getObj_map hb,K.check w _ d,h,z,Result.andThen]
 ·simp at t
def c9(f:aFJ):List Value:=(bV f++f.gains).map (Value.int .i64)
theorem QT{s g:List Int}(h:s.length=16)(d:g.length=4):prog.built 75 [(0,aR s),(1,aR g)]=some ((s++g).map (Value.int .i64)).toArray:=by
 obtain⟨g0,g1,g2,g3,rfl⟩:=uF d;obtain⟨a0,t,z,F,G,I,J,O,U,V,W,Z,b2,b3,b4,b5,rfl⟩:=xB h
 kernel_rfl
theorem uI:(prog.info? 75).map (·.size)=some 20:=by kernel_rfl
theorem CV(f:aFJ):(bV f).length=16:=fO f
theorem rQ{f:aFJ}(h:f.Len):(c9 f).length=20:=by unfold c9;rw[aF7,aGG,CV,h.g]
theorem wW(f:aFJ):∀ v∈c9 f,v.oneCell'=true:=fun v d=>by
 unfold c9 at d;obtain⟨x,_,rfl⟩:=aGq.1 d
 rfl
theorem ZU(f:aFJ)(A:Option Addr)(c:Nat)(w:World)(h:aFQ f)(hr:Row w w.heap.size A (aV f.tones)):
  Calls prog 160 #[.agg (aZ f (.slice A f.tones.length c))] w fun e w'=>e=.returned (.agg (c9 f).toArray)/\Below w.heap.size w w':=by
 have J:=hid (fun W (hW:Below w.heap.size w W)=>xO f A c W h (hr.later hW));have I:=hid (QT (CV f) h.len.g);have O:=rQ h.len;have a2:=hid (wW f);have a1:=hid (show (c9 f).toArray.all (·.oneCell')=true by
  rw[aGY];intro v F;exact a2.out v (by simpa using F))
 have aG:=hid (show (prog.info? 75).map (·.size)=some (c9 f).toArray.size by rw[aGH,O];exact uI);have a3:=hid (show (c9 f).toArray.size=20 by rw[aGH,O]);have aN:=fX h.len (.slice A f.tones.length c);have aE:=hid (show (prog.info? 45).map (·.size)=some (aZ f (.slice A f.tones.length c)).size by rw[aN];exact bZ);have aS:(f.gains.map (Value.int .i64)).length=4:=by simp[h.gains.1]
 have aX:=hid (show (prog.info? 40).map (·.size)=some (f.gains.map (Value.int .i64)).length by rw[aS];exact b9);have aH:=hid (fun j v (F:(f.gains.map (Value.int .i64))[j]? = some v)=>tD h.len (.slice A f.tones.length c) F);have aT:c9 f=(bV f++f.gains).map (Value.int .i64):=rfl;rw[<-aT]at I;unfold aR at I J;obtain⟨t,aM⟩:∃ t,aZ f (.slice A f.tones.length c)=t:=⟨_,rfl⟩;rw[aM]at J aE aH ⊢;generalize c9 f=G at *
 generalize (bV f).map (Value.int .i64)=sv at *
 generalize f.gains.map (Value.int .i64)=gl at *
 obtain⟨d,V⟩:∃ d,w.alloc (.cells t 45)=d:=⟨_,rfl⟩;obtain⟨w2,Z⟩:∃ w2,d.alloc (.cells #[.int .i64 0,.int .i64 0,.int .i64 0,.int .i64 0,.int .i64 0,.int .i64 0,.int .i64 0,.int .i64 0,.int .i64 0,.int .i64 0,.int .i64 0,.int .i64 0,.int .i64 0,.int .i64 0,.int .i64 0,.int .i64 0,.int .i64 0,.int .i64 0,.int .i64 0,.int .i64 0] 75)=w2:=⟨_,rfl⟩;have a7:d.heap.size=w.heap.size+1:=by rw[<-V];simp
 have B2:=hid (show Below w.heap.size w w2 by rw[<-Z,<-V];exact aC (aP w _) (aP _ _));have F2:=hid (show w2.heap[w.heap.size]? = some (.cells t 45 (0,0)) by rw[<-Z];exact aF (by rw[<-V];exact LT w _) (aP d _));have P2:=hid (show w2.heap[w.heap.size+1]? = some (.cells #[.int .i64 0,.int .i64 0,.int .i64 0,.int .i64 0,.int .i64 0,.int .i64 0,.int .i64 0,.int .i64 0,.int .i64 0,.int .i64 0,.int .i64 0,.int .i64 0,.int .i64 0,.int .i64 0,.int .i64 0,.int .i64 0,.int .i64 0,.int .i64 0,.int .i64 0,.int .i64 0] 75 (0,0)) by rw[<-Z,<-a7];exact LT d _);clear O aN aS aT aM h hr;go_enter func160,ntmps160;go_wp2_with fail
 have P0:=eW F2.out;have a0:=hid (fun w' (hC:∃ x:GW w2,w'=x.1) j v (F:gl[j]? = some v)=>(show w'.cell? ⟨w.heap.size,0+j,none⟩=some v by
  obtain⟨x,rfl⟩:=hC;exact (aGo _ _ _ _ _ _ (aF F2.out x.2)).trans (aH.out j v F)))
 have a4:=hid (fun (z:GW w2)=>J.out z.1 (aC B2.out z.2));refine aJ 4 (by kernel_rfl) (by kernel_rfl) ?_;simp only[List.take_succ_cons,List.take_zero,aGO,aGR]
 repeat (first|(go_big_quiet_want;refine bT 45 (.tmp 1) rfl w.heap.size rfl _ t _ _ P0 underlying45 rfl aE.out ?_;go_simp;go_big_quiet_on)|(go_big_quiet_want;refine aY 40 (.tmp 5) rfl w.heap.size 0 rfl gl _ a0.out underlying40 rfl aX.out ?_;go_simp;go_big_quiet_on)|go_big_quiet_step ((go_at_call 130;exact bY (a4.out _))))
 refine aGv ?_;intro w3 U;have B3:=hid (aC B2.out (aQ U));have P3:=hid (aF P2.out (aQ U));clear U P0;go_wp2_with (first|(refine dP rfl 75 _ rfl G.toArray (by simpa[Act.eval] using I.out) ?_)|(refine aA rfl 75 (.tmp 2) (.tmp 7) rfl (w.heap.size+1) rfl _ _ G.toArray rfl P3.out aG.out (by rw[a3.out];rfl) a1.out ?_))
 refine aGk (v:=.agg G.toArray) (aG9 results160 _ _ (w.heap.size+1) 75 G.toArray (0,0) _ rfl (bA _ _ _ _ G.toArray P3.out) underlying75 rfl aG.out) rfl ?_;exact⟨rfl,aO B3.out _ (by omega) _⟩
def PX(w:World)(bs:List Nat)(e:Ending)(w':World):Prop:=∃ gd Ai gm,e=.returned (.tuple #[.pointer (some ⟨gd,0,none⟩),.int .i64 0])/\DiskAt w' gd bs 0 Ai gm/\w.heap.size<=gd/\w.heap.size<=gm/\gm<gd/\(∀ ad,Ai=some ad->w.heap.size<=ad.block/\ad.block<gm)/\Below w.heap.size w w'
theorem RL(bs:List Nat)(A:Option Addr)(cap:Nat)(w:World)(hl:bs.length<=4194304)(Z:Row w w.heap.size A (u8s bs)):
  Calls prog 55 #[.slice A bs.length cap] w (PX w bs):=by
 obtain⟨i0,hi,aM,aH,aI⟩:=aHx tF;have Hr:=hid Z;have H1:=hid (rY bs);have U:=hid (show (u8s bs).length=bs.length from by unfold u8s;exact aF7 _);have aU:=@run_makeMap prog;obtain⟨n,I⟩:∃ n,bs.length=n:=⟨_,rfl⟩;have HD:=hid (show ∀ e w',(∃ gd Ai gm,e=.returned (.tuple #[.pointer (some ⟨gd,0,none⟩),.int .i64 0])/\DiskAt w' gd bs 0 Ai gm/\w.heap.size<=gd/\w.heap.size<=gm/\gm<gd/\(∀ ad,Ai=some ad->w.heap.size<=ad.block/\ad.block<gm)/\Below w.heap.size w w')->PX w bs e w' from fun _ _ h=>h);generalize PX w bs=DP at *
 rw[I]at hl U ⊢;have O:=hid I;have t1:¬ ((4194304:Int)<(n:Int)):=by omega
 clear Z I;go_enter func55,ntmps55;go_wp2_with (at_builtin;refine cF _ rfl (.const (.slice none 0 0)) (.tmp 7) 32 rfl w.heap.size 5 i0 (.int .u8 0) 1 1 underlying32 hi aM aH aI rfl (by omega) (.slice none 0 0) 0 [] rfl (aHc _ _ _ _) w.heap.size A n cap (u8s bs) rfl (by rw[U.out];omega) Hr.out H1.out (by omega) (by omega) (LE _) ?_;intro z F w2 t aG aT V)
 rw[aGn]at t V;rw[List.nil_append]at t;have G:Below w.heap.size w w2:=(aGj _ _).grown aG (LE _) (fun k hk=>by cases hk);have hz:(w2.alloc (.map #[] 0)).heap.size=w2.heap.size+1:=by simp
 have hm:(w2.alloc (.map #[] 0)).heap[w2.heap.size]? = some (.map #[] 0):=LT w2 _;have W:=LT (w2.alloc (.map #[] 0)) (.cells #[.slice z n F,.map (some w2.heap.size),.int .i64 0,.int .i64 0] 203);rw[hz]at W;have aK:=(((Row.of_own t).later (aP w2 (.map #[] 0)))).later (aP _ (.cells #[.slice z n F,.map (some w2.heap.size),.int .i64 0,.int .i64 0] 203));refine HD.out _ _ ⟨w2.heap.size+1,z,w2.heap.size,rfl,⟨⟨F,by rw[O.out];exact W,by rw[O.out];exact V,gK t⟩,aK,(aHg _ _ (hlt hm)).trans hm⟩,by have:=G.size;omega,G.size,aJ1 _,fun ad had=>?_,aC (aC G (aP _ _)) (aP _ _)⟩;rcases t.2 with ⟨J,_⟩|⟨g',aQ,aR,J,aE,hg,_⟩
 ·injection J with d
  rw[had]at d;cases d
 ·injection J with d
  rw[had]at d;injection d with d
  rw[d];exact⟨aE,hlt hg⟩
def aE6(w:World)(gd:Nat)(bs:List Nat)(rd:Int)(Ai:Option Addr)(gm:Nat)(p:Nat)(e:Ending)(w':World):Prop :=
 ∃ d,e=.returned (.tuple #[.slice (some ⟨d,0,none⟩) 64 64,.int .i64 0])/\w.heap.size<=d/\Blk w' d 5 (u8s (jB bs p))/\DiskAt w' gd bs (rd+1) Ai gm/\aFL [gd] w w'
theorem NW(w:World)(g:Nat)(bs:List Nat)(rd:Int)(Ai:Option Addr)(gm:Nat)(p:Nat)(h:DiskAt w g bs rd Ai gm)(hl:bs.length<=4194304)(hp:p*64+64<=bs.length)(hA:∀ ad,Ai=some ad->ad.block≠g)(aW:gm≠g)(hb:Byt bs)(cR:0<=rd/\rd<=4000000000000000):
  Calls prog 152 #[.pointer (some ⟨g,0,none⟩),.int .i64 p] w (aE6 w g bs rd Ai gm p):=by
 have HW:=hid (RM w g bs rd Ai gm p h hl);rw[sL (by omega)]at HW;obtain⟨⟨ci,h1,h2,h3⟩,h4,h5⟩:=h;obtain⟨n,hn⟩:∃ n,bs.length=n:=⟨_,rfl⟩;rw[hn]at hl hp h1 h2;have Hn:=hid hn;obtain⟨b0,bI⟩:∃ b0,bs[0]? = some b0:=⟨_,TT (by omega)⟩;obtain⟨bi,oi,rfl,cQ,_⟩:=h4 0 _ (eL bI);have H1:=hid h1;have H4:=hid h4;have H5:=hid h5;have HX:=hid (show Blk w g 203 [.slice (some ⟨bi,oi,none⟩) n ci,.map (some gm),.int .i64 rd,.int .i64 0] from h1);obtain⟨d,bM⟩:∃ d,w.setCell ⟨g,2,none⟩ (.int .i64 (rd+1))=d:=⟨_,rfl⟩;have bJ:w.grownBy d (some g):=by rw[<-bM];exact aHI (aG1 _ _) _ _
 have W:=hid (show Blk d g 203 [.slice (some ⟨bi,oi,none⟩) n ci,.map (some gm),.int .i64 (rd+1),.int .i64 0] by rw[<-bM];exact HX.out.set_ 2 _);have V:=hid (aFL.of_grown bJ (aGx.2 rfl));have L1:=hid (aBt (V.out.heap h5 (by simpa using aW)) p (by omega) (by omega));have R1:=hid (V.out.row h4 (fun ad had=>by simpa using hA ad had));have M1:=hid (V.out.heap h5 (by simpa using aW));have c2:=HX.out.cell 2;have f2:=HX.out.frozen 2;have d1:=W.out.cell 1;have l1:=L1.out;have cU:IntKind.i64.wrap (rd+1)=rd+1:=aGl _ (by omega);have cS:rd+1<=4000000000000001:=by omega
 obtain⟨i0,hi,cC,b5,b6⟩:=aHx tF;obtain⟨w2,aD⟩:∃ w2,d.alloc (.cells #[.int .i64 0,.int .i64 0,.int .u8 0] 206)=w2:=⟨_,rfl⟩;have bP:w2.heap.size=d.heap.size+1:=by rw[<-aD];simp
 have B2:=hid (show Below d.heap.size d w2 by rw[<-aD];exact aP d _);have F2:=hid (show Blk w2 d.heap.size 206 [.int .i64 0,.int .i64 0,.int .u8 0] by rw[<-aD];exact Blk.new d _ _);obtain⟨F,aI⟩:∃ F,w2.alloc (.cells (madeCells (Value.int .u8 0).cells (64*1)) 5)=F:=⟨_,rfl⟩;have B3:=hid (show Below w2.heap.size w2 F by rw[<-aI];exact aP w2 _);have aY:(madeCells (Value.int .u8 0).cells (64*1)).toList=List.replicate (64*1) (.int .u8 0):=fV _ _ (by decide) (fun j J=>by
  have:j=0:=by have:j<1:=J;omega
  subst this
  rfl) _
 have Z3:=hid (show F.heap[w2.heap.size]? = some (.cells (madeCells (Value.int .u8 0).cells (64*1)) 5 (0,0)) by rw[<-aI];exact LT w2 _);obtain⟨t,aV⟩:∃ t,w2.heap.size=t:=⟨_,rfl⟩;rw[aV]at Z3;have E3:=hid (aC B2.out B3.out);have X3:=hid (W.out.below E3.out W.out.lt);have F3:=hid (F2.out.below B3.out F2.out.lt);have R3:=hid (R1.out.later E3.out);obtain⟨P,hP⟩:∃ P,p*64=P:=⟨_,rfl⟩;have cP:(p:Int)*64=(P:Int):=by rw[<-hP];push_cast;rfl
 have cT:IntKind.i64.wrap (P:Int)=(P:Int):=aGl _ (by omega);have b8:min (n-P) 64=64:=by omega
 have aB:(jB bs p).length=64:=eM _ _ _;have b4:(Builtin.copy_ #[32,32] 3 #[.slice (some ⟨t,0,none⟩) 64 64,.slice (some ⟨bi,oi+P,none⟩) (n-P) (ci-P)]).run prog F=.ok (goInt 64) (F.setRow t (u8s (jB bs p)).toArray):=by
  have h:=run_copy_row (P:=prog) F 32 32 3 5 t 0 64 64 ⟨bi,oi+P,none⟩ (n-P) (ci-P) (madeCells (Value.int .u8 0).cells (64*1)) 5 (u8s (jB bs p)) underlying32 OG Z3.out (by rw[jW,aB];exact b8.symm) (fun j v O=>by
   have J:j<64:=by have:=(aGi.1 O).1;rw[jW,aB]at this;exact this
   have I:(jB bs p)[j]? = some (bs.getD (64*p+j) 0):=gR J;rw[eL I]at O;have O:=aG7 O;obtain⟨y,hy⟩:∃ y,bs[P+j]? = some y:=⟨_,TT (by rw[Hn.out];omega)⟩;have e2:bs.getD (64*p+j) 0=y:=by rw[aGz,show 64*p+j=P+j by omega,hy];rfl
   rw[e2]at O;obtain⟨b',o',aS,_,hc⟩:=R3.out (P+j) _ (eL hy);injection aS with aS
   injection aS with e3 e4
   subst e3 e4;rw[O]at hc;unfold Addr.add;split
   ·rename_i aX
    have aX:j=0:=by simpa using aX
    subst aX;simpa using hc
   ·rw[aG4];exact hc) (by rw[jW,aB,<-Array.length_toList,aY,aHQ];omega) (rY _)
  have b7:(u8s (jB bs p)).length=64:=by rw[jW,aB]
  rw[b7]at h;rw[h]
  congr 2
  rw[List.take_zero,List.nil_append,aJj (by rw[aY,aHQ];omega),aIh]
 have bB:=hid aD;have bC:=hid aI;have a8:=hid aV;have bU:=hid bP;have d3:=X3.out.cell 0;clear h1 h4 h5 hn bI bJ hA aW aD aI hP aY aV bP;go_enter func152,ntmps152;go_wp2_with (first|(go_at_call 105;refine HW.out.mono ?_;rintro e w2 ⟨rfl,rfl⟩)|(refine dX _ rfl (.const (.int .i64 64)) (.const (.int .i64 64)) 32 rfl 5 i0 (.int .u8 0) 1 underlying32 hi cC b5 .i64 .i64 64 rfl rfl (by rw[b6];decide) (by decide) ?_;rw[bB.out,bC.out,a8.out]))
 obtain⟨G,a1⟩:∃ G,(jB bs p)[0]? = some G:=⟨_,TT (by omega)⟩;have cB:G<256:=by
  have I:(jB bs p)[0]? = some (bs.getD (64*p+0) 0):=gR (by omega);rw[a1]at I;have I:=aG7 I;rw[I,aGz];cases hq:bs[64*p+0]? with
  | none=>show (0:Nat)<256;omega
  | some z=>exact hb z (aGh hq)
 have bK:t=d.heap.size+1:=by rw[<-a8.out,bU.out]
 have E4:=hid (show Below d.heap.size d (F.setRow t (u8s (jB bs p)).toArray) from aO E3.out t (by omega) _);have Z:=hid (show Blk (F.setRow t (u8s (jB bs p)).toArray) t 5 (u8s (jB bs p)) from bA F t _ _ _ Z3.out);have U:=hid (show Blk (F.setRow t (u8s (jB bs p)).toArray) d.heap.size 206 [.int .i64 0,.int .i64 0,.int .u8 0] from F3.out.grown (eC (aG1 F (some t)) _) (fun e=>by have e:=aG7 e;omega));obtain⟨w4,bN⟩:∃ w4,F.setRow t (u8s (jB bs p)).toArray=w4:=⟨_,rfl⟩;rw[bN]at E4 Z U ⊢;have a2:(u8s (jB bs p))[0]? = some (.int .u8 (G:Int)):=eL a1;have cF:=fun (z:GW w4)=>(show z.1.cell? ⟨d.heap.size,1,none⟩=some (.int .i64 0) from (z.2.cell (p:=⟨d.heap.size,1,none⟩) U.out.lt).trans (U.out.cell 1))
 have cG:=fun (z:GW w4)=>(show z.1.cell? ⟨d.heap.size,2,none⟩=some (.int .u8 0) from (z.2.cell (p:=⟨d.heap.size,2,none⟩) U.out.lt).trans (U.out.cell 2))
 have xY:=fun (z:GW w4)=>(show z.1.cell? ⟨t,0,none⟩=some (.int .u8 (G:Int)) from (z.2.cell (p:=⟨t,0,none⟩) Z.out.lt).trans ((Z.out.cell 0).trans a2))
 have a9:=hid bK;have bD:=hid a2;clear b4 bN a1 a2 bK d3 bB bC;have cV:bits .xor .u8 (G:Int) 0=(G:Int):=(show ∀ y:Fin 256,bits .xor .u8 (y.1:Int) 0=(y.1:Int) by decide +kernel) ⟨G,cB⟩;refine aJ 9 (by kernel_rfl) (by kernel_rfl) ?_;simp only[List.take_succ_cons,List.take_zero,aGO,aGR]
 repeat (go_big_quiet_step (fail))
 refine aGv ?_;intro w5 a0;have E5:=hid (aC E4.out (aQ a0));have Y5:=hid (Z.out.below (aQ a0) Z.out.lt);have c5:=(Y5.out.cell 0).trans bD.out;have f5:=Y5.out.frozen 0;have bT:=hid (fun W' (hE:Below d.heap.size d W')=>(show DiskAt W' g bs (rd+1) (some ⟨bi,oi,none⟩) gm from ⟨⟨ci,by rw[Hn.out];exact W.out.below hE W.out.lt,by rw[Hn.out];exact h2,h3⟩,R1.out.later hE,(hE.block gm (hlt M1.out)).trans M1.out⟩));clear a0 cF cG xY;go_wp2;refine aGk (aGN results152 _ _ _) rfl ?_;have E6:Below d.heap.size d (w5.setCell ⟨t,0,none⟩ (.int .u8 (G:Int))):=E5.out.setCell (show d.heap.size<=t by have:=a9.out;omega) _;refine⟨t,rfl,by have:=a9.out;have:=V.out.size;omega,?_,bT.out _ E6,V.out.trans (aFL.of_below _ E6)⟩;have h:=Y5.out.set_ 0 (.int .u8 (G:Int));have e:(u8s (jB bs p)).set 0 (.int .u8 (G:Int))=u8s (jB bs p):=by
  refine aGL fun j=>?_
  by_cases J:j=0
  ·subst J;rw[aIF (by rw[jW,aB];omega),bD.out]
  ·rw[aJl (fun e=>J e.symm)]
 rw[e]at h;exact h
structure aFV where
 page:Int
 used:Bool
 full:Bool
 a:Option Addr
 len:Nat
 cap:Nat
instance:Inhabited aFV:=⟨⟨0,false,false,none,0,0⟩⟩
def aFV.cells(s:aFV):List Value:=[.int .i64 s.page,.bool s.used,.bool s.full,.slice s.a s.len s.cap]
def eQ(L:List aFV):List Value:=(L.map aFV.cells).flatten
theorem oG(L:List aFV){k:Nat}{s:aFV}(h:L[k]? = some s)(j:Nat)(t:j<4):(eQ L)[k*4+j]? = s.cells[j]?:=by
 unfold eQ;rw[mU 4 (L.map aFV.cells) (fun F d=>by obtain⟨z,_,rfl⟩:=aGq.1 d;rfl) k j t];simp[h]
theorem oH(L:List aFV):(eQ L).length=L.length*4:=by
 induction L with
 | nil=>rfl
 | cons p r d =>
  show (p.cells++eQ r).length=_;rw[aGG,d,List.length_cons,aHb];show 4+_=_;omega
structure aFN where
 hits:Int
 misses:Int
 tries:Int
 lost:Int
 hand:Nat
 retry:Nat
 SL:List aFV
def aFN.cells(v:aFN)(gd gs:Nat):List Value:=[.int .i64 v.hits,.int .i64 v.misses,.int .i64 v.tries,.int .i64 v.lost,.pointer (some ⟨gd,0,none⟩),.slice (some ⟨gs,0,none⟩) v.SL.length v.SL.length,.int .i64 v.hand,.int .i64 v.retry]
structure aFS(w:World)(gc gd gs:Nat)(v:aFN):Prop where
 head:Blk w gc 151 (v.cells gd gs)
 slots:Blk w gs 208 (eQ v.SL)
 many:v.SL.length<=1024
 one:0<v.SL.length
 hand:v.hand<v.SL.length
 tries:v.retry<=8
theorem aFS.below{w w':World}{gc gd gs:Nat}{v:aFN}(h:aFS w gc gd gs v)(hb:Below w.heap.size w w'):aFS w' gc gd gs v:=⟨h.head.below hb h.head.lt,h.slots.below hb h.slots.lt,h.many,h.one,h.hand,h.tries⟩
theorem aFS.slot{w:World}{gc gd gs:Nat}{v:aFN}(h:aFS w gc gd gs v){k:Nat}{s:aFV}(z:v.SL[k]? = some s)(j:Nat){x:Value}(d:s.cells[j]? = some x):w.cell? ⟨gs,k*4+j,none⟩=some x:=by
 have t:j<4:=(aGi.1 d).1;rw[h.slots.cell,oG v.SL z j t,d]
def DF(p:Int)(s:aFV):Bool:=s.full&&(s.page == p)
def yD(L:List aFV)(p:Int):Int:=match L.findIdx? (DF p) with|some i=>i|none=>-1
theorem aC5{L:List aFV}{p:Int}{k:Nat}{s:aFV}(z:L[k]? = some s)(h:DF p s=true)(d:∀ (t:Nat) x,t<k->L[t]? = some x->DF p x=false):yD L p=k:=by
 have:L.findIdx? (DF p)=some k:=by
  rw[aJ8];obtain⟨hk,rfl⟩:=aGi.1 z;exact⟨hk,h,fun t ht=>by rw[d t _ ht (TT (by omega))];decide⟩
 unfold yD;rw[this]
theorem XI{L:List aFV}{p:Int}(d:∀ (t:Nat) x,L[t]? = some x->DF p x=false):yD L p = -1:=by
 have:L.findIdx? (DF p)=none:=by
  rw[List.findIdx?_eq_none_iff];intro x h;obtain⟨t,ht⟩:=List.getElem?_of_mem h;exact d t x ht
 unfold yD;rw[this]
theorem JM(w:World)(gc gd gs:Nat)(v:aFN)(p:Int)(h:aFS w gc gd gs v):Calls prog 107 #[.pointer (some ⟨gc,0,none⟩),.int .i64 p] w fun e w'=>e=.returned (.int .i64 (yD v.SL p))/\w=w':=by
 have aA:=hid (fun (k:Nat) s (z:v.SL[k]? = some s) j x (d:s.cells[j]? = some x)=>h.slot z j d);have aD:=hid (fun (k:Nat) s (z:v.SL[k]? = some s) h1 h2=>aC5 (p:=p) z h1 h2);have aF:=hid (fun h1=>XI (L:=v.SL) (p:=p) h1);have hm:=h.many;have c5:w.cell? ⟨gc,5,none⟩=some (.slice (some ⟨gs,0,none⟩) v.SL.length v.SL.length):=(h.head.cell 5).trans rfl;obtain⟨n,V⟩:∃ n,v.SL.length=n:=⟨_,rfl⟩;rw[V]at c5 hm;have Hn:=hid V;generalize v.SL=L at *
 generalize yD L p=F at *
 clear h V;go_enter func107,ntmps107;go_wp2_with fail
 go_loopw [11] (fun i wr=>∃ k:Nat,k<=n/\i=.int .i64 k/\(∀ (t:Nat) x,t<k->L[t]? = some x->DF p x=false)/\wr=w) (fun i _=>n-(intOf i).toNat)
 case atStart=>exact⟨0,by omega,rfl,fun t x h=>absurd h (Nat.not_lt_zero _),rfl⟩
 case round =>
  obtain⟨k,hk,rfl,G,rfl⟩:=hrel
  by_cases OC:k<n
  ·have t1:(k:Int)<(n:Int):=by omega
   have t2:(0:Int)<=(k:Int):=by omega
   obtain⟨s,z⟩:=aE (k:=k) Hn.out OC;have s0:=aA.out k s z 0 _ (show s.cells[0]? = some (.int .i64 s.page) from rfl);have s2:=aA.out k s z 2 _ (show s.cells[2]? = some (.bool s.full) from rfl);rw[Nat.add_zero]at s0;have O:=hid G;have U:=hid z;have I:=hid (show DF p s=(s.full&&(s.page == p)) from rfl);generalize s.full=fu at *
   generalize s.page=pg at *
   clear G z;cases fu with
   | false =>
    have J:=hid (show DF p s=false by rw[I.out];rfl);go_wp2;go_roundw
    case rel=>exact⟨k+1,by omega,by go_num,fun t x ht d=>by
     by_cases Z:t=k
     ·subst Z;rw[U.out]at d;injection d with d
      rw[<-d];exact J.out
     ·exact O.out t x (by omega) d,trivial⟩
    case measure=>first|(simp[intOf];done)|(simp[intOf];omega)
   | true =>
    by_cases W:pg=p
    ·subst W;have aH:=hid (aD.out k s U.out (by rw[I.out];simp) O.out);go_wp2
     go_ret
     exact⟨by rw[aH.out];rfl,rfl⟩
    ·have hb:(pg == p)=false:=aG8.2 W;have J:=hid (show DF p s=false by rw[I.out,hb];rfl);clear W;go_wp2;go_roundw
     case rel=>exact⟨k+1,by omega,by go_num,fun t x ht d=>by
      by_cases Z:t=k
      ·subst Z;rw[U.out]at d;injection d with d
       rw[<-d];exact J.out
      ·exact O.out t x (by omega) d,trivial⟩
     case measure=>first|(simp[intOf];done)|(simp[intOf];omega)
  ·have aK:k=n:=by omega
   subst aK;have t1:¬ ((k:Int)<(k:Int)):=by omega
   have aG:=hid (aF.out (fun t x d=>G t x (by have:=(aGi.1 d).1;rw[Hn.out]at this;exact this) d));clear G;go_wp2
   go_ret
   exact⟨by rw[aG.out];rfl,rfl⟩
theorem cO{w:World}{g d:Nat}{t z:TypeId}{xs F:List Value}(h:Blk w g t xs)(k:Blk w d z F)(ht:t≠z):g≠d:=fun e=>by
 subst e;unfold Blk at h k;rw[h]at k;injection k with k
 injection k with _ k
 exact ht k
theorem xX{w:World}{g d:Nat}{t:TypeId}{xs:List Value}{z:Array MapEntry}{c:Nat}(h:Blk w g t xs)(k:w.heap[d]? = some (.map z c)):d≠g:=fun e=>by
 subst e;unfold Blk at h;rw[h]at k;injection k with k
 cases k
theorem DiskAt.blk{w:World}{g:Nat}{bs:List Nat}{rd:Int}{Ai:Option Addr}{gm:Nat}(h:DiskAt w g bs rd Ai gm):∃ ci,Blk w g 203 [.slice Ai bs.length ci,.map (some gm),.int .i64 rd,.int .i64 0]:=by
 obtain⟨⟨ci,h1,_⟩,_⟩:=h;exact⟨ci,h1⟩
theorem DiskAt.only{w w':World}{g:Nat}{bs:List Nat}{rd:Int}{Ai:Option Addr}{gm:Nat}{S:List Nat}(h:DiskAt w g bs rd Ai gm)(d:aFL S w w')(h1:g ∉ S)(h2:gm ∉ S)(t:∀ ad,Ai=some ad->ad.block ∉ S):DiskAt w' g bs rd Ai gm:=by
 obtain⟨⟨ci,z,F,G⟩,I,J⟩:=h;exact⟨⟨ci,d.heap z h1,F,G⟩,d.row I t,d.heap J h2⟩
theorem aFS.only{w w':World}{gc gd gs:Nat}{v:aFN}{S:List Nat}(h:aFS w gc gd gs v)(d:aFL S w w')(h1:gc ∉ S)(h2:gs ∉ S):aFS w' gc gd gs v:=⟨d.heap h.head h1,d.heap h.slots h2,h.many,h.one,h.hand,h.tries⟩
def aEg(w:World)(gc gd gs:Nat)(bs:List Nat)(rd:Int)(Ai:Option Addr)(gm:Nat)(v:aFN)(p:Nat)(e:Ending)(w':World):Prop :=
 ∃ d,e=.returned (.tuple #[.slice (some ⟨d,0,none⟩) 64 64,.int .i64 0])/\w.heap.size<=d/\Blk w' d 5 (u8s (jB bs p))/\DiskAt w' gd bs (rd+1) Ai gm/\aFS w' gc gd gs { v with tries:=v.tries+1 }/\aFL [gc,gd] w w'
theorem NM(w:World)(gc gd gs:Nat)(bs:List Nat)(rd:Int)(Ai:Option Addr)(gm:Nat)(v:aFN)(p:Nat)(d:aFS w gc gd gs v)(F:DiskAt w gd bs rd Ai gm)(hl:bs.length<=4194304)(hp:p*64+64<=bs.length)(hb:Byt bs)
 (hA:∀ ad,Ai=some ad->ad.block≠gc/\ad.block≠gs/\ad.block≠gd)(aT:0<=rd/\rd<=4000000000000000)(aH:0<=v.tries/\v.tries<=4000000000000000):
  Calls prog 108 #[.pointer (some ⟨gc,0,none⟩),.int .i64 p] w (aEg w gc gd gs bs rd Ai gm v p):=by
 obtain⟨cd,I⟩:=F.blk;have W:=cO d.head I (by decide);have aL:=cO d.slots I (by decide);have aI:=cO d.head d.slots (by decide);have aJ:=xX d.head F.2.2;have aK:=xX I F.2.2;have c2:w.cell? ⟨gc,2,none⟩=some (.int .i64 v.tries):=(d.head.cell 2).trans rfl;have c4:w.cell? ⟨gc,4,none⟩=some (.pointer (some ⟨gd,0,none⟩)):=(d.head.cell 4).trans rfl;have c7:w.cell? ⟨gc,7,none⟩=some (.int .i64 v.retry):=(d.head.cell 7).trans rfl;have f2:=d.head.frozen 2;obtain⟨t,V⟩:∃ t,w.setCell ⟨gc,2,none⟩ (.int .i64 (v.tries+1))=t:=⟨_,rfl⟩;have aD:w.grownBy t (some gc):=by rw[<-V];exact aHI (aG1 _ _) _ _
 have X1:Blk t gc 151 (aFN.cells { v with tries:=v.tries+1 } gd gs):=by rw[<-V];exact d.head.set_ 2 _
 have G:=hid (aFL.of_grown aD (aGx.2 rfl));have J:=hid (show aFS t gc gd gs { v with tries:=v.tries+1 } from ⟨X1,G.out.heap d.slots (by simpa using aI.symm),d.many,d.one,d.hand,d.tries⟩);have D1:=hid (F.only G.out (by simpa using W.symm) (by simpa using aJ) (fun ad had=>by simpa using (hA ad had).1));have O:=hid (NW t gd bs rd Ai gm p D1.out hl hp (fun ad had=>(hA ad had).2.2) aK hb aT);have d4:t.cell? ⟨gc,4,none⟩=some (.pointer (some ⟨gd,0,none⟩)):=(J.out.head.cell 4).trans rfl;have aU:IntKind.i64.wrap ((v.retry:Int)+1)=(v.retry:Int)+1:=aGl _ (by have:=d.tries;omega);have aV:IntKind.i64.wrap (v.tries+1)=v.tries+1:=aGl _ (by omega);have aS:=d.tries;have Z:=hid (show gc≠gd/\gs≠gd from ⟨W,aL⟩);have aW:=hid aH;unfold aE6 at O;have HT:=hid (show ∀ e w',(∃ z,e=.returned (.tuple #[.slice (some ⟨z,0,none⟩) 64 64,.int .i64 0])/\w.heap.size<=z/\Blk w' z 5 (u8s (jB bs p))/\DiskAt w' gd bs (rd+1) Ai gm/\aFS w' gc gd gs { v with tries:=v.tries+1 }/\aFL [gc,gd] w w')->aEg w gc gd gs bs rd Ai gm v p e w' from fun _ _ h=>h);generalize aEg w gc gd gs bs rd Ai gm v p=TP at *
 have aN:=J;obtain⟨hits,misses,tries,lost,hand,retry,SL⟩:=v;simp only at c2 c7 aU aV aS V;clear d F hA I aD X1 W aL aI aJ aK hl hp hb J aH;have t1:(0:Int)<(retry:Int)+1:=by omega
 go_enter func108,ntmps108;go_wp2_with fail
 refine aHD 1 ?_;rw[rounds_succ];go_wp2_with (go_at_call 152;fail)
 refine O.out.mono ?_;rintro e w2 ⟨z,rfl,aE,hY,aB,U⟩;have HF:=hid (HT.out _ w2 ⟨z,rfl,aGE G.out.size aE,hY,aB,aN.out.only U (by simpa using Z.out.1) (by simpa using Z.out.2),(G.out.more (by simp)).trans (U.more (by simp))⟩);clear aE hY aB U O;go_wp2;exact HF.out
def aFV.strip(s:aFV):Int × Bool × Option Addr × Nat × Nat:=(s.page,s.full,s.a,s.len,s.cap)
structure aF6(v v':aFN):Prop where
 hits:v'.hits=v.hits
 misses:v'.misses=v.misses
 tries:v'.tries=v.tries
 lost:v'.lost=v.lost
 retry:v'.retry=v.retry
 slots:v'.SL.map aFV.strip=v.SL.map aFV.strip
theorem aF6.refl(v:aFN):aF6 v v:=⟨rfl,rfl,rfl,rfl,rfl,rfl⟩
theorem aF6.len{v v':aFN}(h:aF6 v v'):v'.SL.length=v.SL.length:=by
 have:=aGp List.length h.slots;simpa using this
def aEa(w:World)(gs k:Nat):Bool:=match w.cell? ⟨gs,k*4+1,none⟩ with|some (.bool b)=>b|_=>false
def sP(w:World)(gs n:Nat):Nat:=(List.range n).countP (aEa w gs)
theorem qR{w:World}{gc gd gs:Nat}{v:aFN}(h:aFS w gc gd gs v):sP w gs v.SL.length=v.SL.countP (·.used):=by
 have e:v.SL=(List.range v.SL.length).map (fun k=>v.SL.getD k default):=by
  refine aGL fun k=>?_
  rw[aF5]
  by_cases hk:k<v.SL.length
  ·rw[aHa hk,Option.map_some,aGz,TT hk]
   rfl
  ·rw[aGr (by omega),aGr (by simpa using hk)]
   rfl
 have d:v.SL.countP (·.used)=((List.range v.SL.length).map (fun k=>v.SL.getD k default)).countP (·.used):=aGp _ e;rw[d,List.countP_map];unfold sP;refine List.countP_congr fun k hk=>?_
 have hk:=aGA.1 hk;have z:v.SL[k]? = some (v.SL.getD k default):=by rw[aGz,TT hk];rfl
 have t:=h.slot z 1 (show (v.SL.getD k default).cells[1]? = some (.bool (v.SL.getD k default).used) from rfl);unfold aEa;rw[t];exact Iff.rfl
theorem BL:∀ (L:List aFV) (i:Nat) (s:aFV),L[i]? = some s->s.used=true->(L.set i { s with used:=false }).countP (·.used)+1=L.countP (·.used)
 | [],_,_,h,_=>by simp at h
 | x::r,0,s,h,hu=>by
  have h:x=s:=by simpa using h
  subst h;rw[List.set_cons_zero,aJi,aJi,hu]
  rfl
 | x::r,i+1,s,h,hu=>by
  have h:r[i]? = some s:=by simpa using h
  rw[List.set_cons_succ,aJi,aJi,<-BL r i s h hu];omega
theorem xD:∀ (L:List aFV) (i:Nat) (s:aFV) (j:Nat) (x:Value) (s':aFV),L[i]? = some s->j<4->s'.cells=s.cells.set j x->(eQ L).set (i*4+j) x=eQ (L.set i s')
 | [],_,_,_,_,_,h,_,_=>by simp at h
 | y::r,0,s,j,x,s',h,hj,hc=>by
  have h:y=s:=by simpa using h
  subst h;show (y.cells++eQ r).set (0*4+j) x=s'.cells++eQ r;rw[aIk,aGn,hc,aJo _ _ (by show j<4;exact hj)]
 | y::r,i+1,s,j,x,s',h,hj,hc=>by
  have h:r[i]? = some s:=by simpa using h
  show (y.cells++eQ r).set ((i+1)*4+j) x=y.cells++eQ (r.set i s');have d:y.cells.length=4:=rfl;rw[aHA _ _ (by rw[d];omega),d,show (i+1)*4+j-4=i*4+j by omega,xD r i s j x s' h hj hc]
theorem aCc{L:List aFV}{i:Nat}{s s':aFV}(h:L[i]? = some s)(d:s'.strip=s.strip):(L.set i s').map aFV.strip=L.map aFV.strip:=by
 rw[aG0,d];refine aGL fun k=>?_
 by_cases hk:i=k
 ·subst hk;have hi:=(aGi.1 h).1;rw[aIF (by rw[aF7];exact hi),aF5,h]
  rfl
 ·rw[aJl hk]
def DK(w:World)(gc gd gs:Nat)(v:aFN)(e:Ending)(w':World):Prop:=∃ (i:Nat) (v':aFN),e=.returned (.int .i64 i)/\i<v.SL.length/\aF6 v v'/\aFS w' gc gd gs v'/\aFL [gc,gs] w w'
theorem DE(w:World)(gc gd gs:Nat)(v:aFN)(h:aFS w gc gd gs v):Calls prog 109 #[.pointer (some ⟨gc,0,none⟩)] w (DK w gc gd gs v):=by
 have a5:=cO h.head h.slots (by decide);have HV:=hid (show ∀ e w',(∃ (i:Nat) (v':aFN),e=.returned (.int .i64 i)/\i<v.SL.length/\aF6 v v'/\aFS w' gc gd gs v'/\aFL [gc,gs] w w')->DK w gc gd gs v e w' from fun _ _ h=>h);generalize DK w gc gd gs v=VP at *
 have Hh:=hid h;have aU:=hid a5;obtain⟨n,Z⟩:∃ n,v.SL.length=n:=⟨_,rfl⟩;have bJ:0<n:=by rw[<-Z];exact h.one
 have bT:n<=1024:=by rw[<-Z];exact h.many
 rw[Z]at HV;have Hn:=hid Z;clear h a5 Z;go_enter func109,ntmps109;go_wp2_with fail
 go_loopw [3] (fun _ wr=>∃ v',aF6 v v'/\aFS wr gc gd gs v'/\aFL [gc,gs] w wr) (fun _ wr=>sP wr gs n)
 case atStart=>exact⟨v,aF6.refl v,Hh.out,aFL.refl _ _⟩
 case round =>
  obtain⟨v1,aM,J,hO⟩:=hrel;have G:=hid aM;have HC:=hid J;have HO:=hid hO;have aD:v1.SL.length=n:=by rw[aM.len,Hn.out]
  have O:=hid aD;have aB:=J.hand;rw[aD]at aB;obtain⟨d,aC⟩:∃ d,v1.hand=d:=⟨_,rfl⟩;rw[aC]at aB;have c6:wr.cell? ⟨gc,6,none⟩=some (.int .i64 d):=by rw[<-aC];exact (J.head.cell 6).trans rfl
  have c5:wr.cell? ⟨gc,5,none⟩=some (.slice (some ⟨gs,0,none⟩) n n):=by rw[<-aD];exact (J.head.cell 5).trans rfl
  have x6:=fun (z:GW wr)=>(show z.1.cell? ⟨gc,6,none⟩=some (.int .i64 d) from (z.2.cell (p:=⟨gc,6,none⟩) J.head.lt).trans c6)
  have x5:=fun (z:GW wr)=>(show z.1.cell? ⟨gc,5,none⟩=some (.slice (some ⟨gs,0,none⟩) n n) from (z.2.cell (p:=⟨gc,5,none⟩) J.head.lt).trans c5)
  obtain⟨h2,aL⟩:∃ h2,(d+1) % n=h2:=⟨_,rfl⟩;have bI:h2<n:=by rw[<-aL];exact aG6 _ bJ
  have bV:IntKind.i64.wrap ((d:Int)+1)=(d:Int)+1:=aGl _ (by omega);have bU:((d:Int)+1).tmod (n:Int)=(h2:Int):=by
   have e:(d:Int)+1=((d+1:Nat):Int):=by push_cast;rfl
   rw[e,<-aL];rfl
  have bW:IntKind.i64.wrap (h2:Int)=(h2:Int):=aGl _ (by omega);have n0:((n:Int) == 0)=false:=aG8.2 (by omega);obtain⟨s,hs⟩:∃ s,v1.SL[d]? = some s:=⟨_,List.getElem?_eq_getElem (by omega)⟩;have t1:(d:Int)<(n:Int):=by omega
  have t2:(0:Int)<=(d:Int):=by omega
  have V:=hid hs;have bA:=hid aC;have a9:=hid bI;clear aM J hO aD aC aL hs;go_wp2_with fail
  refine aJ 14 (by kernel_rfl) (by kernel_rfl) ?_;simp only[List.take_succ_cons,List.take_zero,List.drop_succ_cons,List.drop_zero]
  repeat (go_big_quiet_step (fail))
  refine aGv ?_;intro w5 aO;have I:=hid (HC.out.below (aQ aO));have O5:=hid (HO.out.trans (aFL.of_below [gc,gs] (aQ aO)));have a3:sP w5 gs n=sP wr gs n:=by
   rw[<-O.out,qR I.out,qR HC.out]
  have bC:=hid a3;have e6:w5.cell? ⟨gc,6,none⟩=some (.int .i64 d):=by rw[<-bA.out];exact (I.out.head.cell 6).trans rfl
  have f6:=I.out.head.frozen 6;obtain⟨t,a4⟩:∃ t,w5.setCell ⟨gc,6,none⟩ (.int .i64 h2)=t:=⟨_,rfl⟩;have a1:w5.grownBy t (some gc):=by rw[<-a4];exact aHI (aG1 _ _) _ _
  have aY:Blk t gc 151 (aFN.cells { v1 with hand:=h2 } gd gs):=by rw[<-a4];exact I.out.head.set_ 6 _
  have aI:aFL [gc] w5 t:=aFL.of_grown a1 (List.mem_singleton.2 rfl);have F:=hid (show aFS t gc gd gs { v1 with hand:=h2 } from ⟨aY,aI.heap I.out.slots (by simpa using aU.out.symm),I.out.many,I.out.one,by show h2<_;rw[O.out];exact a9.out,I.out.tries⟩);have O6:=hid (O5.out.trans (aI.more (by simp)));have d5:t.cell? ⟨gc,5,none⟩=some (.slice (some ⟨gs,0,none⟩) n n):=by rw[<-O.out];exact (F.out.head.cell 5).trans rfl
  have s1:=F.out.slot V.out 1 (show s.cells[1]? = some (.bool s.used) from rfl);have s2:=F.out.slot V.out 2 (show s.cells[2]? = some (.bool s.full) from rfl);have g1:=F.out.slots.frozen (d*4+1);have aT:=hid (show aF6 v { v1 with hand:=h2 } from ⟨G.out.hits,G.out.misses,G.out.tries,G.out.lost,G.out.retry,G.out.slots⟩);have bD:=hid (show sP t gs n=sP wr gs n by
   have W:sP t gs ({ v1 with hand:=h2 }:aFN).SL.length=({ v1 with hand:=h2 }:aFN).SL.countP (·.used):=qR F.out;rw[<-bC.out,<-O.out,qR I.out];exact W)
  obtain⟨us,aN⟩:∃ us,s.used=us:=⟨_,rfl⟩;obtain⟨fu,a0⟩:∃ fu,s.full=fu:=⟨_,rfl⟩;rw[aN]at s1;rw[a0]at s2;have bF:=hid aN;clear aO x6 x5 c6 c5 a3 a1 aY aI aN a0;cases fu with
  | false =>
   go_wp2;exact HV.out _ _ ⟨d,_,rfl,aB,aT.out,F.out,O6.out⟩
  | true =>
   cases us with
   | false =>
    go_wp2;exact HV.out _ _ ⟨d,_,rfl,aB,aT.out,F.out,O6.out⟩
   | true =>
    have aZ:Blk (t.setCell ⟨gs,d*4+1,none⟩ (.bool false)) gs 208 (eQ (v1.SL.set d { s with used:=false })):=by
     have h:=F.out.slots.set_ (d*4+1) (.bool false);rw[xD v1.SL d s 1 (.bool false) { s with used:=false } V.out (by omega) rfl]at h;exact h
    have aK:aFL [gs] t (t.setCell ⟨gs,d*4+1,none⟩ (.bool false)):=aFL.of_grown (aHI (aG1 _ _) _ _) (List.mem_singleton.2 rfl);have U:(v1.SL.set d { s with used:=false }).length=v1.SL.length:=List.length_set;have C7:=hid (show aFS (t.setCell ⟨gs,d*4+1,none⟩ (.bool false)) gc gd gs { v1 with hand:=h2,SL:=v1.SL.set d { s with used:=false } } from by
     refine⟨?_,aZ,by show (v1.SL.set d _).length<=_;rw[U];exact F.out.many,by show 0<(v1.SL.set d _).length;rw[U];exact F.out.one,by show h2<(v1.SL.set d _).length;rw[U];exact F.out.hand,F.out.tries⟩;have h:=aK.heap F.out.head (by simpa using aU.out);unfold aFN.cells at h ⊢;simp only[U];exact h)
    have a7:=hid (show aF6 v { v1 with hand:=h2,SL:=v1.SL.set d { s with used:=false } } from ⟨G.out.hits,G.out.misses,G.out.tries,G.out.lost,G.out.retry,(aCc (s':={ s with used:=false }) V.out rfl).trans G.out.slots⟩);have O7:=hid (O6.out.trans (aK.more (by simp)));have bE:=hid (show sP (t.setCell ⟨gs,d*4+1,none⟩ (.bool false)) gs n+1=sP wr gs n by
     rw[<-bD.out];have e1:=qR C7.out;have W:=qR F.out;have e3:=BL v1.SL d s V.out bF.out;have e1:sP (t.setCell ⟨gs,d*4+1,none⟩ (.bool false)) gs (v1.SL.set d { s with used:=false }).length=(v1.SL.set d { s with used:=false }).countP (·.used):=e1;have W:sP t gs v1.SL.length=v1.SL.countP (·.used):=W;rw[U,O.out]at e1;rw[O.out]at W;omega)
    clear aZ aK U;go_wp2;go_roundw
    case rel=>exact⟨_,a7.out,C7.out,O7.out⟩
    case measure=>have:=bE.out;omega
theorem qV{P:Program}{o:Oper}{a:Act}{w:World}{K:Act->World->Prop}{Q:Exit->Act->World->Prop}(ty:TypeId)(x y:Operand)(z:o.op=.store ty x y)
 (g off:Nat)(G:a.eval x=.pointer (some ⟨g,off,none⟩))(t:TypeId)(old xs:List Value)(I:a.eval y=.agg xs.toArray)(d:w.heap[g]? = some (.cells old.toArray t (0,0)))
 (hi:(P.info? ty).map (·.size)=some xs.length)(F:off+xs.length<=old.length)(h1:∀ v∈xs,v.oneCell'=true)
 (h:K (a.put o.dst undef) (w.setRow g (aW old off xs).toArray)):o.wp P a w K Q:=by
 unfold Oper.wp execOp;simp only[z,G,I,Instr.storeAt,Instr.sureAddr,aHS,Sem.run_pure,Result.andThen_ok,o9 w g off t ty old.toArray xs d hi (by simpa using F) h1];exact h
theorem IT{L:List aFV}{i:Nat}(hi:i<L.length)(s':aFV):aW (eQ L) (i*4) s'.cells=eQ (L.set i s'):=by
 have F:=oH L;have d:s'.cells.length=4:=rfl;refine aGL fun j=>?_
 have U:(aW (eQ L) (i*4) s'.cells).length=L.length*4:=by rw[dG (by rw[d,F];omega),F]
 by_cases O:j<L.length*4
 ·obtain⟨q,V⟩:∃ q,j / 4=q:=⟨_,rfl⟩;obtain⟨r,W⟩:∃ r,j % 4=r:=⟨_,rfl⟩;have z:j=q*4+r:=by omega
  have t:r<4:=by omega
  have G:q<L.length:=by omega
  obtain⟨s,J⟩:∃ s,L[q]? = some s:=⟨_,TT G⟩
  by_cases I:q=i
  ·subst I;have h:(L.set q s')[q]? = some s':=aIF G;rw[z,oG _ h r t];unfold aW;rw[aHU,aGP (by rw[aGB];omega),aGB,aHM (by omega),aGU (by rw[d];omega)]
   congr 1
   omega
  ·have h:(L.set i s')[q]? = some s:=by rw[aJl (fun e=>I e.symm)];exact J
   rw[z,oG _ h r t,<-oG L J r t];unfold aW
   by_cases OC:q*4+r<i*4
   ·rw[aHU,aGU (by rw[aGB];omega),aHe,FN OC]
   ·rw[aGP (by rw[aGG,aGB,d];omega),aGG,aGB,d,aHM (by omega),aHp]
    congr 1
    omega
 ·rw[aGr (by omega),aGr (by rw[oH,aIr];omega)]
def GoodS4(w:World)(bs:List Nat)(s:aFV):Prop:=s.full=true->∃ (p d:Nat),s.page=p/\p*64+64<=bs.length/\s.a=some ⟨d,0,none⟩/\s.len=64/\s.cap=64/\Blk w d 5 (u8s (jB bs p))
structure aFT(w:World)(bs:List Nat)(gc gd gs:Nat)(Ai:Option Addr)(gm:Nat)(K:Nat)(rd:Int)(v:aFN):Prop where
 cache:aFS w gc gd gs v
 disk:DiskAt w gd bs rd Ai gm
 img:∀ ad,Ai=some ad->ad.block≠gc/\ad.block≠gs/\ad.block≠gd
 full:∀ s∈v.SL,GoodS4 w bs s
 cnt:(0<=v.hits/\v.hits<=K)/\(0<=v.misses/\v.misses<=K)/\(0<=v.tries/\v.tries<=K)/\(0<=rd/\rd<=K)
theorem GoodS4.only{w w':World}{bs:List Nat}{s:aFV}{S:List Nat}(h:GoodS4 w bs s)(J:aFL S w w')(O:∀ g∈S,∃ t xs,t≠5/\Blk w g t xs):GoodS4 w' bs s:=fun hf=>by
 obtain⟨p,d,h1,h2,F,G,I,z⟩:=h hf;refine⟨p,d,h1,h2,F,G,I,J.heap z (fun hm=>?_)⟩;obtain⟨t,xs,ht,hb⟩:=O d hm;exact cO hb z ht rfl
theorem RX(L:List aFV)(p:Int):(yD L p = -1)\/∃ (i:Nat) (s:aFV),yD L p=i/\L[i]? = some s/\s.full=true/\s.page=p:=by
 unfold yD;cases h:L.findIdx? (DF p) with
 | none=>exact .inl rfl
 | some i =>
  rw[aJ8]at h;obtain⟨hi,h1,_⟩:=h;refine .inr ⟨i,L[i],rfl,TT hi,?_⟩;unfold DF at h1;simp only[aGu,aIl]at h1;exact h1
theorem aF6.good{w:World}{bs:List Nat}{v v':aFN}(h:aF6 v v')(hf:∀ s∈v.SL,GoodS4 w bs s):∀ s∈v'.SL,GoodS4 w bs s:=fun s U O=>by
 have hm:s.strip∈v.SL.map aFV.strip:=by rw[<-h.slots];exact aGq.2 ⟨s,U,rfl⟩
 obtain⟨d,V,he⟩:=aGq.1 hm;have t:d.page=s.page:=aGp (fun z=>z.1) he;have F:d.full=s.full:=aGp (fun z=>z.2.1) he;have G:d.a=s.a:=aGp (fun z=>z.2.2.1) he;have I:d.len=s.len:=aGp (fun z=>z.2.2.2.1) he;have J:d.cap=s.cap:=aGp (fun z=>z.2.2.2.2) he;have h1:=hf d V (by rw[F];exact O)
 rwa [t,G,I,J]at h1
def FreshS(w:World)(v v':aFN):Prop:=∀ s∈v'.SL,s.full=true->(∃ h∈v.SL,h.full=true/\h.a=s.a)\/(∃ d,s.a=some ⟨d,0,none⟩/\w.heap.size<=d)
def aEe(w:World)(bs:List Nat)(gc gd gs:Nat)(Ai:Option Addr)(gm:Nat)(K:Nat)(v:aFN)(p:Nat)(e:Ending)(w':World):Prop :=
 ∃ d h v',e=.returned (.tuple #[.slice (some ⟨d,0,none⟩) 64 64,.int .i64 0])/\Blk w' d 5 (u8s (jB bs p))/\aFT w' bs gc gd gs Ai gm (K+1) h v'/\aFL [gc,gs,gd] w w'/\FreshS w v v'
theorem JN(w:World)(bs:List Nat)(gc gd gs:Nat)(Ai:Option Addr)(gm K:Nat)(rd:Int)(v:aFN)(p:Nat)(h:aFT w bs gc gd gs Ai gm K rd v)(hK:K<=1000000000000000)(hl:bs.length<=4194304)(hp:p*64+64<=bs.length)(hb:Byt bs):
  Calls prog 67 #[.pointer (some ⟨gc,0,none⟩),.int .i64 p] w (aEe w bs gc gd gs Ai gm K v p):=by
 have bB:=hid (JM w gc gd gs v p h.cache);have HG:=hid (show ∀ e w',(∃ I c3 v',e=.returned (.tuple #[.slice (some ⟨I,0,none⟩) 64 64,.int .i64 0])/\Blk w' I 5 (u8s (jB bs p))/\aFT w' bs gc gd gs Ai gm (K+1) c3 v'/\aFL [gc,gs,gd] w w'/\FreshS w v v')->aEe w bs gc gd gs Ai gm K v p e w' from fun _ _ h=>h);obtain⟨cd,bC⟩:=h.disk.blk;have a6:=cO h.cache.head bC (by decide);have bH:=cO h.cache.slots bC (by decide);have aS:=cO h.cache.head h.cache.slots (by decide);have a7:=xX h.cache.head h.disk.2.2;have bG:=xX h.cache.slots h.disk.2.2;have aV:=hid (show ∀ W v',aFS W gc gd gs v'->(∀ g∈[gc],∃ t xs,t≠5/\Blk W g t xs)/\(∀ g∈[gs],∃ t xs,t≠5/\Blk W g t xs)/\(∀ g∈[gc,gs],∃ t xs,t≠5/\Blk W g t xs) from fun W v' hC=>by
  have k1:∃ t xs,t≠5/\Blk W gc t xs:=⟨_,_,by decide,hC.head⟩;have k2:∃ t xs,t≠5/\Blk W gs t xs:=⟨_,_,by decide,hC.slots⟩;refine⟨fun g Z=>?_,fun g Z=>?_,fun g Z=>?_⟩
  ·rw[List.mem_singleton.1 Z];exact k1
  ·rw[List.mem_singleton.1 Z];exact k2
  ·rcases List.mem_cons.1 Z with rfl|Z
   ·exact k1
   ·rw[List.mem_singleton.1 Z];exact k2)
 have aF:=h.cnt;obtain⟨n,hn⟩:∃ n,v.SL.length=n:=⟨_,rfl⟩;have c5:w.cell? ⟨gc,5,none⟩=some (.slice (some ⟨gs,0,none⟩) n n):=by rw[<-hn];exact (h.cache.head.cell 5).trans rfl
 have dE:n<=1024:=by rw[<-hn];exact h.cache.many
 have H:=hid h;have Hn:=hid hn;have cJ:=hid (show gc≠gd/\gs≠gd/\gc≠gs/\gm≠gc/\gm≠gs from ⟨a6,bH,aS,a7,bG⟩);generalize aEe w bs gc gd gs Ai gm K v p=GP at *
 rcases RX v.SL p with hF|⟨i,s,hF,U,bD,cX⟩
 rotate_left
 ·obtain⟨p',I,e1,_,e3,e4,e5,hY⟩:=h.full s (List.mem_of_getElem? U) bD;obtain rfl:p'=p:=by omega
  rw[hF]at bB;have hi:i<n:=by rw[<-hn];exact (List.getElem?_eq_some_iff.1 U).1
  have c0:w.cell? ⟨gc,0,none⟩=some (.int .i64 v.hits):=(h.cache.head.cell 0).trans rfl;have f0:=h.cache.head.frozen 0;have dF:IntKind.i64.wrap (v.hits+1)=v.hits+1:=aGl _ (by omega);obtain⟨J,a5⟩:∃ J,w.setCell ⟨gc,0,none⟩ (.int .i64 (v.hits+1))=J:=⟨_,rfl⟩;have a3:w.grownBy J (some gc):=by rw[<-a5];exact aHI (aG1 _ _) _ _
  have aB:aFL [gc] w J:=aFL.of_grown a3 (List.mem_singleton.2 rfl);have a2:Blk J gc 151 (aFN.cells { v with hits:=v.hits+1 } gd gs):=by rw[<-a5];exact h.cache.head.set_ 0 _
  have C1:=hid (show aFS J gc gd gs { v with hits:=v.hits+1 } from ⟨a2,aB.heap h.cache.slots (by simpa using aS.symm),h.cache.many,h.cache.one,h.cache.hand,h.cache.tries⟩);have D1:=hid (h.disk.only aB (by simpa using a6.symm) (by simpa using a7) (fun ad had=>by simpa using (h.img ad had).1));have F1:=hid (fun x G=>(h.full x G).only aB (aV.out w v h.cache).1);have Y1:=hid (aB.heap hY (fun hm=>cO h.cache.head hY (by decide) (List.mem_singleton.1 hm).symm));have d5:J.cell? ⟨gc,5,none⟩=some (.slice (some ⟨gs,0,none⟩) n n):=by rw[<-hn];exact (C1.out.head.cell 5).trans rfl
  have q1:=C1.out.slot U 1 (show s.cells[1]? = some (.bool s.used) from rfl);have g1:=C1.out.slots.frozen (i*4+1);obtain⟨w2,b8⟩:∃ w2,J.setCell ⟨gs,i*4+1,none⟩ (.bool true)=w2:=⟨_,rfl⟩;have b4:J.grownBy w2 (some gs):=by rw[<-b8];exact aHI (aG1 _ _) _ _
  have aD:aFL [gs] J w2:=aFL.of_grown b4 (List.mem_singleton.2 rfl);have b2:Blk w2 gs 208 (eQ (v.SL.set i { s with used:=true })):=by
   have hh:=C1.out.slots.set_ (i*4+1) (.bool true);rw[xD v.SL i s 1 (.bool true) { s with used:=true } U (by omega) rfl]at hh;rw[<-b8];exact hh
  have aR:(v.SL.set i { s with used:=true }).length=v.SL.length:=List.length_set;have C2:=hid (show aFS w2 gc gd gs { v with hits:=v.hits+1,SL:=v.SL.set i { s with used:=true } } from by
   refine⟨?_,b2,by show (v.SL.set i _).length<=_;rw[aR];exact h.cache.many,by show 0<(v.SL.set i _).length;rw[aR];exact h.cache.one,by show v.hand<(v.SL.set i _).length;rw[aR];exact h.cache.hand,h.cache.tries⟩;have hh:=aD.heap C1.out.head (by simpa using aS);unfold aFN.cells at hh ⊢;simp only[aR];exact hh)
  have D2:=hid (D1.out.only aD (by simpa using bH.symm) (by simpa using bG) (fun ad had=>by simpa using (h.img ad had).2.1));have Y2:=hid (aD.heap Y1.out (fun hm=>cO C1.out.slots Y1.out (by decide) (List.mem_singleton.1 hm).symm));have b7:(v.SL.set i { s with used:=true })[i]? = some { s with used:=true }:=List.getElem?_set_self (List.getElem?_eq_some_iff.1 U).1;have dC:w2.cell? ⟨gc,5,none⟩=some (.slice (some ⟨gs,0,none⟩) n n):=by rw[<-hn,<-aR];exact (C2.out.head.cell 5).trans rfl
  have q3:w2.cell? ⟨gs,i*4+3,none⟩=some (.slice (some ⟨I,0,none⟩) 64 64):=by
   have hh:=C2.out.slot b7 3 (show (aFV.cells { s with used:=true })[3]? = some (.slice s.a s.len s.cap) from rfl);rw[e3,e4,e5]at hh;exact hh
  have cG:=hid (show aFT w2 bs gc gd gs Ai gm (K+1) rd { v with hits:=v.hits+1,SL:=v.SL.set i { s with used:=true } } from ⟨C2.out,D2.out,h.img,fun x G=>by
   have cZ:GoodS4 J bs x:=by
    rcases List.mem_or_eq_of_mem_set G with G|rfl
    ·exact F1.out x G
    ·exact fun _=>F1.out s (List.mem_of_getElem? U) bD
   exact cZ.only aD (aV.out J _ C1.out).2.1,⟨⟨by show 0<=v.hits+1;omega,by show v.hits+1<=_;push_cast;omega⟩,⟨aF.2.1.1,by show v.misses<=_;push_cast;omega⟩,⟨aF.2.2.1.1,by show v.tries<=_;push_cast;omega⟩,⟨aF.2.2.2.1,by push_cast;omega⟩⟩⟩)
  have HO:=hid (show aFL [gc,gs,gd] w w2 from (aB.more (by simp)).trans (aD.more (by simp)));have cE:=hid (show FreshS w v { v with hits:=v.hits+1,SL:=v.SL.set i { s with used:=true } } from fun x G bP=>by
   rcases List.mem_or_eq_of_mem_set G with G|rfl
   ·exact .inl ⟨x,G,bP,rfl⟩
   ·exact .inl ⟨s,List.mem_of_getElem? U,bD,rfl⟩)
  have t1:(i:Int)<(n:Int):=by omega
  have t2:(0:Int)<=(i:Int):=by omega
  have t3:((i:Int) ≥ 0):=by omega
  clear h hF U bD cX e1 e3 e4 e5 hY a3 aB a2 b4 aD b2 aR b7 bC a6 bH aS a7 bG aF hn;go_enter func67,ntmps67;go_wp2_with (go_at_call 107;refine bB.out.mono ?_;rintro e w' ⟨rfl,rfl⟩)
  exact HG.out _ _ ⟨I,rd,_,rfl,Y2.out,cG.out,HO.out,cE.out⟩
 ·rw[hF]at bB;have c1:w.cell? ⟨gc,1,none⟩=some (.int .i64 v.misses):=(h.cache.head.cell 1).trans rfl;have f1:=h.cache.head.frozen 1;have dG:IntKind.i64.wrap (v.misses+1)=v.misses+1:=aGl _ (by omega);obtain⟨J,a5⟩:∃ J,w.setCell ⟨gc,1,none⟩ (.int .i64 (v.misses+1))=J:=⟨_,rfl⟩;have a3:w.grownBy J (some gc):=by rw[<-a5];exact aHI (aG1 _ _) _ _
  have aB:aFL [gc] w J:=aFL.of_grown a3 (List.mem_singleton.2 rfl);have a2:Blk J gc 151 (aFN.cells { v with misses:=v.misses+1 } gd gs):=by rw[<-a5];exact h.cache.head.set_ 1 _
  have C1:=hid (show aFS J gc gd gs { v with misses:=v.misses+1 } from ⟨a2,aB.heap h.cache.slots (by simpa using aS.symm),h.cache.many,h.cache.one,h.cache.hand,h.cache.tries⟩);have D1:=hid (h.disk.only aB (by simpa using a6.symm) (by simpa using a7) (fun ad had=>by simpa using (h.img ad had).1));have F1:=hid (fun x G=>(h.full x G).only aB (aV.out w v h.cache).1);have HT:=hid (NM J gc gd gs bs rd Ai gm { v with misses:=v.misses+1 } p C1.out D1.out hl hp hb h.img ⟨aF.2.2.2.1,by omega⟩ ⟨aF.2.2.1.1,by show v.tries<=_;omega⟩);have O1:=hid aB;have cH:=hid aF;have bS:=hid (show (prog.info? 208).map (·.size)=some 4 by kernel_rfl);unfold aEg at HT;clear h hF a3 aB a2 bC a6 bH aS a7 bG aF hn c5;go_enter func67,ntmps67;go_wp2_with (first|(go_at_call 107;refine bB.out.mono ?_;rintro e w' ⟨rfl,rfl⟩)|(go_at_call 108;fail))
  refine HT.out.mono ?_;rintro e w2 ⟨I,rfl,b5,hY,b1,b0,aD⟩;have C2:=hid b0;have D2:=hid b1;have Y2:=hid hY;have cI:=hid (aGE O1.out.size b5);have O2:=hid aD;have F2:=hid (fun x G=>(F1.out x G).only aD (fun g Z=>by
   rcases List.mem_cons.1 Z with rfl|Z
   ·exact⟨_,_,by decide,C1.out.head⟩
   ·rw[List.mem_singleton.1 Z];obtain⟨dA,cV⟩:=D1.out.blk;exact⟨_,_,by decide,cV⟩))
  clear b5 hY b1 b0 aD HT;go_wp2_with fail
  refine aIf (by kernel_rfl) ?_;change wpAny _ _ _ _ _ _ _ (World.drew _);obtain⟨w8,bO⟩:∃ w8,w2.drew=w8:=⟨_,rfl⟩;have B8:=hid (show Below w2.heap.size w2 w8 by rw[<-bO];exact (aGj w2.heap.size w2).drew);have C8:=hid (C2.out.below B8.out);have aW:=hid (DE w8 gc gd gs _ C8.out);unfold DK at aW;have x8:w8.cell? ⟨gc,5,none⟩=some (.slice (some ⟨gs,0,none⟩) n n):=by rw[<-Hn.out];exact (C8.out.head.cell 5).trans rfl
  have bR:=hid (show ∀ O d F,F<n->aF6 { v with misses:=v.misses+1,tries:=v.tries+1 } d->aFS O gc gd gs d->aFL [gc,gs] w8 O->∃ v',Blk (O.setRow gs (eQ (d.SL.set F ⟨p,true,true,some ⟨I,0,none⟩,64,64⟩)).toArray) I 5 (u8s (jB bs p))/\aFT (O.setRow gs (eQ (d.SL.set F ⟨p,true,true,some ⟨I,0,none⟩,64,64⟩)).toArray) bs gc gd gs Ai gm (K+1) (rd+1) v'/\aFL [gc,gs,gd] w (O.setRow gs (eQ (d.SL.set F ⟨p,true,true,some ⟨I,0,none⟩,64,64⟩)).toArray)/\FreshS w v v' from fun O d F aQ hS V aE=>by
   have aH:d.SL.length=n:=by rw[hS.len];exact Hn.out
   have hX:=bA O gs _ _ (eQ (d.SL.set F ⟨p,true,true,some ⟨I,0,none⟩,64,64⟩)).toArray V.slots;have hO:aFL [gs] O (O.setRow gs (eQ (d.SL.set F ⟨p,true,true,some ⟨I,0,none⟩,64,64⟩)).toArray):=aFL.of_grown (eC (aG1 O (some gs)) _) (List.mem_singleton.2 rfl);generalize O.setRow gs (eQ (d.SL.set F ⟨p,true,true,some ⟨I,0,none⟩,64,64⟩)).toArray=wx at *
   have aL:=cJ.out;have bE:=H.out.img;have aF:=cH.out;have bF:(d.SL.set F ⟨p,true,true,some ⟨I,0,none⟩,64,64⟩).length=d.SL.length:=List.length_set;have cU:=aE.heap (Y2.out.below B8.out Y2.out.lt) (fun hm=>by
    rcases List.mem_cons.1 hm with e|e
    ·exact cO C2.out.head Y2.out (by decide) e.symm
    ·exact cO C2.out.slots Y2.out (by decide) (List.mem_singleton.1 e).symm)
   have b3:=hO.heap cU (fun e=>cO C2.out.slots Y2.out (by decide) (List.mem_singleton.1 e).symm);have cM:=(D2.out.later B8.out).only aE (by simp;exact⟨aL.1.symm,aL.2.1.symm⟩) (by simp;exact⟨aL.2.2.2.1,aL.2.2.2.2⟩) (fun ad had=>by simp;exact⟨(bE ad had).1,(bE ad had).2.1⟩);have cN:=cM.only hO (by simpa using aL.2.1.symm) (by simpa using aL.2.2.2.2) (fun ad had=>by simpa using (bE ad had).2.1);have cP:∀ s∈v.SL,GoodS4 w8 bs s:=fun s U=>(F2.out s U).only (aFL.of_below [] B8.out) (fun g Z=>absurd Z (by simp))
   have cQ:∀ s∈v.SL,GoodS4 O bs s:=fun s U=>(cP s U).only aE (aV.out w8 _ C8.out).2.2
   have cR:=hS.good cQ;have cS:∀ s∈d.SL,GoodS4 wx bs s:=fun s U=>(cR s U).only hO (aV.out O _ V).2.1
   refine⟨{ d with SL:=d.SL.set F ⟨p,true,true,some ⟨I,0,none⟩,64,64⟩ },b3,⟨⟨?_,hX,by show (d.SL.set F _).length<=_;rw[bF];exact V.many,by show 0<(d.SL.set F _).length;rw[bF];exact V.one,by show d.hand<(d.SL.set F _).length;rw[bF];exact V.hand,V.tries⟩,cN,bE,?_,?_⟩,?_⟩
   ·have hh:=hO.heap V.head (by simpa using aL.2.2.1);unfold aFN.cells at hh ⊢;simp only[bF];exact hh
   ·intro s U;rcases List.mem_or_eq_of_mem_set U with U|rfl
    ·exact cS s U
    ·exact fun _=>⟨p,I,rfl,hp,rfl,rfl,rfl,b3⟩
   ·have e1:d.hits=v.hits:=hS.hits;have e2:d.misses=v.misses+1:=hS.misses;have e3:d.tries=v.tries+1:=hS.tries;refine⟨⟨by show 0<=d.hits;omega,by show d.hits<=_;push_cast;omega⟩,⟨by show 0<=d.misses;omega,by show d.misses<=_;push_cast;omega⟩,⟨by show 0<=d.tries;omega,by show d.tries<=_;push_cast;omega⟩,⟨by omega,by push_cast;omega⟩⟩
   refine⟨?_,fun x G bP=>?_⟩
   rotate_left
   ·rcases List.mem_or_eq_of_mem_set G with G|rfl
    ·have hm:x.strip∈v.SL.map aFV.strip:=by
      have e:d.SL.map aFV.strip=v.SL.map aFV.strip:=hS.slots;rw[<-e];exact List.mem_map.2 ⟨x,G,rfl⟩
     obtain⟨s0,cY,he⟩:=List.mem_map.1 hm;have e2:s0.full=x.full:=aGp (fun z=>z.2.1) he;have e3:s0.a=x.a:=aGp (fun z=>z.2.2.1) he;exact .inl ⟨s0,cY,by rw[e2];exact bP,e3⟩
    ·exact .inr ⟨I,rfl,cI.out⟩
   ·exact (((O1.out.more (by simp)).trans (O2.out.more (by simp))).trans (aFL.of_below _ B8.out)).trans ((aE.more (by simp)).trans (hO.more (by simp))))
  rw[bO];clear bO;refine aGI (i:=0) (v:=?_) rfl (by kernel_rfl) (by kernel_rfl) (by kernel_rfl) (fun _ _ _ h=>h) (Or.inl ⟨by rfl,?_⟩) ?_
  rotate_left
  ·intro w;go_simp;try (with_reducible rfl)
  simp only[Act.put,List.getElem_toArray,List.getElem_cons_zero,List.setIfInBounds_toArray,List.set_cons_succ,List.set_cons_zero];refine aGI (i:=1) (v:=?_) rfl (by kernel_rfl) (by kernel_rfl) (by kernel_rfl) (fun _ _ _ h=>h) (Or.inl ⟨by rfl,?_⟩) ?_
  rotate_left
  ·intro w;go_simp;try (with_reducible rfl)
  simp only[Act.put,List.getElem_toArray,List.getElem_cons_succ,List.getElem_cons_zero,List.setIfInBounds_toArray,List.set_cons_succ,List.set_cons_zero];refine aGI (i:=2) (v:=?_) rfl (by kernel_rfl) (by kernel_rfl) (by kernel_rfl) (fun _ _ _ h=>h) (Or.inl ⟨by rfl,?_⟩) ?_
  rotate_left
  ·intro w;go_simp;try (with_reducible rfl)
  simp only[Act.put,List.getElem_toArray,List.getElem_cons_succ,List.getElem_cons_zero,List.setIfInBounds_toArray,List.set_cons_succ,List.set_cons_zero];refine aGI (i:=4) (v:=?_) rfl (by kernel_rfl) (by kernel_rfl) (by kernel_rfl) (fun _ _ _ h=>h) (Or.inl ⟨by rfl,?_⟩) ?_
  rotate_left
  ·intro w;go_simp;try (with_reducible rfl)
  simp only[Act.put,List.getElem_toArray,List.getElem_cons_succ,List.getElem_cons_zero,List.setIfInBounds_toArray,List.set_cons_succ,List.set_cons_zero];refine aGI (i:=6) (v:=?_) rfl (by kernel_rfl) (by kernel_rfl) (by kernel_rfl) (fun _ _ _ h=>h) (Or.inl ⟨by rfl,?_⟩) ?_
  rotate_left
  ·intro w;go_simp;try (with_reducible rfl)
  simp only[Act.put,List.getElem_toArray,List.getElem_cons_succ,List.getElem_cons_zero,List.setIfInBounds_toArray,List.set_cons_succ,List.set_cons_zero];refine aGI (i:=7) (v:=?_) rfl (by kernel_rfl) (by kernel_rfl) (by kernel_rfl) (fun _ _ _ h=>h) (Or.inl ⟨by rfl,?_⟩) ?_
  rotate_left
  ·intro w;go_simp;try (with_reducible rfl)
  simp only[Act.put,List.getElem_toArray,List.getElem_cons_succ,List.getElem_cons_zero,List.setIfInBounds_toArray,List.set_cons_succ,List.set_cons_zero];refine aGI (i:=8) (v:=?_) rfl (by kernel_rfl) (by kernel_rfl) (by kernel_rfl) (fun _ _ _ h=>h) (Or.inl ⟨by rfl,?_⟩) ?_
  rotate_left
  ·intro w;go_simp;try (with_reducible rfl)
  simp only[Act.put,List.getElem_toArray,List.getElem_cons_succ,List.getElem_cons_zero,List.setIfInBounds_toArray,List.set_cons_succ,List.set_cons_zero];refine aHh (rs:=[3,5]) (by kernel_rfl) (by simp) ?_;refine aGX rfl (fun K hK=>?_) (aGX rfl (fun K hK=>?_) aHf)
  ·try go_simp
   refine hK _ _ ?_;clear hK K
   try simp only[Act.put,List.getElem_toArray,List.getElem_cons_succ,List.getElem_cons_zero,List.setIfInBounds_toArray,List.set_cons_succ,List.set_cons_zero]
   refine aHh (rs:=[5]) (by kernel_rfl) (by simp) ?_;refine aGX rfl (fun K hK=>?_) aHf
   try go_simp
   go_wp2_with (go_at_call 109;refine aW.out.mono ?_;rintro e O ⟨F,d,rfl,aQ,aM,V,aE⟩)
   have a4:F<n:=by rw[<-Hn.out];exact aQ
   have aH:d.SL.length=n:=by rw[aM.len];exact Hn.out
   have x9:O.cell? ⟨gc,5,none⟩=some (.slice (some ⟨gs,0,none⟩) n n):=by rw[<-aH];exact (V.head.cell 5).trans rfl
   have aU:=hid (bR.out O d F a4 aM V aE);have C9:=hid V;have aX:=hid aH;clear aQ aM V aE aH aW;have t1:(F:Int)<(n:Int):=by omega
   have t2:(0:Int)<=(F:Int):=by omega
   refine aGI (i:=9) (v:=?_) rfl (by kernel_rfl) (by kernel_rfl) (by kernel_rfl) (fun _ _ _ h=>h) (Or.inl ⟨by rfl,?_⟩) ?_
   rotate_left
   ·intro w;go_simp;try (with_reducible rfl)
   simp only[Act.put,List.getElem_toArray,List.getElem_cons_succ,List.getElem_cons_zero,List.setIfInBounds_toArray,List.set_cons_succ,List.set_cons_zero];refine aHh (rs:=[10]) (by kernel_rfl) (by simp) ?_;refine aGX rfl (fun K hK=>?_) aHf;refine qV 208 (.tmp 74) (.tmp 73) rfl gs (F*4) rfl 208 (eQ d.SL) (aFV.cells ⟨p,true,true,some ⟨I,0,none⟩,64,64⟩) rfl C9.out.slots bS.out (by rw[oH,aX.out];show F*4+4<=_;omega) (by intro x G;simp only[aFV.cells,List.mem_cons,List.not_mem_nil,aGS]at G;rcases G with rfl|rfl|rfl|rfl <;> rfl) ?_;rw[IT (by rw[aX.out];exact a4)];refine hK _ _ ?_;refine aJg (by kernel_rfl) ?_ _;obtain⟨v',h1,h2,h3,h4⟩:=aU.out;have HE:=hid (HG.out _ _ ⟨I,_,v',rfl,h1,h2,h3,h4⟩);clear h1 h2 h3 h4 aU;go_wp2;exact HE.out
  ·try go_simp
   go_wp2_with (go_at_call 109;refine aW.out.mono ?_;rintro e O ⟨F,d,rfl,aQ,aM,V,aE⟩)
   have a4:F<n:=by rw[<-Hn.out];exact aQ
   have aH:d.SL.length=n:=by rw[aM.len];exact Hn.out
   have x9:O.cell? ⟨gc,5,none⟩=some (.slice (some ⟨gs,0,none⟩) n n):=by rw[<-aH];exact (V.head.cell 5).trans rfl
   have aU:=hid (bR.out O d F a4 aM V aE);have C9:=hid V;have aX:=hid aH;clear aQ aM V aE aH aW;refine aHh (rs:=[3]) (by kernel_rfl) (by simp) ?_;refine aGX rfl (fun K hK=>?_) aHf
   try go_simp
   refine hK _ _ ?_;clear hK K
   try simp only[Act.put,List.getElem_toArray,List.getElem_cons_succ,List.getElem_cons_zero,List.setIfInBounds_toArray,List.set_cons_succ,List.set_cons_zero]
   have t1:(F:Int)<(n:Int):=by omega
   have t2:(0:Int)<=(F:Int):=by omega
   refine aGI (i:=9) (v:=?_) rfl (by kernel_rfl) (by kernel_rfl) (by kernel_rfl) (fun _ _ _ h=>h) (Or.inl ⟨by rfl,?_⟩) ?_
   rotate_left
   ·intro w;go_simp;try (with_reducible rfl)
   simp only[Act.put,List.getElem_toArray,List.getElem_cons_succ,List.getElem_cons_zero,List.setIfInBounds_toArray,List.set_cons_succ,List.set_cons_zero];refine aHh (rs:=[10]) (by kernel_rfl) (by simp) ?_;refine aGX rfl (fun K hK=>?_) aHf;refine qV 208 (.tmp 74) (.tmp 73) rfl gs (F*4) rfl 208 (eQ d.SL) (aFV.cells ⟨p,true,true,some ⟨I,0,none⟩,64,64⟩) rfl C9.out.slots bS.out (by rw[oH,aX.out];show F*4+4<=_;omega) (by intro x G;simp only[aFV.cells,List.mem_cons,List.not_mem_nil,aGS]at G;rcases G with rfl|rfl|rfl|rfl <;> rfl) ?_;rw[IT (by rw[aX.out];exact a4)];refine hK _ _ ?_;refine aJg (by kernel_rfl) ?_ _;obtain⟨v',h1,h2,h3,h4⟩:=aU.out;have HE:=hid (HG.out _ _ ⟨I,_,v',rfl,h1,h2,h3,h4⟩);clear h1 h2 h3 h4 aU;go_wp2;exact HE.out
theorem aFL.grown{S:List Nat}{w t w2:World}{ow:Option Nat}(h:aFL S w t)(d:t.grownBy w2 ow)(z:∀ k,ow=some k->w.heap.size<=k):aFL S w w2 :=
 ⟨d.os.trans h.os,d.tape.trans h.tape,d.output.trans h.output,aGE h.size d.size,fun j h1 h2=>(d.block j (aGM h1 h.size) (fun e=>by have:=z j e.symm;omega)).trans (h.block j h1 h2)⟩
theorem aFL.of_own{w w':World}{ow:Option Nat}(h:w.grownBy w' ow):aFL ow.toList w w' :=
 ⟨h.os,h.tape,h.output,h.size,fun j h1 h2=>h.block j h1 (fun e=>h2 (by rw[<-e];simp))⟩
theorem GoodS4.notin{w w':World}{bs:List Nat}{s:aFV}{S:List Nat}(h:GoodS4 w bs s)(J:aFL S w w')(O:∀ d,s.a=some ⟨d,0,none⟩->d ∉ S):GoodS4 w' bs s:=fun hf=>by
 obtain⟨p,t,h1,h2,z,F,G,I⟩:=h hf;exact⟨p,t,h1,h2,z,F,G,J.heap I (O t z)⟩
theorem aFT.only{w w':World}{bs:List Nat}{gc gd gs:Nat}{Ai:Option Addr}{gm K:Nat}{rd:Int}{v:aFN}{S:List Nat}(h:aFT w bs gc gd gs Ai gm K rd v)(d:aFL S w w')(h1:gc ∉ S)(h2:gs ∉ S)(F:gd ∉ S)(G:gm ∉ S)
 (I:∀ ad,Ai=some ad->ad.block ∉ S)(J:∀ s∈v.SL,s.full=true->∀ t,s.a=some ⟨t,0,none⟩->t ∉ S):aFT w' bs gc gd gs Ai gm K rd v :=
 ⟨h.cache.only d h1 h2,h.disk.only d F G I,h.img,fun s z hf=>(h.full s z).notin d (J s z hf) hf,h.cnt⟩
theorem aFT.later{w w':World}{bs:List Nat}{gc gd gs:Nat}{Ai:Option Addr}{gm K:Nat}{rd:Int}{v:aFN}(h:aFT w bs gc gd gs Ai gm K rd v)(hb:Below w.heap.size w w'):aFT w' bs gc gd gs Ai gm K rd v :=
 h.only (aFL.of_below [] hb) (by simp) (by simp) (by simp) (by simp) (fun _ _=>by simp) (fun _ _ _ _ _=>by simp)
theorem aFT.more{w:World}{bs:List Nat}{gc gd gs:Nat}{Ai:Option Addr}{gm K K':Nat}{rd:Int}{v:aFN}(h:aFT w bs gc gd gs Ai gm K rd v)(d:K<=K'):aFT w bs gc gd gs Ai gm K' rd v :=
 ⟨h.cache,h.disk,h.img,h.full,by have:=h.cnt;omega⟩
theorem FreshS.refl(w:World)(v:aFN):FreshS w v v:=fun s d hf=>.inl ⟨s,d,hf,rfl⟩
theorem FreshS.trans{w G:World}{v v1 F:aFN}(h:FreshS w v v1)(k:FreshS G v1 F)(O:w.heap.size<=G.heap.size):FreshS w v F:=fun s hm hf=>by
 rcases k s hm hf with ⟨U,J,f0,z⟩|⟨d,e,t⟩
 ·rcases h U J f0 with ⟨V,h1,f1,I⟩|⟨d,e,t⟩
  ·exact .inl ⟨V,h1,f1,I.trans z⟩
  ·exact .inr ⟨d,z.symm.trans e,t⟩
 ·exact .inr ⟨d,e,aGE O t⟩
theorem aDY(bs:List Nat)(o n m:Nat):cC bs o (n+m)=cC bs o n++cC bs (o+n) m:=by
 refine aGL fun j=>?_
 by_cases d:j<n
 ·rw[aGU (by rw[eM];exact d),gR d,gR (by omega)]
 ·by_cases h:j<n+m
  ·rw[aGP (by rw[eM];omega),eM,gR h,gR (by omega),show o+n+(j-n)=o+j by omega]
  ·rw[aGr (by rw[eM];omega),aGr (by rw[aGG,eM,eM];omega)]
theorem AN{w:World}{base:Nat}{e:TypeId}{size n:Nat}{v:Value}{xs:List Value}(h:w.ownsRow base e size v n xs){g:Nat}(d:v.ownBlock=some g):base<=g/\g<w.heap.size:=by
 rcases h.2 with ⟨rfl,_⟩|⟨z,F,G,rfl,hb,hh,_⟩
 ·cases d
 ·have t:z=g:=aG7 d;subst t;exact⟨hb,hlt hh⟩
theorem aDM{w w':World}{base:Nat}{e:TypeId}{size n:Nat}{v:Value}{xs:List Value}{S:List Nat}(h:w.ownsRow base e size v n xs)(F:aFL S w w')(G:∀ x∈S,x<base):w'.ownsRow base e size v n xs:=by
 refine⟨h.1,?_⟩;rcases h.2 with I|⟨d,t,z,O,hb,hh,J⟩
 ·exact .inl I
 ·exact .inr ⟨d,t,z,O,hb,F.heap hh (fun hm=>by have:=G d hm;omega),J⟩
theorem aEU{w:World}{d r:Nat}{t:TypeId}{vs z:List Value}(h:Blk w d t vs)(F:∀ (j:Nat) v,z[j]? = some v->vs[r+j]? = some v):Row w w.heap.size (some ⟨d,r,none⟩) z:=fun j v G=>⟨d,r,rfl,h.lt,(h.cell (r+j)).trans (F j v G)⟩
theorem uZ(w:World)(gc gd gs:Nat)(v:aFN)(h:aFS w gc gd gs v):Calls prog 65 #[.pointer (some ⟨gc,0,none⟩)] w fun e w'=>e=.returned (.bool false)/\w=w':=by
 have d:w.cell? ⟨gc,4,none⟩=some (.pointer (some ⟨gd,0,none⟩)):=(h.head.cell 4).trans rfl;clear h;go_enter func65,ntmps65;go_wp2
 go_ret
 exact⟨rfl,rfl⟩
theorem JL(w:World)(gc gd gs:Nat)(v:aFN)(h:aFS w gc gd gs v):Calls prog 104 #[.pointer (some ⟨gc,0,none⟩)] w fun e w'=>e=.returned (.pointer (some ⟨gd,0,none⟩))/\w=w':=by
 have d:=hid (uZ w gc gd gs v h);have t:w.cell? ⟨gc,4,none⟩=some (.pointer (some ⟨gd,0,none⟩)):=(h.head.cell 4).trans rfl;clear h;go_enter func104,ntmps104;go_wp2_with (go_at_call 65;refine d.out.mono ?_;rintro e w' ⟨rfl,rfl⟩)
 go_ret
 exact⟨rfl,rfl⟩
def QH(w:World)(bs:List Nat)(gc gd gs:Nat)(Ai:Option Addr)(gm:Nat)(K:Nat)(v:aFN)(o n:Nat)(e:Ending)(w':World):Prop :=
 ∃ A cap d v',e=.returned (.tuple #[.slice A n cap,.int .i64 0])/\w'.ownsRow w.heap.size 5 1 (.slice A n cap) n (u8s (cC bs o n))/\aFT w' bs gc gd gs Ai gm (K+n) d v'/\aFL [gc,gs,gd] w w'/\FreshS w v v'
theorem JO(w:World)(bs:List Nat)(gc gd gs:Nat)(Ai:Option Addr)(gm K:Nat)(rd:Int)(v:aFN)(o n:Nat)(h:aFT w bs gc gd gs Ai gm K rd v)(hK:K+n<=1000000000000000)(hl:bs.length<=4194304)(bT:bs.length % 64=0)(hp:o+n<=bs.length)(h0:0<bs.length)(hb:Byt bs):
  Calls prog 14 #[.pointer (some ⟨gc,0,none⟩),.int .i64 o,.int .i64 n] w (QH w bs gc gd gs Ai gm K v o n):=by
 have HN:=hid (uZ w gc gd gs v h.cache);have aE:=hid (u9 w gd bs rd Ai gm h.disk hl);have HF:=hid (show ∀ e w',(∃ A cap aT v',e=.returned (.tuple #[.slice A n cap,.int .i64 0])/\w'.ownsRow w.heap.size 5 1 (.slice A n cap) n (u8s (cC bs o n))/\aFT w' bs gc gd gs Ai gm (K+n) aT v'/\aFL [gc,gs,gd] w w'/\FreshS w v v')->QH w bs gc gd gs Ai gm K v o n e w' from fun _ _ h=>h);obtain⟨i0,hi,b9,b1,b2⟩:=aHx tF;have c4:w.cell? ⟨gc,4,none⟩=some (.pointer (some ⟨gd,0,none⟩)):=(h.cache.head.cell 4).trans rfl;have U:gc<w.heap.size/\gs<w.heap.size/\gd<w.heap.size/\gm<w.heap.size/\(∀ ad,Ai=some ad->ad.block<w.heap.size):=by
  obtain⟨b0,bW⟩:∃ b0,bs[0]? = some b0:=⟨_,TT h0⟩;obtain⟨bi,oi,hA,bX,_⟩:=h.disk.2.1 0 _ (eL bW);obtain⟨cd,hd⟩:=h.disk.blk;refine⟨h.cache.head.lt,h.cache.slots.lt,hd.lt,hlt h.disk.2.2,fun ad had=>?_⟩;rw[hA]at had;injection had with had
  rw[<-had];exact bX
 obtain⟨t,aO⟩:∃ t,bs.length=t:=⟨_,rfl⟩;rw[aO]at hp bT hl h0 aE;obtain⟨pg,b6⟩:∃ pg,(t+63) / 64=pg:=⟨_,rfl⟩;rw[b6]at aE;have c2:(pg:Int)*64=(t:Int):=by omega
 have dA:IntKind.i64.wrap (t:Int)=(t:Int):=aGl _ (by omega);have dD:IntKind.i64.wrap ((t:Int)-(o:Int))=(t:Int)-(o:Int):=aGl _ (by omega);have t1:¬ ((o:Int)<0):=by omega
 have t2:¬ ((n:Int)<0):=by omega
 have t3:¬ ((o:Int) > (t:Int)):=by omega
 have t4:¬ ((n:Int) > (t:Int)-(o:Int)):=by omega
 have t5:¬ ((t:Int)<(o:Int)):=by omega
 have t6:¬ ((t:Int)-(o:Int)<(n:Int)):=by omega
 have d1:decide ((o:Int)<0)=false:=aGm t1;have d2:decide ((n:Int)<0)=false:=aGm t2;have d3:decide ((o:Int) > (t:Int))=false:=aGm t3;have d5:decide ((t:Int)<(o:Int))=false:=aGm t5;have d6:decide ((t:Int)-(o:Int)<(n:Int))=false:=aGm t6;have d7:decide (t<o)=false:=aGm (by omega);have d8:decide ((n:Int) > (t:Int)-(o:Int))=false:=aGm t4;have H:=hid h;have aZ:=hid aO;have a0:=hid U;clear h aO U;generalize QH w bs gc gd gs Ai gm K v o n=SP at *
 go_enter func14,ntmps14;go_wp2_with (first|(go_at_call 65;refine HN.out.mono ?_;rintro e w' ⟨rfl,rfl⟩)|(go_at_call 66;refine aE.out.mono ?_;rintro e w' ⟨rfl,rfl⟩))
 go_loopw [1,2,8] (fun a r x wr=>∃ (k:Nat) (A:Option Addr) (c:Nat) (aT:Int) (v':aFN),k<=n/\a=.int .i64 ((o+k:Nat):Int)/\r=.int .i64 ((n-k:Nat):Int)/\x=.slice A k c/\wr.ownsRow w.heap.size 5 1 (.slice A k c) k (u8s (cC bs o k))/\aFT wr bs gc gd gs Ai gm (K+k) aT v'/\aFL [gc,gs,gd] w wr/\FreshS w v v'/\(∀ s∈v'.SL,s.full=true->∀ d,s.a=some ⟨d,0,none⟩->some d≠(Value.slice A k c).ownBlock)) (fun _ r _ _=>(intOf r).toNat)
 case atStart=>exact⟨0,none,0,rd,v,by omega,rfl,by rfl,rfl,by have:=aHc w w.heap.size 5 1;exact this,H.out,aFL.refl _ _,FreshS.refl _ _,fun _ _ _ _ _ e=>by cases e⟩
 case round =>
  obtain⟨k,A,c,bF,v1,hk,rfl,rfl,rfl,aQ,hC,hO,aI,hS⟩:=hrel;have Own:=hid aQ;have C1:=hid hC;have O1:=hid hO;have aW:=hid aI;have bL:=hid hS
  by_cases OC:k<n
  ·obtain⟨a,ha⟩:∃ a,o+k=a:=⟨_,rfl⟩;obtain⟨z,hz⟩:∃ z,n-k=z:=⟨_,rfl⟩;rw[ha,hz];obtain⟨q,hq⟩:∃ q,a / 64=q:=⟨_,rfl⟩;obtain⟨r,hr⟩:∃ r,a % 64=r:=⟨_,rfl⟩;have aL:a=q*64+r:=by omega
   have c7:r<64:=by omega
   have HP:=hid (JN wr bs gc gd gs Ai gm (K+k) bF v1 q hC (by omega) (by rw[aZ.out];exact hl) (by rw[aZ.out];omega) hb);unfold aEe at HP;obtain⟨m,hm⟩:∃ m,min (64-r) z=m:=⟨_,rfl⟩;have c0:0<m:=by omega
   have c6:(a:Int).tdiv 64=(q:Int):=by rw[<-hq];rfl
   have c8:(a:Int).tmod 64=(r:Int):=by rw[<-hr];rfl
   have dB:IntKind.i64.wrap (q:Int)=(q:Int):=aGl _ (by omega);have dC:IntKind.i64.wrap (r:Int)=(r:Int):=aGl _ (by omega);have c1:min ((64-r:Nat):Int) (z:Int)=(m:Int):=by omega
   have c9:IntKind.i64.wrap ((a:Int)+(m:Int))=(a:Int)+(m:Int):=aGl _ (by omega);have dE:IntKind.i64.wrap ((z:Int)-(m:Int))=(z:Int)-(m:Int):=aGl _ (by omega);have u0:0<z:=by omega
   have u1:(0:Int)<(z:Int):=by omega
   have u2:(r:Int)<=64:=by omega
   have u3:(m:Int)<=((64-r:Nat):Int):=by omega
   have Hz:=hid hz;have Ha:=hid ha;have Hm:=hid hm;have bM:=hid aL;clear aQ hC hO aI hS hz ha hq hr hm aL;go_wp2_with (go_at_call 67;fail)
   refine HP.out.mono ?_;rintro e w2 ⟨gb,bG,Z,rfl,hY,a7,a9,a8⟩;have Y2:=hid hY;have C2:=hid a7;have O2:=hid a9;have aX:=hid a8;clear hY a7 a9 a8 HP;have U:=a0.out;have bP:=hid (aDM Own.out O2.out (fun x F=>by
    simp only[aGw,aGV,aGS]at F;omega))
   have c5:(jB bs q).length=64:=eM _ _ _;have a2:=hid (show (u8s (cC bs (o+k) m)).length=m by rw[jW,eM]);have bN:=hid (rY (cC bs (o+k) m));have bO:=hid (show Row w2 w2.heap.size (some ⟨gb,r,none⟩) (u8s (cC bs (o+k) m)) from aEU Y2.out (fun j x F=>by
    have hj:j<m:=by have:=(aGi.1 F).1;rw[a2.out]at this;exact this
    have hm:=Hm.out;have b7:r+j<64:=by omega
    have e1:=eL (gR (bs:=bs) (o:=o+k) hj);have I:=eL (gR (bs:=bs) (o:=64*q) b7);rw[e1]at F;have F:=aG7 F;rw[<-F];unfold jB;rw[I];have ha:=Ha.out;have aL:=bM.out;rw[show 64*q+(r+j)=o+k+j by omega]))
   have aF:=hid (show k+m<=n by have:=Hm.out;have:=Hz.out;omega);have cZ:k+m<=4194304:=by have:=aF.out;omega
   clear U;go_wp2_with (at_builtin;refine cF _ rfl (.tmp 66) (.tmp 67) 32 rfl w.heap.size 5 i0 (.int .u8 0) 1 1 underlying32 hi b9 b1 b2 rfl (by omega) (.slice A k c) k (u8s (cC bs o k)) rfl bP.out w2.heap.size (some ⟨gb,r,none⟩) m (64-r) (u8s (cC bs (o+k) m)) rfl (by rw[a2.out];omega) bO.out bN.out (by omega) (by omega) (aGE O1.out.size O2.out.size) ?_;intro A3 c3 w3 bC aM bB cX)
   have V:=hid (show w3.ownsRow w.heap.size 5 1 (.slice A3 (k+m) c3) (k+m) (u8s (cC bs o (k+m)))/\aFT w3 bs gc gd gs Ai gm (K+(k+m)) bG Z/\aFL [gc,gs,gd] w w3/\FreshS w v Z/\(∀ s∈Z.SL,s.full=true->∀ d,s.a=some ⟨d,0,none⟩->some d≠(Value.slice A3 (k+m) c3).ownBlock) by
    have U:=a0.out;have W:∀ x∈(Value.slice A k c).ownBlock.toList,w.heap.size<=x/\x<wr.heap.size:=fun x F=>AN Own.out (by simpa using F)
    have aP:∀ s∈Z.SL,s.full=true->∀ d,s.a=some ⟨d,0,none⟩->some d≠(Value.slice A k c).ownBlock/\d<w2.heap.size:=fun s J hf d G=>by
     have b3:d<w2.heap.size:=by
      obtain⟨p',cV,_,_,O,_,_,hB⟩:=C2.out.full s J hf;rw[G]at O;injection O with O
      injection O with O
      rw[O];exact hB.lt
     refine⟨fun e=>?_,b3⟩;rcases aX.out s J hf with ⟨s0,b8,bZ,e0⟩|⟨g2,I,cY⟩
     ·exact bL.out s0 b8 bZ d (e0.trans G) e
     ·rw[G]at I;injection I with I
      injection I with I
      have:=(AN Own.out e.symm).2;omega
    have bV:=C2.out.only (aFL.of_own aM) (fun hm=>by have:=W gc hm;omega) (fun hm=>by have:=W gs hm;omega) (fun hm=>by have:=W gd hm;omega) (fun hm=>by have:=W gm hm;omega) (fun ad had hm=>by have:=W _ hm;have:=U.2.2.2.2 ad had;omega) (fun s J hf d G hm=>(aP s J hf d G).1 (Option.mem_toList.1 hm).symm);refine⟨?_,bV.more (by omega),(O1.out.trans O2.out).grown aM (fun x F=>(AN Own.out F).1),aW.out.trans aX.out O1.out.size,fun s J hf d G e=>?_⟩
    ·rw[aDY];have e:u8s (cC bs o k++cC bs (o+k) m)=u8s (cC bs o k)++u8s (cC bs (o+k) m):=by unfold u8s;rw[aG2]
     rw[e];exact bC
    ·rcases bB with h1|h1
     ·rw[h1]at e;exact (aP s J hf d G).1 e
     ·rw[h1]at e;have:=(aP s J hf d G).2;injection e with e
      omega)
   clear bC aM bB;go_wp2;go_roundw
   case rel=>exact⟨k+m,A3,c3,bG,Z,aF.out,by have:=Ha.out;rw[show o+(k+m)=a+m by omega];push_cast;rfl,by have:=Hz.out;have:=aF.out;rw[show ((n-(k+m):Nat):Int)=(z:Int)-(m:Int) by omega],rfl,V.out.1,V.out.2.1,V.out.2.2.1,V.out.2.2.2.1,V.out.2.2.2.2⟩
   case measure=>first|(simp[intOf];done)|(simp[intOf];omega)
  ·obtain rfl:k=n:=by omega
   rw[aJv];have HE:=hid (HF.out _ _ ⟨A,c,bF,v1,rfl,Own.out,C1.out,O1.out,aW.out⟩);clear aQ hC hO aI hS;go_wp2;exact HE.out
end Go.Proofs.YtbpgfkjhclpbdaaGreatDoor
