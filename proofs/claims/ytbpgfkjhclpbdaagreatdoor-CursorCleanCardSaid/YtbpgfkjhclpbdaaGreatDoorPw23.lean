/- NetF, CodeS. Conditions: as each theorem states. -/
import Derived.Laws.CopyOwn
import Derived.Test.YtbpgfkjhclpbdaaGreatDoorPw18
set_option maxRecDepth 100000
set_option maxHeartbeats 8000000
namespace Go.Proofs.YtbpgfkjhclpbdaaGreatDoor
abbrev aIU:=@Go.below_setRow
open Tryz
open Go.Lib (hid)
section
open Go.RowKit
theorem MP(g off:Nat)(W:World):(Instr.sliceAt 43 (.pointer (some ⟨g,off,none⟩)) (some (.int .i64 8)) none none).run prog W=.ok (.slice (some ⟨g,off+8,none⟩) 8 8) W:=by
 rw[run_sliceAt_array_l W 43 ⟨g,off,none⟩ zT .i64 8 (by omega) (by rw[nN];omega),wC W];simp only[Result.andThen_ok,slicedAt,nN]
 rfl
theorem IS(g off:Nat)(W:World):(Instr.sliceAt 43 (.pointer (some ⟨g,off,none⟩)) none (some (.int .i64 8)) none).run prog W=.ok (.slice (some ⟨g,off,none⟩) 8 16) W:=by
 rw[run_sliceAt_array_h W 43 ⟨g,off,none⟩ zT .i64 8 (by omega) (by rw[nN];omega),wC W];simp only[Result.andThen_ok,slicedAt,nN]
 rfl
theorem zD{α:Type}(l:List α)(off:Nat)(xs:List α):splice l off xs=aW l off xs:=by
 unfold splice aW;rw[aHU]
theorem UK{w:World}{g:Nat}{t:TypeId}{z:List Int}(h:Blk w g t (z.map (.int .i64)))(o n:Nat):Row w w.heap.size (some ⟨g,o,none⟩) (((z.drop o).take n).map (.int .i64)):=by
 intro i v d;refine⟨g,o,rfl,h.lt,?_⟩;rw[h.cell,aF5];rw[aF5,aHe]at d;split at d
 ·rw[aHp]at d;exact d
 ·cases d
theorem MR{P:Program}{ops:Array Oper}{o:Oper}{a:Act}{w:World}{K:Act->World->Prop}{Q:Exit->Act->World->Prop}{E:Prop}(d:o.guard=none){f:FuncId}{args:Array Value}
 (t:(execOp a.eval o).run P w=.ok (.enter f args) w)(h:Calls P f args w fun e w'=>∃ v,e=.returned v/\K (a.put o.dst v) w'):
  if Region.wanted o (yielded ops a.tmps)=true then Oper.wp P o a w K Q else E:=by
 have z:Region.wanted o (yielded ops a.tmps)=true:=by simp[Region.wanted,d]
 rw[FN z];unfold Oper.wp;rw[t];exact h.mono fun e w' he=>(by obtain⟨v,rfl,hk⟩:=he;exact hk)
def pL(W:World)(g:Nat)(d:List Int)(e:Ending)(w':World):Prop :=
 e=.returned (.tuple #[])/\Blk w' g 43 (d.map (.int .i64))/\∀ B,B<=g->B<=W.heap.size->Below B W w'
theorem TurnB.bgt{d:List Int}(h:TurnB d){k:Nat}(hk:k<d.length):cI (bgt d k):=h k _ (rI hk)
theorem M9(h:List Int)(g d:Nat)(w:World)(hz:d+32<=h.length)(z:Blk w g 43 (h.map (.int .i64)))(ht:TurnB h):
  Calls prog 186 #[.agg dS,.pointer (some ⟨g,d,none⟩),.pointer (some ⟨g,d+16,none⟩),.func (.func 227) #[.agg bH] #[]] w (pL w g (yS dQ eK h (d+16))):=by
 unfold pL;have bQ:=MP g d;have bR:=IS g (d+16);have he:fS h (d+16)=lW ((h.drop (d+8)).take 8) 8:=rfl;have V:=RQ h (d+16);have aX:((h.drop (d+8)).take 8).length=8:=by rw[aGB,aHV];omega
 have H1:=hid (fun (W:World) (r:Row W W.heap.size (some ⟨g,d+8,none⟩) (((h.drop (d+8)).take 8).map (.int .i64)))=>(show Calls prog 219 #[.slice (some ⟨g,d+8,none⟩) 8 8] W (qW W (fS h (d+16))) by
  have:=xM ((h.drop (d+8)).take 8) (some ⟨g,d+8,none⟩) 8 W (by omega) r;rw[aX]at this;rw[he];exact this))
 have I:=hid (fun (W:World) (gx:Nat) (bI:gx≠g) (F:Blk W gx 2 ((fS h (d+16)).map (.int .i64))) (hb:Blk W g 43 (h.map (.int .i64))) =>
  JF (fS h (d+16)) h gx g (d+16) 8 16 2 43 W V (by omega) bI F hb
   (fun k hk=>by rw[yB _ (by omega) hk];exact ht.bgt (by omega)) (fun k hk=>ht.bgt (by omega)))
 have aH:=aDa dQ (fS h (d+16)) h (d+16) 8;have aI:=OA eK (fS h (d+16)) h (d+16) 8;have H3:=hid (fun (W:World) (gx:Nat) (F:Blk W gx 2 ((gA dQ (fS h (d+16)) h (d+16) 8).map (.int .i64)))=>(show Calls prog 219 #[.slice (some ⟨gx,0,none⟩) 8 8] W (qW W (lW (gA dQ (fS h (d+16)) h (d+16) 8) 8)) by
  have:=xM (gA dQ (fS h (d+16)) h (d+16) 8) (some ⟨gx,0,none⟩) 8 W (by omega) (fun i v t=>⟨gx,0,rfl,F.lt,by rw[F.cell,aGn];exact t⟩);rw[aH]at this;exact this))
 have HM:=hid (show yS dQ eK h (d+16)=aW (gB eK (fS h (d+16)) h (d+16) 8) (d+8) (lW (gA dQ (fS h (d+16)) h (d+16) 8) 8) from rfl);have aQ:=nP (gA dQ (fS h (d+16)) h (d+16) 8) 8;rw[HM.out];unfold VX at I;generalize lW (gA dQ (fS h (d+16)) h (d+16) 8) 8=FL at *
 have aF:=hid (show ∀ (W:World) (gx:Nat),gx≠g->Blk W gx 2 ((fS h (d+16)).map (.int .i64))->Blk W g 43 (h.map (.int .i64)) ->
  Calls prog 227 #[.agg bH,.slice (some ⟨gx,0,none⟩) 8 8,.slice (some ⟨g,d+16,none⟩) 8 16] W fun e w'=>e=.returned (.tuple #[])/\Blk w' gx 2 ((gA dQ (fS h (d+16)) h (d+16) 8).map (.int .i64)) /\
   Blk w' g 43 ((gB eK (fS h (d+16)) h (d+16) 8).map (.int .i64))/\∀ B,B<=gx->B<=g->B<=W.heap.size->Below B W w' from I.out)
 clear I HM he;generalize gA dQ (fS h (d+16)) h (d+16) 8=GA at *
 generalize gB eK (fS h (d+16)) h (d+16) 8=GB at *
 generalize fS h (d+16)=E at *
 generalize bH=tv at *
 generalize dS=lv at *
 have G:=hid (z.alloc (.cells lv 91));have R1:=hid (UK (z.alloc (.cells lv 91)) (d+8) 8);have bP:=z.lt;have aO:E.length=8:=V;have a9:=hid aO;have J:=hid aQ;have bB:=hid aI;have bO:=hz;clear V aX aH aI aQ hz ht z aO;go_enter func186,ntmps186;go_wp2_with (go_at_call 219;fail)
 refine (H1.out _ R1.out).mono ?_;rintro e w1 ⟨gx,rfl,Z,aT,O⟩;have G2:=hid (G.out.below O G.out.lt);have X2:=hid aT;have L1:=hid (aC (aP w _) O);have nx:gx≠g:=by simp at Z;omega
 have bM:w.heap.size<gx:=by simp at Z;omega
 rw[a9.out];clear aT Z O G R1;go_wp2_with (go_at_call 227;fail)
 refine (aF.out _ gx nx X2.out G2.out).mono ?_;rintro e w2 ⟨rfl,aA,aV,aR⟩;have X3:=hid aA;have G3:=hid aV;have a8:=hid aR;have bA:=hid (H3.out w2.drew gx (show Blk w2.drew gx _ _ from aA));clear aA aV aR X2 G2 H1 aF H3;go_wp2_with fail
 go_region_law ((first
  | (refine MR (f:=219) (args:=#[.slice (some ⟨gx,0,none⟩) 8 8]) rfl (by kernel_rfl) ?_;refine bA.out.mono ?_;rintro e w3 ⟨gy,rfl,bG,aU,U⟩;rw[J.out];have G4:=hid ((show Blk w2.drew g _ _ from G3.out).below U (show g<w2.drew.heap.size from G3.out.lt));have Y4:=hid aU;have B4:=hid U;clear aU U bG;refine⟨_,rfl,?_⟩)
  | (refine step_copy_splice rfl (.tmp 21) (.tmp 23) 235 235 rfl 2 underlying235 LD _ _ 8 8 8 8 (by rfl) (by rfl) g (d+8) (GB.map (Value.int .i64)) 43 G4.out (FL.map (Value.int .i64)) (by rw[aF7,J.out];rfl) (fun _=>⟨rfl,_,rfl,fun j v t=>by rw[DM,aGn,Y4.out.cell];exact t⟩) (by rw[aF7,aF7,J.out,bB.out];omega) (fun v t=>by obtain⟨x,_,rfl⟩:=aGq.1 t;rfl) g _ (aGj _ _) (LE _) ?_;intro w4 bF aS)))
 have a7:=hid aS;clear aS;go_wp2;refine aHN (v:=.tuple #[]) (aHJ results186 _ _ _) rfl ?_;refine⟨rfl,?_,fun B h1 h2=>?_⟩
 ·have:=bF.out;rw[zD,<-kU]at this;exact this
 ·have a1:=(L1.out.mono h2).trans (a8.out B (by omega) h1 (aGE h2 L1.out.size));have a2:=aHY a1 1;have a3:=a2.trans (B4.out.mono (aGE h2 a2.size));exact a3.trans (a7.out.mono h1)
theorem M8(h:List Int)(g d:Nat)(w:World)(hz:d+32<=h.length)(z:Blk w g 43 (h.map (.int .i64)))(ht:TurnB h):
  Calls prog 186 #[.agg dS,.pointer (some ⟨g,d,none⟩),.pointer (some ⟨g,d+16,none⟩),.func (.func 187) #[.agg bH] #[]] w (pL w g (yS unA unB h (d+16))):=by
 unfold pL;have bQ:=MP g d;have bR:=IS g (d+16);have he:fS h (d+16)=lW ((h.drop (d+8)).take 8) 8:=rfl;have V:=RQ h (d+16);have aX:((h.drop (d+8)).take 8).length=8:=by rw[aGB,aHV];omega
 have H1:=hid (fun (W:World) (r:Row W W.heap.size (some ⟨g,d+8,none⟩) (((h.drop (d+8)).take 8).map (.int .i64)))=>(show Calls prog 219 #[.slice (some ⟨g,d+8,none⟩) 8 8] W (qW W (fS h (d+16))) by
  have:=xM ((h.drop (d+8)).take 8) (some ⟨g,d+8,none⟩) 8 W (by omega) r;rw[aX]at this;rw[he];exact this))
 have I:=hid (fun (W:World) (gx:Nat) (bI:gx≠g) (F:Blk W gx 2 ((fS h (d+16)).map (.int .i64))) (hb:Blk W g 43 (h.map (.int .i64))) =>
  JE (fS h (d+16)) h gx g (d+16) 8 16 2 43 W V (by omega) bI F hb
   (fun k hk=>by rw[yB _ (by omega) hk];exact ht.bgt (by omega)) (fun k hk=>ht.bgt (by omega)))
 have aH:=aDa unA (fS h (d+16)) h (d+16) 8;have aI:=OA unB (fS h (d+16)) h (d+16) 8;have H3:=hid (fun (W:World) (gx:Nat) (F:Blk W gx 2 ((gA unA (fS h (d+16)) h (d+16) 8).map (.int .i64)))=>(show Calls prog 219 #[.slice (some ⟨gx,0,none⟩) 8 8] W (qW W (lW (gA unA (fS h (d+16)) h (d+16) 8) 8)) by
  have:=xM (gA unA (fS h (d+16)) h (d+16) 8) (some ⟨gx,0,none⟩) 8 W (by omega) (fun i v t=>⟨gx,0,rfl,F.lt,by rw[F.cell,aGn];exact t⟩);rw[aH]at this;exact this))
 have HM:=hid (show yS unA unB h (d+16)=aW (gB unB (fS h (d+16)) h (d+16) 8) (d+8) (lW (gA unA (fS h (d+16)) h (d+16) 8) 8) from rfl);have aQ:=nP (gA unA (fS h (d+16)) h (d+16) 8) 8;rw[HM.out];unfold VW at I;generalize lW (gA unA (fS h (d+16)) h (d+16) 8) 8=FL at *
 have aF:=hid (show ∀ (W:World) (gx:Nat),gx≠g->Blk W gx 2 ((fS h (d+16)).map (.int .i64))->Blk W g 43 (h.map (.int .i64)) ->
  Calls prog 187 #[.agg bH,.slice (some ⟨gx,0,none⟩) 8 8,.slice (some ⟨g,d+16,none⟩) 8 16] W fun e w'=>e=.returned (.tuple #[])/\Blk w' gx 2 ((gA unA (fS h (d+16)) h (d+16) 8).map (.int .i64)) /\
   Blk w' g 43 ((gB unB (fS h (d+16)) h (d+16) 8).map (.int .i64))/\∀ B,B<=gx->B<=g->B<=W.heap.size->Below B W w' from I.out)
 clear I HM he;generalize gA unA (fS h (d+16)) h (d+16) 8=GA at *
 generalize gB unB (fS h (d+16)) h (d+16) 8=GB at *
 generalize fS h (d+16)=E at *
 generalize bH=tv at *
 generalize dS=lv at *
 have G:=hid (z.alloc (.cells lv 91));have R1:=hid (UK (z.alloc (.cells lv 91)) (d+8) 8);have bP:=z.lt;have aO:E.length=8:=V;have a9:=hid aO;have J:=hid aQ;have bB:=hid aI;have bO:=hz;clear V aX aH aI aQ hz ht z aO;go_enter func186,ntmps186;go_wp2_with (go_at_call 219;fail)
 refine (H1.out _ R1.out).mono ?_;rintro e w1 ⟨gx,rfl,Z,aT,O⟩;have G2:=hid (G.out.below O G.out.lt);have X2:=hid aT;have L1:=hid (aC (aP w _) O);have nx:gx≠g:=by simp at Z;omega
 have bM:w.heap.size<gx:=by simp at Z;omega
 rw[a9.out];clear aT Z O G R1;go_wp2_with (go_at_call 187;fail)
 refine (aF.out _ gx nx X2.out G2.out).mono ?_;rintro e w2 ⟨rfl,aA,aV,aR⟩;have X3:=hid aA;have G3:=hid aV;have a8:=hid aR;have bA:=hid (H3.out w2.drew gx (show Blk w2.drew gx _ _ from aA));clear aA aV aR X2 G2 H1 aF H3;go_wp2_with fail
 go_region_law ((first
  | (refine MR (f:=219) (args:=#[.slice (some ⟨gx,0,none⟩) 8 8]) rfl (by kernel_rfl) ?_;refine bA.out.mono ?_;rintro e w3 ⟨gy,rfl,bG,aU,U⟩;rw[J.out];have G4:=hid ((show Blk w2.drew g _ _ from G3.out).below U (show g<w2.drew.heap.size from G3.out.lt));have Y4:=hid aU;have B4:=hid U;clear aU U bG;refine⟨_,rfl,?_⟩)
  | (refine step_copy_splice rfl (.tmp 21) (.tmp 23) 235 235 rfl 2 underlying235 LD _ _ 8 8 8 8 (by rfl) (by rfl) g (d+8) (GB.map (Value.int .i64)) 43 G4.out (FL.map (Value.int .i64)) (by rw[aF7,J.out];rfl) (fun _=>⟨rfl,_,rfl,fun j v t=>by rw[DM,aGn,Y4.out.cell];exact t⟩) (by rw[aF7,aF7,J.out,bB.out];omega) (fun v t=>by obtain⟨x,_,rfl⟩:=aGq.1 t;rfl) g _ (aGj _ _) (LE _) ?_;intro w4 bF aS)))
 have a7:=hid aS;clear aS;go_wp2;refine aHN (v:=.tuple #[]) (aHJ results186 _ _ _) rfl ?_;refine⟨rfl,?_,fun B h1 h2=>?_⟩
 ·have:=bF.out;rw[zD,<-kU]at this;exact this
 ·have a1:=(L1.out.mono h2).trans (a8.out B (by omega) h1 (aGE h2 L1.out.size));have a2:=aHY a1 1;have a3:=a2.trans (B4.out.mono (aGE h2 a2.size));exact a3.trans (a7.out.mono h1)
end
section
open Go.RowKit
theorem DH(z:Array Value)(v:Value)(d:0<z.size)(t:∀ j,j<z.size->z[j]! = v)(n:Nat):(Builtin.zeroCells z n).toList=List.replicate (n*z.size) v:=by
 unfold Builtin.zeroCells;rw[aJz,aJA];apply aGL;intro k;rw[aF5,aHE];rcases aGt k (n*z.size) with h|h
 ·rw[aHa h,FN h];show some (z[k % z.size]!)=some v;rw[t _ (aG6 _ d)]
 ·rw[aGr (by simpa using h),sL (by omega)];rfl
section
variable {P : Program}
theorem tX{ops:Array Oper}{rest:List Oper}{o:Oper}{a:Act}{w:World}{Q:Exit->Act->World->Prop}(Z:o.guard=none)(s x:Operand)(t:TypeId)
 (ho:o.op=.call { callee:=.builtin .append,args:=#[s,x],argTypes:=#[t,t] })
 (e:TypeId)(i:TypeInfo)(z:Value)(size bytes:Nat)(ht:P.underlying t=some (.slice e))(hi:P.info? e=some i)(hz:i.zero=some z)
 (aF:i.size=size)(U:i.bytes=bytes)(hs:a.eval s=.slice none 0 0)
 (B:Nat)(A:Addr)(m c:Nat)(d:List Value)(hx:a.eval x=.slice (some A) m c)(hl:d.length=m*size)(hr:Row w B (some A) d)
 (J:0<m)(aJ:m<=9223372036854775807)(V:m*bytes<=281474976710656)
 (h:∀ F,m<=F->wpList P ops Q rest (a.put o.dst (.slice (some ⟨w.heap.size,0,none⟩) m F)) (w.drew.alloc (.cells (d.toArray++Builtin.zeroCells z.cells (F-m)) e))):
  wpList P ops Q (o::rest) a w:=by
 refine wpList_plain Z fun K O=>?_
 have W:∀ j u,d[j]? = some u->w.cell? (A.add j)=some u:=by
  intro j u hu;obtain⟨b,off,h,_,G⟩:=hr j u hu;injection h with h
  subst h;unfold Addr.add
  by_cases I:j=0
  ·subst I;simpa using G
  ·simp[I];exact G
 have aD:=run_append_nil (P:=P) w t o.type e i z ht hi hz A m c d (by rw[aF];exact hl) W J (by omega) (by rw[U];exact V);unfold Oper.wp;simp[execOp,ho,resolve,invoke,builtin,hs,hx,aD,Result.andThen];exact O _ _ (h _ (grownCap_ge w m 0 e))
end
theorem aBR{α:Type}{l pad:List α}{off:Nat}{xs:List α}(h:off+xs.length<=l.length):aW (l++pad) off xs=aW l off xs++pad:=by
 unfold aW;rw[aJX (by omega),aJM (by omega),aHU,aHU,aHU]
theorem uC(p pad:List Int)(j:Nat):bgt (p++pad) j=if j<p.length then bgt p j else bgt pad (j-p.length):=by
 rw[j9];split
 ·rename_i h;rw[aGU h,j9]
 ·rename_i h;rw[aGP (by omega),j9]
theorem rP(t z:Int->Int->aF1->Int){p pad:List Int}{c m:Nat}(J:p.length=c*16)(hm:m<=c):jM t z (p++pad) m=jM t z p m++pad:=by
 refine gZ (n:=(p++pad).length) (eD _ _ _ _) (by rw[aGG,aGG,eD]) (fun j I=>?_);rw[fA _ _ _ _ I,uC (jM t z p m),eD]
 by_cases d:j<p.length
 ·rw[FN d,fA _ _ _ _ d]
  by_cases h:1<=(j+8) / 16/\(j+8) / 16<m
  ·have F:bgt (p++pad) j=bgt p j:=by rw[uC,FN d]
   have G:bgt (p++pad) ((j+8) / 16*32-1-j)=bgt p ((j+8) / 16*32-1-j):=by rw[uC,FN (by omega)]
   rw[FN h,FN h,F,G]
  ·rw[sL h,sL h,uC,FN d]
 ·rw[sL d,sL (by omega),uC,sL d]
theorem BdL.pad{M:Int}{p:List Int}(h:BdL M p)(d:0<=M)(n:Nat):BdL M (p++List.replicate n 0):=by
 intro j t;rw[uC];split
 ·rename_i h1;exact h j h1
 ·rw[j9,aHE];split <;> (simp only[Option.getD_some,Option.getD_none];omega)
def J6(W:World)(c:Nat)(q:List Int)(e:Ending)(w':World):Prop :=
 ∃ A cap,e=.returned (.slice A c cap)/\Below W.heap.size W w'/\c<=cap/\(c=0\/∃ g n,A=some ⟨g,0,none⟩/\W.heap.size<=g/\Blk w' g 43 ((q++List.replicate n 0).map (.int .i64)))
theorem xW:∃ i,prog.info? 43=some i/\i.zero=some (.agg (List.replicate 16 (Value.int .i64 0)).toArray)/\i.size=16/\i.bytes=128:=by
 have:=aAm;cases h:prog.info? 43 with
 | none=>rw[h]at this;cases this
 | some i =>
  rw[h]at this;simp only[Option.map_some,aIN,aI7]at this;exact⟨i,rfl,this.1,this.2.1,this.2.2⟩
theorem KH(n:Nat):(Builtin.zeroCells (Value.agg (List.replicate 16 (Value.int .i64 0)).toArray).cells n).toList=(List.replicate (n*16) (0:Int)).map (.int .i64):=by
 rw[aJm];exact DH _ _ (by decide) (fun j d=>by
  have h:j<16:=d;have hk:j=0\/j=1\/j=2\/j=3\/j=4\/j=5\/j=6\/j=7\/j=8\/j=9\/j=10\/j=11\/j=12\/j=13\/j=14\/j=15:=by omega
  rcases hk with rfl|rfl|rfl|rfl|rfl|rfl|rfl|rfl|rfl|rfl|rfl|rfl|rfl|rfl|rfl|rfl <;> rfl) n
theorem aCy(p:List Int)(c:Nat)(A:Option Addr)(cap:Nat)(w:World)(t:p.length=c*16)(hc:c<=1000000)(Z:Row w w.heap.size A (p.map (.int .i64)))(hb:BdL 300000000000 p):
  Calls prog 206 #[.agg dS,.slice A c cap] w (J6 w c (e9 p c)):=by
 obtain⟨i0,hi,a7,a8,a9⟩:=xW;have Hz:=hid KH;have J:=hid (Z.later (aP w (.cells dS 91)));rcases aHB c with rfl|h0
 ·have b4:p=[]:=aIi (by omega);subst b4;have HO:=hid (aHc (w.alloc (.cells dS 91)) w.heap.size 43 16);clear Z hb t;generalize dS=d at *
  have t1:¬ ((1:Int)<((0:Nat):Int)):=by omega
  go_enter func206,ntmps206;go_wp2_with (at_builtin;refine cF _ rfl (.const (.slice none 0 0)) (.tmp 7) 232 rfl w.heap.size 43 i0 _ 16 128 underlying232 hi a7 a8 a9 rfl (by omega) (.slice none 0 0) 0 [] rfl HO.out _ A 0 cap [] rfl rfl J.out nofun (by omega) (by omega) (by simp) ?_;intro A2 cc w2 b3 a3 bW F)
  have HA:=hid ((aP w (.cells d 91)).grown a3 (by simp) (fun g h=>by cases h));clear b3 a3 bW HO J;go_loopw [6] (fun i wr=>i=.int .i64 1/\wr=w2) (fun _ _=>0)
  case atStart=>exact⟨rfl,rfl⟩
  case round =>
   obtain⟨rfl,rfl⟩:=hrel;go_wp2
   go_ret
   exact⟨A2,cc,rfl,HA.out,aG3 _,.inl rfl⟩
 ·have hA:∃ ad,A=some ad:=by
   obtain⟨x,hx⟩:=aE (k:=0) t (by omega);obtain⟨b,off,h,_⟩:=Z 0 (.int .i64 x) (by rw[aF5,hx];rfl);exact⟨_,h⟩
  obtain⟨ad,rfl⟩:=hA;have HN:=hid (fun (n:Nat) m (hm:m<=c)=>(show TurnB (e9 p m++List.replicate n 0) from (((AF (N:=450000000004) t hm hb (by omega) (by omega)).pad (by omega) n).turnB (by omega))));have HS:=hid (fun (n i:Nat) (h1:1<=i) (h2:i<c)=>(show yS dQ eK (e9 p i++List.replicate (n*16) 0) ((i-1)*16+16)=e9 p (i+1)++List.replicate (n*16) 0 by
   have e1:=LN dQ eK (p:=p++List.replicate (n*16) 0) (c:=c+n) (i:=i) (by rw[aGG,aHQ,t];omega) h1 (by omega);rw[rP _ _ t (by omega),rP _ _ t (by omega)]at e1;rw[show (i-1)*16+16=i*16 by omega];exact e1))
  have HL:=hid (fun m=>(show (e9 p m).length=c*16 from (eD _ _ _ _).trans t));have H1:=hid (show e9 p 1=p from II _ _ p (LE 1));have aN:=hid (fun zs g oa W hz hg ht=>M9 zs g oa W hz hg ht);have a5:=fL;obtain⟨tv,b5,aG⟩:∃ tv:List Value,tv.length=16/\bH=tv.toArray:=⟨bH.toList,by rw[Array.length_toList,b7],by simp⟩;have bM:=hid (fun j v (hv:tv[j]? = some v)=>(show dS[0+j]? = some v by
   unfold dS;have hj:j<16:=by have:=(aGi.1 hv).1;omega
   rw[aGn,aJ3 (by rw[b7];exact hj),aG,aHL];exact hv))
  rw[aG]at aN;clear Z aG;generalize dS=d at *
  have bJ:=hid (show (prog.info? 91).map (·.size)=some d.size by rw[a5];exact rK);have bK:=hid (show (prog.info? 87).map (·.size)=some tv.length by rw[b5];exact AE);have aW:=hid (show (p.map (Value.int .i64)).length=c*16 by rw[aF7,t]);have aM:=hid (aP w (.cells d 91));have aO:=hid (LT w (.cells d 91));clear hb a5 t;have HV:=hid (fun z (F:c<=z)=>(show ∃ V n,(w.alloc (.cells d 91)).drew.alloc (.cells ((p.map (Value.int .i64)).toArray++Builtin.zeroCells (Value.agg (List.replicate 16 (Value.int .i64 0)).toArray).cells (z-c)) 43)=V /\
    Blk V (w.heap.size+1) 43 ((e9 p 1++List.replicate (n*16) 0).map (.int .i64))/\V.heap[w.heap.size]? = some (.cells d 91 (0,0))/\Below w.heap.size w V from by
   have e:(p.map (Value.int .i64)).toArray++Builtin.zeroCells (Value.agg (List.replicate 16 (Value.int .i64 0)).toArray).cells (z-c)=((e9 p 1++List.replicate ((z-c)*16) 0).map (Value.int .i64)).toArray:=by
    apply aHX.1;rw[Array.toList_append,Hz.out,aG2,H1.out]
   refine⟨_,z-c,rfl,?_,(aHg _ _ (by simp)).trans aO.out,(aHY aM.out 1).alloc (by simp) _⟩;rw[e];have:=Blk.new (w.alloc (.cells d 91)).drew 43 ((e9 p 1++List.replicate ((z-c)*16) 0).map (.int .i64));simpa using this))
  clear Hz aM aO;go_enter func206,ntmps206;go_wp2_with (at_builtin;refine tX rfl (.const (.slice none 0 0)) (.tmp 7) 232 rfl 43 i0 _ 16 128 underlying232 hi a7 a8 a9 rfl _ ad c cap (p.map (.int .i64)) rfl aW.out J.out h0 (by omega) (by omega) ?_;intro z F;obtain⟨V,n,hV,O,I,G⟩:=HV.out z F;rw[hV];clear hV;have O:=hid O;have I:=hid I;have G:=hid G;have bP:=hid F;clear F)
  clear HV J aW;go_loopw [6] (fun i wr=>∃ j:Nat,1<=j/\j<=c/\i=.int .i64 j/\Blk wr (w.heap.size+1) 43 ((e9 p j++List.replicate (n*16) 0).map (.int .i64))/\wr.heap[w.heap.size]? = some (.cells d 91 (0,0))/\Below w.heap.size w wr) (fun i _=>c-(intOf i).toNat)
  case atStart=>exact⟨1,by omega,by omega,rfl,O.out,I.out,G.out⟩
  case round =>
   obtain⟨j,bZ,b0,rfl,hB,a4,a2⟩:=hrel;have HB:=hid hB;have aV:=hid a4;have aU:=hid a2;clear O I G hB a4 a2
   by_cases b2:j<c
   ·obtain⟨m,rfl⟩:∃ m,j=m+1:=⟨j-1,by omega⟩;have t1:((m+1:Nat):Int)<(c:Int):=by omega
    have t2:((m+1:Nat):Int)-1=(m:Int):=by omega
    have t3:(0:Int)<=(m:Int):=by omega
    have t4:(m:Int)<(c:Int):=by omega
    have t5:(0:Int)<=((m+1:Nat):Int):=by omega
    have aD:=HS.out n (m+1) bZ b2;have aR:=HN.out (n*16) (m+1) b0;rw[show m+1-1=m by omega]at aD;have HC:=hid (fun (W:World) (hW:Blk W (w.heap.size+1) 43 ((e9 p (m+1)++List.replicate (n*16) 0).map (.int .i64)))=>(show Calls prog 186 #[.agg d,.pointer (some ⟨w.heap.size+1,m*16,none⟩),.pointer (some ⟨w.heap.size+1,(m+1)*16,none⟩),.func (.func 227) #[.agg tv.toArray] #[]] W (pL W (w.heap.size+1) (e9 p (m+1+1)++List.replicate (n*16) 0)) by
     have:=aN.out _ (w.heap.size+1) (m*16) W (by rw[aGG,HL.out];omega) hW aR;rw[aD]at this;rw[show (m+1)*16=m*16+16 by omega];exact this))
    have x5:=eW aV.out;have y5:=fun W hW j v hv=>(show World.cell? W ⟨w.heap.size,0+j,none⟩=some v from (aGo _ _ _ _ _ _ (x5 W hW)).trans (bM.out j v hv))
    clear aD aR;go_wp2_with fail
    refine aJ 11 (by kernel_rfl) (by kernel_rfl) ?_;simp only[List.take_succ_cons,List.take_zero,aGO,aGR]
    repeat (first|(go_big_quiet_want;refine bT 91 (.tmp 2) rfl w.heap.size rfl _ d _ _ x5 underlying91 rfl bJ.out ?_;go_simp;go_big_quiet_on)|(go_big_quiet_want;refine aY 87 (.tmp 23) rfl w.heap.size 0 rfl tv _ y5 underlying87 rfl bK.out ?_;go_simp;go_big_quiet_on)|go_big_quiet_step (fail))
    refine aGv ?_;intro w5 a6;have U:=aQ a6;have B5:=hid (HB.out.below U HB.out.lt);have L5:=hid (aF aV.out U);have E5:=hid (aC aU.out U);clear a6 U x5 y5;go_wp2_with (go_at_call 186;fail)
    refine (HC.out _ B5.out).mono ?_;rintro e w6 ⟨rfl,a1,aH⟩;have bV:=hid a1;have L6:=hid ((aH (w.heap.size+1) (LE _) (by have:=B5.out.lt;omega)).block w.heap.size (by omega) |>.trans L5.out);have E6:=hid (E5.out.trans (aH w.heap.size (by omega) E5.out.size));clear a1 aH;go_wp2;go_roundw
    case rel=>exact⟨m+1+1,by omega,by omega,by go_num,bV.out,L6.out,E6.out⟩
    case measure=>simp[intOf];omega
   ·have b1:j=c:=by omega
    subst b1;have t1:¬ ((j:Int)<(j:Int)):=by omega
    go_wp2
    go_ret
    exact⟨_,_,rfl,aU.out,bP.out,.inr ⟨w.heap.size+1,n*16,rfl,by omega,HB.out⟩⟩
theorem aCE(p:List Int)(c:Nat)(A:Option Addr)(cap:Nat)(w:World)(t:p.length=c*16)(hc:c<=1000000)(Z:Row w w.heap.size A (p.map (.int .i64)))(hb:BdL 300000000000 p):
  Calls prog 163 #[.agg dS,.slice A c cap] w (J6 w c (eO p c)):=by
 obtain⟨i0,hi,a7,a8,a9⟩:=xW;have Hz:=hid KH;have J:=hid (Z.later (aP w (.cells dS 91)));rcases aHB c with rfl|h0
 ·have b4:p=[]:=aIi (by omega);subst b4;have HO:=hid (aHc (w.alloc (.cells dS 91)) w.heap.size 43 16);clear Z hb t;generalize dS=d at *
  have t1:¬ ((1:Int)<((0:Nat):Int)):=by omega
  go_enter func163,ntmps163;go_wp2_with (at_builtin;refine cF _ rfl (.const (.slice none 0 0)) (.tmp 7) 232 rfl w.heap.size 43 i0 _ 16 128 underlying232 hi a7 a8 a9 rfl (by omega) (.slice none 0 0) 0 [] rfl HO.out _ A 0 cap [] rfl rfl J.out nofun (by omega) (by omega) (by simp) ?_;intro A2 cc w2 b3 a3 bW F)
  have HA:=hid ((aP w (.cells d 91)).grown a3 (by simp) (fun g h=>by cases h));clear b3 a3 bW HO J;go_loopw [6] (fun i wr=>i=.int .i64 1/\wr=w2) (fun _ _=>0)
  case atStart=>exact⟨rfl,rfl⟩
  case round =>
   obtain⟨rfl,rfl⟩:=hrel;go_wp2
   go_ret
   exact⟨A2,cc,rfl,HA.out,aG3 _,.inl rfl⟩
 ·have hA:∃ ad,A=some ad:=by
   obtain⟨x,hx⟩:=aE (k:=0) t (by omega);obtain⟨b,off,h,_⟩:=Z 0 (.int .i64 x) (by rw[aF5,hx];rfl);exact⟨_,h⟩
  obtain⟨ad,rfl⟩:=hA;have HN:=hid (fun (n:Nat) m (hm:m<=c)=>(show TurnB (eO p m++List.replicate n 0) from (((L7 (N:=450000000004) t hm hb (by omega) (by omega)).pad (by omega) n).turnB (by omega))));have HS:=hid (fun (n i:Nat) (h1:1<=i) (h2:i<c)=>(show yS unA unB (eO p i++List.replicate (n*16) 0) ((i-1)*16+16)=eO p (i+1)++List.replicate (n*16) 0 by
   have e1:=LN unA unB (p:=p++List.replicate (n*16) 0) (c:=c+n) (i:=i) (by rw[aGG,aHQ,t];omega) h1 (by omega);rw[rP _ _ t (by omega),rP _ _ t (by omega)]at e1;rw[show (i-1)*16+16=i*16 by omega];exact e1))
  have HL:=hid (fun m=>(show (eO p m).length=c*16 from (eD _ _ _ _).trans t));have H1:=hid (show eO p 1=p from II _ _ p (LE 1));have aN:=hid (fun zs g oa W hz hg ht=>M8 zs g oa W hz hg ht);have a5:=fL;obtain⟨tv,b5,aG⟩:∃ tv:List Value,tv.length=16/\bH=tv.toArray:=⟨bH.toList,by rw[Array.length_toList,b7],by simp⟩;have bM:=hid (fun j v (hv:tv[j]? = some v)=>(show dS[0+j]? = some v by
   unfold dS;have hj:j<16:=by have:=(aGi.1 hv).1;omega
   rw[aGn,aJ3 (by rw[b7];exact hj),aG,aHL];exact hv))
  rw[aG]at aN;clear Z aG;generalize dS=d at *
  have bJ:=hid (show (prog.info? 91).map (·.size)=some d.size by rw[a5];exact rK);have bK:=hid (show (prog.info? 87).map (·.size)=some tv.length by rw[b5];exact AE);have aW:=hid (show (p.map (Value.int .i64)).length=c*16 by rw[aF7,t]);have aM:=hid (aP w (.cells d 91));have aO:=hid (LT w (.cells d 91));clear hb a5 t;have HV:=hid (fun z (F:c<=z)=>(show ∃ V n,(w.alloc (.cells d 91)).drew.alloc (.cells ((p.map (Value.int .i64)).toArray++Builtin.zeroCells (Value.agg (List.replicate 16 (Value.int .i64 0)).toArray).cells (z-c)) 43)=V /\
    Blk V (w.heap.size+1) 43 ((eO p 1++List.replicate (n*16) 0).map (.int .i64))/\V.heap[w.heap.size]? = some (.cells d 91 (0,0))/\Below w.heap.size w V from by
   have e:(p.map (Value.int .i64)).toArray++Builtin.zeroCells (Value.agg (List.replicate 16 (Value.int .i64 0)).toArray).cells (z-c)=((eO p 1++List.replicate ((z-c)*16) 0).map (Value.int .i64)).toArray:=by
    apply aHX.1;rw[Array.toList_append,Hz.out,aG2,H1.out]
   refine⟨_,z-c,rfl,?_,(aHg _ _ (by simp)).trans aO.out,(aHY aM.out 1).alloc (by simp) _⟩;rw[e];have:=Blk.new (w.alloc (.cells d 91)).drew 43 ((eO p 1++List.replicate ((z-c)*16) 0).map (.int .i64));simpa using this))
  clear Hz aM aO;go_enter func163,ntmps163;go_wp2_with (at_builtin;refine tX rfl (.const (.slice none 0 0)) (.tmp 7) 232 rfl 43 i0 _ 16 128 underlying232 hi a7 a8 a9 rfl _ ad c cap (p.map (.int .i64)) rfl aW.out J.out h0 (by omega) (by omega) ?_;intro z F;obtain⟨V,n,hV,O,I,G⟩:=HV.out z F;rw[hV];clear hV;have O:=hid O;have I:=hid I;have G:=hid G;have bP:=hid F;clear F)
  clear HV J aW;go_loopw [6] (fun i wr=>∃ j:Nat,1<=j/\j<=c/\i=.int .i64 j/\Blk wr (w.heap.size+1) 43 ((eO p j++List.replicate (n*16) 0).map (.int .i64))/\wr.heap[w.heap.size]? = some (.cells d 91 (0,0))/\Below w.heap.size w wr) (fun i _=>c-(intOf i).toNat)
  case atStart=>exact⟨1,by omega,by omega,rfl,O.out,I.out,G.out⟩
  case round =>
   obtain⟨j,bZ,b0,rfl,hB,a4,a2⟩:=hrel;have HB:=hid hB;have aV:=hid a4;have aU:=hid a2;clear O I G hB a4 a2
   by_cases b2:j<c
   ·obtain⟨m,rfl⟩:∃ m,j=m+1:=⟨j-1,by omega⟩;have t1:((m+1:Nat):Int)<(c:Int):=by omega
    have t2:((m+1:Nat):Int)-1=(m:Int):=by omega
    have t3:(0:Int)<=(m:Int):=by omega
    have t4:(m:Int)<(c:Int):=by omega
    have t5:(0:Int)<=((m+1:Nat):Int):=by omega
    have aD:=HS.out n (m+1) bZ b2;have aR:=HN.out (n*16) (m+1) b0;rw[show m+1-1=m by omega]at aD;have HC:=hid (fun (W:World) (hW:Blk W (w.heap.size+1) 43 ((eO p (m+1)++List.replicate (n*16) 0).map (.int .i64)))=>(show Calls prog 186 #[.agg d,.pointer (some ⟨w.heap.size+1,m*16,none⟩),.pointer (some ⟨w.heap.size+1,(m+1)*16,none⟩),.func (.func 187) #[.agg tv.toArray] #[]] W (pL W (w.heap.size+1) (eO p (m+1+1)++List.replicate (n*16) 0)) by
     have:=aN.out _ (w.heap.size+1) (m*16) W (by rw[aGG,HL.out];omega) hW aR;rw[aD]at this;rw[show (m+1)*16=m*16+16 by omega];exact this))
    have x5:=eW aV.out;have y5:=fun W hW j v hv=>(show World.cell? W ⟨w.heap.size,0+j,none⟩=some v from (aGo _ _ _ _ _ _ (x5 W hW)).trans (bM.out j v hv))
    clear aD aR;go_wp2_with fail
    refine aJ 11 (by kernel_rfl) (by kernel_rfl) ?_;simp only[List.take_succ_cons,List.take_zero,aGO,aGR]
    repeat (first|(go_big_quiet_want;refine bT 91 (.tmp 2) rfl w.heap.size rfl _ d _ _ x5 underlying91 rfl bJ.out ?_;go_simp;go_big_quiet_on)|(go_big_quiet_want;refine aY 87 (.tmp 23) rfl w.heap.size 0 rfl tv _ y5 underlying87 rfl bK.out ?_;go_simp;go_big_quiet_on)|go_big_quiet_step (fail))
    refine aGv ?_;intro w5 a6;have U:=aQ a6;have B5:=hid (HB.out.below U HB.out.lt);have L5:=hid (aF aV.out U);have E5:=hid (aC aU.out U);clear a6 U x5 y5;go_wp2_with (go_at_call 186;fail)
    refine (HC.out _ B5.out).mono ?_;rintro e w6 ⟨rfl,a1,aH⟩;have bV:=hid a1;have L6:=hid ((aH (w.heap.size+1) (LE _) (by have:=B5.out.lt;omega)).block w.heap.size (by omega) |>.trans L5.out);have E6:=hid (E5.out.trans (aH w.heap.size (by omega) E5.out.size));clear a1 aH;go_wp2;go_roundw
    case rel=>exact⟨m+1+1,by omega,by omega,by go_num,bV.out,L6.out,E6.out⟩
    case measure=>simp[intOf];omega
   ·have b1:j=c:=by omega
    subst b1;have t1:¬ ((j:Int)<(j:Int)):=by omega
    go_wp2
    go_ret
    exact⟨_,_,rfl,aU.out,bP.out,.inr ⟨w.heap.size+1,n*16,rfl,by omega,HB.out⟩⟩
end
end Go.Proofs.YtbpgfkjhclpbdaaGreatDoor
