/- NetF, CodeS. Conditions: as each theorem states. -/
import Derived.Laws.CopyOwn
import Derived.Test.YtnbbfblaipjcmaaGreatDoorPv18
set_option maxRecDepth 100000
set_option maxHeartbeats 8000000
namespace Go.Proofs.YtnbbfblaipjcmaaGreatDoor
section
open Go.Lib (hid)
open Go.RowKit
theorem aAr (g off:Nat) (W:World):(Instr.sliceAt 48 (.pointer (some ⟨g,off,none⟩)) (some (.int .i64 8)) none none).run Tryz.prog W=.ok (.slice (some ⟨g,off+8,none⟩) 8 8) W:=by
 rw [run_sliceAt_array_l W 48 ⟨g,off,none⟩ xO .i64 8 (by omega) (by rw [mN]; omega),uK W]
 simp only [Result.andThen_ok,slicedAt,mN]
 rfl
theorem VS (g off:Nat) (W:World):(Instr.sliceAt 48 (.pointer (some ⟨g,off,none⟩)) none (some (.int .i64 8)) none).run Tryz.prog W=.ok (.slice (some ⟨g,off,none⟩) 8 16) W:=by
 rw [run_sliceAt_array_h W 48 ⟨g,off,none⟩ xO .i64 8 (by omega) (by rw [mN]; omega),uK W]
 simp only [Result.andThen_ok,slicedAt,mN]
 rfl
theorem MA {α:Type} (l:List α) (off:Nat) (xs:List α):splice l off xs=aS l off xs:=by
 unfold splice aS
 rw [List.append_assoc]
theorem aCb {w:World} {g:Nat} {t:TypeId} {zs:List Int} (h:Blk w g t (zs.map (.int .i64))) (o n:Nat):Row w w.heap.size (some ⟨g,o,none⟩) (((zs.drop o).take n).map (.int .i64)):=by
 intro i v hv
 refine ⟨g,o,rfl,h.lt,?_⟩
 rw [h.cell,List.getElem?_map]
 rw [List.getElem?_map,List.getElem?_take] at hv
 split at hv
 ·rw [List.getElem?_drop] at hv; exact hv
 ·cases hv
theorem aAA {P:Program} {ops:Array Oper} {o:Oper} {a:Act} {w:World} {K:Act->World->Prop} {Q:Exit->Act->World->Prop} {E:Prop} (hgd:o.guard=none) {f:FuncId} {args:Array Value}
  (hr:(execOp a.eval o).run P w=.ok (.enter f args) w) (h:Calls P f args w fun e w'=>∃ v,e=.returned v/\K (a.put o.dst v) w') :
  if Region.wanted o (yielded ops a.tmps)=true then Oper.wp P o a w K Q else E:=by
 have hw:Region.wanted o (yielded ops a.tmps)=true:=by simp [Region.wanted,hgd]
 rw [if_pos hw]
 unfold Oper.wp
 rw [hr]
 exact h.mono fun e w' he=>(by obtain ⟨v,rfl,hk⟩:=he; exact hk)
def CC (W:World) (g:Nat) (zs:List Int) (e:Ending) (w':World):Prop :=
 e=.returned (.tuple #[])/\Blk w' g 48 (zs.map (.int .i64))/\∀ B,B<=g->B<=W.heap.size->Below B W w'
theorem TurnB.bgt {zs:List Int} (h:TurnB zs) {k:Nat} (hk:k < zs.length):cJ (bgt zs k):=h k _ (sR hk)
theorem KE (zs:List Int) (g oa:Nat) (w:World) (hz:oa+32<=zs.length) (hg:Blk w g 48 (zs.map (.int .i64))) (ht:TurnB zs) :
  Calls Tryz.prog 215 #[.agg fA,.pointer (some ⟨g,oa,none⟩),.pointer (some ⟨g,oa+16,none⟩),.func (.func 258) #[.agg bI] #[]] w (CC w g (JK dG dU zs (oa+16))):=by
 unfold CC
 have hs1:=aAr g oa
 have hs2:=VS g (oa+16)
 have he:lZ zs (oa+16)=nV ((zs.drop (oa+8)).take 8) 8:=rfl
 have hel:=aBh zs (oa+16)
 have hl8:((zs.drop (oa+8)).take 8).length=8:=by rw [List.length_take,List.length_drop]; omega
 have H1:=hid (fun (W:World) (r:Row W W.heap.size (some ⟨g,oa+8,none⟩) (((zs.drop (oa+8)).take 8).map (.int .i64)))=>(show Calls Tryz.prog 250 #[.slice (some ⟨g,oa+8,none⟩) 8 8] W (uH W (lZ zs (oa+16))) by
  have:=MT ((zs.drop (oa+8)).take 8) (some ⟨g,oa+8,none⟩) 8 W (by omega) r
  rw [hl8] at this
  rw [he]; exact this))
 have H2:=hid (fun (W:World) (gx:Nat) (hne:gx ≠ g) (hx:Blk W gx 2 ((lZ zs (oa+16)).map (.int .i64))) (hb:Blk W g 48 (zs.map (.int .i64))) =>
  F7 (lZ zs (oa+16)) zs gx g (oa+16) 8 16 2 48 W hel (by omega) hne hx hb
   (fun k hk=>by rw [DE _ (by omega) hk]; exact ht.bgt (by omega)) (fun k hk=>ht.bgt (by omega)))
 have HAl:=aDy dG (lZ zs (oa+16)) zs (oa+16) 8
 have HBl:=UO dU (lZ zs (oa+16)) zs (oa+16) 8
 have H3:=hid (fun (W:World) (gx:Nat) (hx:Blk W gx 2 ((gA dG (lZ zs (oa+16)) zs (oa+16) 8).map (.int .i64)))=>(show Calls Tryz.prog 250 #[.slice (some ⟨gx,0,none⟩) 8 8] W (uH W (nV (gA dG (lZ zs (oa+16)) zs (oa+16) 8) 8)) by
  have:=MT (gA dG (lZ zs (oa+16)) zs (oa+16) 8) (some ⟨gx,0,none⟩) 8 W (by omega) (fun i v hv=>⟨gx,0,rfl,hx.lt,by rw [hx.cell,Nat.zero_add]; exact hv⟩)
  rw [HAl] at this
  exact this))
 have HM:=hid (show JK dG dU zs (oa+16)=aS (gB dU (lZ zs (oa+16)) zs (oa+16) 8) (oa+8) (nV (gA dG (lZ zs (oa+16)) zs (oa+16) 8) 8) from rfl)
 have hFl:=oT (gA dG (lZ zs (oa+16)) zs (oa+16) 8) 8
 rw [HM.out]
 unfold SJ at H2
 generalize nV (gA dG (lZ zs (oa+16)) zs (oa+16) 8) 8=FL at *
 have H2':=hid (show ∀ (W:World) (gx:Nat),gx ≠ g->Blk W gx 2 ((lZ zs (oa+16)).map (.int .i64))->Blk W g 48 (zs.map (.int .i64)) ->
  Calls Tryz.prog 258 #[.agg bI,.slice (some ⟨gx,0,none⟩) 8 8,.slice (some ⟨g,oa+16,none⟩) 8 16] W fun e w'=>e=.returned (.tuple #[])/\Blk w' gx 2 ((gA dG (lZ zs (oa+16)) zs (oa+16) 8).map (.int .i64)) /\
   Blk w' g 48 ((gB dU (lZ zs (oa+16)) zs (oa+16) 8).map (.int .i64))/\∀ B,B<=gx->B<=g->B<=W.heap.size->Below B W w' from H2.out)
 clear H2 HM he
 generalize gA dG (lZ zs (oa+16)) zs (oa+16) 8=GA at *
 generalize gB dU (lZ zs (oa+16)) zs (oa+16) 8=GB at *
 generalize lZ zs (oa+16)=E at *
 generalize bI=tv at *
 generalize fA=lv at *
 have G1:=hid (hg.alloc (.cells lv 104))
 have R1:=hid (aCb (hg.alloc (.cells lv 104)) (oa+8) 8)
 have hgl:=hg.lt
 have hEl:E.length=8:=hel
 have HEl:=hid hEl
 have HFl:=hid hFl
 have HGB:=hid HBl
 have h32:=hz
 clear hel hl8 HAl HBl hFl hz ht hg hEl
 go_enter Tryz.func215,Tryz.ntmps215
 go_wp2_with (go_at_call 250; fail)
 refine (H1.out _ R1.out).mono ?_
 rintro e w1 ⟨gx,rfl,hgx,hbx,hb1⟩
 have G2:=hid (G1.out.below hb1 G1.out.lt)
 have X2:=hid hbx
 have L1:=hid (aC (aL w _) hb1)
 have nx:gx ≠ g:=by simp at hgx; omega
 have gx2:w.heap.size < gx:=by simp at hgx; omega
 rw [HEl.out]
 clear hbx hgx hb1 G1 R1
 go_wp2_with (go_at_call 258; fail)
 refine (H2'.out _ gx nx X2.out G2.out).mono ?_
 rintro e w2 ⟨rfl,hx2,hg2,hb2⟩
 have X3:=hid hx2
 have G3:=hid hg2
 have HBel:=hid hb2
 have HF3:=hid (H3.out w2.drew gx (show Blk w2.drew gx _ _ from hx2))
 clear hx2 hg2 hb2 X2 G2 H1 H2' H3
 go_wp2_with fail
 go_region_law ((first
  | (refine aAA (f:=250) (args:=#[.slice (some ⟨gx,0,none⟩) 8 8]) rfl (by kernel_rfl) ?_; refine HF3.out.mono ?_; rintro e w3 ⟨gy,rfl,hgy,hby,hb3⟩; rw [HFl.out]; have G4:=hid ((show Blk w2.drew g _ _ from G3.out).below hb3 (show g < w2.drew.heap.size from G3.out.lt)); have Y4:=hid hby; have B4:=hid hb3; clear hby hb3 hgy; refine ⟨_,rfl,?_⟩)
  | (refine step_copy_splice rfl (.tmp 21) (.tmp 23) 170 170 rfl 2 Tryz.underlying170 ZH _ _ 8 8 8 8 (by rfl) (by rfl) g (oa+8) (GB.map (Value.int .i64)) 48 G4.out (FL.map (Value.int .i64)) (by rw [List.length_map,HFl.out]; rfl) (fun _=>⟨rfl,_,rfl,fun j v hv=>by rw [KJ,Nat.zero_add,Y4.out.cell]; exact hv⟩) (by rw [List.length_map,List.length_map,HFl.out,HGB.out]; omega) (fun v hv=>by obtain ⟨x,_,rfl⟩:=List.mem_map.1 hv; rfl) g _ (Below.refl _ _) (Nat.le_refl _) ?_; intro w4 hg4 hb4)))
 have HB4:=hid hb4
 clear hb4
 go_wp2
 refine bodyPost_end (v:=.tuple #[]) (results_none Tryz.results215 _ _ _) rfl ?_
 refine ⟨rfl,?_,fun B h1 h2=>?_⟩
 ·have:=hg4.out
  rw [MA,<-sY] at this
  exact this
 ·have a1:=(L1.out.mono h2).trans (HBel.out B (by omega) h1 (Nat.le_trans h2 L1.out.size))
  have a2:=below_drewN a1 1
  have a3:=a2.trans (B4.out.mono (Nat.le_trans h2 a2.size))
  exact a3.trans (HB4.out.mono h1)
end
section
open Go.Lib (hid)
open Go.RowKit
theorem AW (z:Array Value) (v:Value) (hp:0 < z.size) (hz:∀ j,j < z.size->z[j]! = v) (n:Nat):(Builtin.zeroCells z n).toList=List.replicate (n*z.size) v:=by
 unfold Builtin.zeroCells
 rw [Array.toList_map,Array.toList_range]
 apply List.ext_getElem?
 intro k
 rw [List.getElem?_map,List.getElem?_replicate]
 rcases Nat.lt_or_ge k (n*z.size) with h | h
 ·rw [List.getElem?_range h,if_pos h]
  show some (z[k % z.size]!)=some v
  rw [hz _ (Nat.mod_lt _ hp)]
 ·rw [List.getElem?_eq_none (by simpa using h),if_neg (by omega)]; rfl
section
variable {P : Program}
theorem FT {ops:Array Oper} {rest:List Oper} {o:Oper} {a:Act} {w:World} {Q:Exit->Act->World->Prop} (hgd:o.guard=none) (s x:Operand) (t:TypeId)
  (ho:o.op=.call { callee:=.builtin .append,args:=#[s,x],argTypes:=#[t,t] })
  (e:TypeId) (i:TypeInfo) (z:Value) (size bytes:Nat) (ht:P.underlying t=some (.slice e)) (hi:P.info? e=some i) (hz:i.zero=some z)
  (hsize:i.size=size) (hby:i.bytes=bytes) (hs:a.eval s=.slice none 0 0)
  (B:Nat) (A:Addr) (m c:Nat) (news:List Value) (hx:a.eval x=.slice (some A) m c) (hl:news.length=m*size) (hr:Row w B (some A) news)
  (h0:0 < m) (h63:m<=9223372036854775807) (hbytes:m*bytes<=281474976710656)
  (h:∀ c',m<=c'->wpList P ops Q rest (a.put o.dst (.slice (some ⟨w.heap.size,0,none⟩) m c')) (w.drew.alloc (.cells (news.toArray ++ Builtin.zeroCells z.cells (c' - m)) e))) :
  wpList P ops Q (o :: rest) a w:=by
 refine wpList_plain hgd fun K hK=>?_
 have hcells:∀ j u,news[j]? = some u->w.cell? (A.add j)=some u:=by
  intro j u hu
  obtain ⟨b,off,h,_,hc⟩:=hr j u hu
  injection h with h
  subst h
  unfold Addr.add
  by_cases hj:j=0
  ·subst hj; simpa using hc
  ·simp [hj]; exact hc
 have hrun:=run_append_nil (P:=P) w t o.type e i z ht hi hz A m c news (by rw [hsize]; exact hl) hcells h0 (by omega) (by rw [hby]; exact hbytes)
 unfold Oper.wp
 simp [execOp,ho,resolve,invoke,builtin,hs,hx,hrun,Result.andThen]
 exact hK _ _ (h _ (grownCap_ge w m 0 e))
end
theorem aAh {α:Type} {l pad:List α} {off:Nat} {xs:List α} (h:off+xs.length<=l.length):aS (l ++ pad) off xs=aS l off xs ++ pad:=by
 unfold aS
 rw [List.take_append_of_le_length (by omega),List.drop_append_of_le_length (by omega),List.append_assoc,List.append_assoc,List.append_assoc]
theorem sJ (p pad:List Int) (j:Nat):bgt (p ++ pad) j=if j < p.length then bgt p j else bgt pad (j - p.length):=by
 rw [jL]
 split
 ·rename_i h; rw [List.getElem?_append_left h,jL]
 ·rename_i h; rw [List.getElem?_append_right (by omega),jL]
theorem EX (fa fb:Int->Int->TurnV->Int) {p pad:List Int} {c m:Nat} (hp:p.length=c*16) (hm:m<=c):iN fa fb (p ++ pad) m=iN fa fb p m ++ pad:=by
 refine gG (n:=(p ++ pad).length) (dX _ _ _ _) (by rw [List.length_append,List.length_append,dX]) (fun j hj=>?_)
 rw [eJ _ _ _ _ hj,sJ (iN fa fb p m),dX]
 by_cases hl:j < p.length
 ·rw [if_pos hl,eJ _ _ _ _ hl]
  by_cases hc:1<=(j+8) / 16/\(j+8) / 16 < m
  ·have e1:bgt (p ++ pad) j=bgt p j:=by rw [sJ,if_pos hl]
   have e2:bgt (p ++ pad) ((j+8) / 16*32 - 1 - j)=bgt p ((j+8) / 16*32 - 1 - j):=by rw [sJ,if_pos (by omega)]
   rw [if_pos hc,if_pos hc,e1,e2]
  ·rw [if_neg hc,if_neg hc,sJ,if_pos hl]
 ·rw [if_neg hl,if_neg (by omega),sJ,if_neg hl]
theorem BdL.pad {M:Int} {p:List Int} (h:BdL M p) (hM:0<=M) (n:Nat):BdL M (p ++ List.replicate n 0):=by
 intro j hj
 rw [sJ]
 split
 ·rename_i h1; exact h j h1
 ·rw [jL,List.getElem?_replicate]
  split <;> (simp only [Option.getD_some,Option.getD_none]; omega)
def XX (W:World) (c:Nat) (q:List Int) (e:Ending) (w':World):Prop :=
 ∃ A cap,e=.returned (.slice A c cap)/\Below W.heap.size W w'/\c<=cap/\(c=0\/∃ g n,A=some ⟨g,0,none⟩/\W.heap.size<=g/\Blk w' g 48 ((q ++ List.replicate n 0).map (.int .i64)))
theorem aBa:∃ i,Tryz.prog.info? 48=some i/\i.zero=some (.agg (List.replicate 16 (Value.int .i64 0)).toArray)/\i.size=16/\i.bytes=128:=by
 have:=WZ
 cases h:Tryz.prog.info? 48 with
 | none=>rw [h] at this; cases this
 | some i =>
  rw [h] at this
  simp only [Option.map_some,Option.some.injEq,Prod.mk.injEq] at this
  exact ⟨i,rfl,this.1,this.2.1,this.2.2⟩
theorem YI (n:Nat):(Builtin.zeroCells (Value.agg (List.replicate 16 (Value.int .i64 0)).toArray).cells n).toList=(List.replicate (n*16) (0:Int)).map (.int .i64):=by
 rw [List.map_replicate]
 exact AW _ _ (by decide) (fun j hj=>by
  have hj16:j < 16:=hj
  have hk:j=0\/j=1\/j=2\/j=3\/j=4\/j=5\/j=6\/j=7\/j=8\/j=9\/j=10\/j=11\/j=12\/j=13\/j=14\/j=15:=by omega
  rcases hk with rfl | rfl | rfl | rfl | rfl | rfl | rfl | rfl | rfl | rfl | rfl | rfl | rfl | rfl | rfl | rfl <;> rfl) n
theorem aAR (p:List Int) (c:Nat) (A:Option Addr) (cap:Nat) (w:World) (hp:p.length=c*16) (hc:c<=1000000) (hr:Row w w.heap.size A (p.map (.int .i64))) (hb:BdL 300000000000 p) :
  Calls Tryz.prog 235 #[.agg fA,.slice A c cap] w (XX w c (eI p c)):=by
 obtain ⟨i0,hi,hz0,hz1,hz2⟩:=aBa
 have Hz:=hid YI
 have Hr:=hid (hr.later (aL w (.cells fA 104)))
 rcases Nat.eq_zero_or_pos c with rfl | h0
 ·have hp0:p=[]:=List.eq_nil_of_length_eq_zero (by omega)
  subst hp0
  have HO:=hid (World.ownsRow_nil (w.alloc (.cells fA 104)) w.heap.size 48 16)
  clear hr hb hp
  generalize fA=lv at *
  have t1:¬ ((1:Int) < ((0:Nat):Int)):=by omega
  go_enter Tryz.func235,Tryz.ntmps235
  go_wp2_with (at_builtin; refine c9 _ rfl (.const (.slice none 0 0)) (.tmp 7) 262 rfl w.heap.size 48 i0 _ 16 128 Tryz.underlying262 hi hz0 hz1 hz2 rfl (by omega) (.slice none 0 0) 0 [] rfl HO.out _ A 0 cap [] rfl rfl Hr.out nofun (by omega) (by omega) (by simp) ?_; intro A2 cc w2 hown2 hgrow hat hcc)
  have HA:=hid ((aL w (.cells lv 104)).grown hgrow (by simp) (fun g h=>by cases h))
  clear hown2 hgrow hat HO Hr
  go_loopw [6] (fun i wr=>i=.int .i64 1/\wr=w2) (fun _ _=>0)
  case atStart=>exact ⟨rfl,rfl⟩
  case round =>
   obtain ⟨rfl,rfl⟩:=hrel
   go_wp2
   go_ret
   exact ⟨A2,cc,rfl,HA.out,Nat.zero_le _,.inl rfl⟩
 ·have hA:∃ ad,A=some ad:=by
   obtain ⟨x,hx⟩:=aE (k:=0) hp (by omega)
   obtain ⟨b,off,h,_⟩:=hr 0 (.int .i64 x) (by rw [List.getElem?_map,hx]; rfl)
   exact ⟨_,h⟩
  obtain ⟨ad,rfl⟩:=hA
  have HN:=hid (fun (n:Nat) m (hm:m<=c)=>(show TurnB (eI p m ++ List.replicate n 0) from (((yA (N:=450000000004) hp hm hb (by omega) (by omega)).pad (by omega) n).turnB (by omega))))
  have HS:=hid (fun (n i:Nat) (h1:1<=i) (h2:i < c)=>(show JK dG dU (eI p i ++ List.replicate (n*16) 0) ((i - 1)*16+16)=eI p (i+1) ++ List.replicate (n*16) 0 by
   have e1:=ZN dG dU (p:=p ++ List.replicate (n*16) 0) (c:=c+n) (i:=i) (by rw [List.length_append,List.length_replicate,hp]; omega) h1 (by omega)
   rw [EX _ _ hp (by omega),EX _ _ hp (by omega)] at e1
   rw [show (i - 1)*16+16=i*16 by omega]
   exact e1))
  have HL:=hid (fun m=>(show (eI p m).length=c*16 from (dX _ _ _ _).trans hp))
  have H1:=hid (show eI p 1=p from VH _ _ p (Nat.le_refl 1))
  have HMt:=hid (fun zs g oa W hz hg ht=>KE zs g oa W hz hg ht)
  have hlz:=iW
  obtain ⟨tv,htv,Htx⟩:∃ tv:List Value,tv.length=16/\bI=tv.toArray:=⟨bI.toList,by rw [Array.length_toList,cH],by simp⟩
  have HLa:=hid (fun j v (hv:tv[j]? = some v)=>(show fA[0+j]? = some v by
   unfold fA
   have hj:j < 16:=by have:=(List.getElem?_eq_some_iff.1 hv).1; omega
   rw [Nat.zero_add,Array.getElem?_append_left (by rw [cH]; exact hj),Htx,List.getElem?_toArray]
   exact hv))
  rw [Htx] at HMt
  clear hr Htx
  generalize fA=lv at *
  have HFl:=hid (show (Tryz.prog.info? 104).map (·.size)=some lv.size by rw [hlz]; exact BE)
  have HFp:=hid (show (Tryz.prog.info? 100).map (·.size)=some tv.length by rw [htv]; exact JD)
  have Hpl:=hid (show (p.map (Value.int .i64)).length=c*16 by rw [List.length_map,hp])
  have HB0:=hid (aL w (.cells lv 104))
  have HN0:=hid (heap_alloc_new w (.cells lv 104))
  clear hb hlz hp
  have HV:=hid (fun c' (hcc:c<=c')=>(show ∃ V n,(w.alloc (.cells lv 104)).drew.alloc (.cells ((p.map (Value.int .i64)).toArray ++ Builtin.zeroCells (Value.agg (List.replicate 16 (Value.int .i64 0)).toArray).cells (c' - c)) 48)=V /\
    Blk V (w.heap.size+1) 48 ((eI p 1 ++ List.replicate (n*16) 0).map (.int .i64))/\V.heap[w.heap.size]? = some (.cells lv 104 (0,0))/\Below w.heap.size w V from by
   have e:(p.map (Value.int .i64)).toArray ++ Builtin.zeroCells (Value.agg (List.replicate 16 (Value.int .i64 0)).toArray).cells (c' - c)=((eI p 1 ++ List.replicate ((c' - c)*16) 0).map (Value.int .i64)).toArray:=by
    apply Array.toList_inj.1
    rw [Array.toList_append,Hz.out,List.map_append,H1.out]
   refine ⟨_,c' - c,rfl,?_,(heap_alloc_old _ _ (by simp)).trans HN0.out,(below_drewN HB0.out 1).alloc (by simp) _⟩
   rw [e]
   have:=Blk.new (w.alloc (.cells lv 104)).drew 48 ((eI p 1 ++ List.replicate ((c' - c)*16) 0).map (.int .i64))
   simpa using this))
  clear Hz HB0 HN0
  go_enter Tryz.func235,Tryz.ntmps235
  go_wp2_with (at_builtin; refine FT rfl (.const (.slice none 0 0)) (.tmp 7) 262 rfl 48 i0 _ 16 128 Tryz.underlying262 hi hz0 hz1 hz2 rfl _ ad c cap (p.map (.int .i64)) rfl Hpl.out Hr.out h0 (by omega) (by omega) ?_; intro c' hcc; obtain ⟨V,n,hV,Hrow,Hlap,Hbel⟩:=HV.out c' hcc; rw [hV]; clear hV; have Hrow:=hid Hrow; have Hlap:=hid Hlap; have Hbel:=hid Hbel; have Hcc:=hid hcc; clear hcc)
  clear HV Hr Hpl
  go_loopw [6] (fun i wr=>∃ j:Nat,1<=j/\j<=c/\i=.int .i64 j/\Blk wr (w.heap.size+1) 48 ((eI p j ++ List.replicate (n*16) 0).map (.int .i64))/\wr.heap[w.heap.size]? = some (.cells lv 104 (0,0))/\Below w.heap.size w wr) (fun i _=>c - (intOf i).toNat)
  case atStart=>exact ⟨1,by omega,by omega,rfl,Hrow.out,Hlap.out,Hbel.out⟩
  case round =>
   obtain ⟨j,hj1,hjc,rfl,hB,hlap,hbel⟩:=hrel
   have HB:=hid hB
   have Hla:=hid hlap
   have Hbe:=hid hbel
   clear Hrow Hlap Hbel hB hlap hbel
   by_cases hlk:j < c
   ·obtain ⟨m,rfl⟩:∃ m,j=m+1:=⟨j - 1,by omega⟩
    have t1:((m+1:Nat):Int) < (c:Int):=by omega
    have t2:((m+1:Nat):Int) - 1=(m:Int):=by omega
    have t3:(0:Int)<=(m:Int):=by omega
    have t4:(m:Int) < (c:Int):=by omega
    have t5:(0:Int)<=((m+1:Nat):Int):=by omega
    have HSm:=HS.out n (m+1) hj1 hlk
    have HNm:=HN.out (n*16) (m+1) hjc
    rw [show m+1 - 1=m by omega] at HSm
    have HC:=hid (fun (W:World) (hW:Blk W (w.heap.size+1) 48 ((eI p (m+1) ++ List.replicate (n*16) 0).map (.int .i64)))=>(show Calls Tryz.prog 215 #[.agg lv,.pointer (some ⟨w.heap.size+1,m*16,none⟩),.pointer (some ⟨w.heap.size+1,(m+1)*16,none⟩),.func (.func 258) #[.agg tv.toArray] #[]] W (CC W (w.heap.size+1) (eI p (m+1+1) ++ List.replicate (n*16) 0)) by
     have:=HMt.out _ (w.heap.size+1) (m*16) W (by rw [List.length_append,HL.out]; omega) hW HNm
     rw [HSm] at this
     rw [show (m+1)*16=m*16+16 by omega]
     exact this))
    have x5:=fC Hla.out
    have y5:=fun W hW j v hv=>(show World.cell? W ⟨w.heap.size,0+j,none⟩=some v from (cell_of_row _ _ _ _ _ _ (x5 W hW)).trans (HLa.out j v hv))
    clear HSm HNm
    go_wp2_with fail
    refine aI 11 (by kernel_rfl) (by kernel_rfl) ?_
    simp only [List.take_succ_cons,List.take_zero,List.drop_succ_cons,List.drop_zero]
    repeat (first | (go_big_quiet_want; refine bO 104 (.tmp 2) rfl w.heap.size rfl _ lv _ _ x5 Tryz.underlying104 rfl HFl.out ?_; go_simp; go_big_quiet_on) | (go_big_quiet_want; refine bA 100 (.tmp 23) rfl w.heap.size 0 rfl tv _ y5 Tryz.underlying100 rfl HFp.out ?_; go_simp; go_big_quiet_on) | go_big_quiet_step (fail))
    refine wpQuiet_nil ?_
    intro w5 hw'
    have hb5:=aK hw'
    have B5:=hid (HB.out.below hb5 HB.out.lt)
    have L5:=hid (aF Hla.out hb5)
    have E5:=hid (aC Hbe.out hb5)
    clear hw' hb5 x5 y5
    go_wp2_with (go_at_call 215; fail)
    refine (HC.out _ B5.out).mono ?_
    rintro e w6 ⟨rfl,hB6,hb6⟩
    have hB6':=hid hB6
    have L6:=hid ((hb6 (w.heap.size+1) (Nat.le_refl _) (by have:=B5.out.lt; omega)).block w.heap.size (by omega) |>.trans L5.out)
    have E6:=hid (E5.out.trans (hb6 w.heap.size (by omega) E5.out.size))
    clear hB6 hb6
    go_wp2
    go_roundw
    case rel=>exact ⟨m+1+1,by omega,by omega,by go_num,hB6'.out,L6.out,E6.out⟩
    case measure=>simp [intOf]; omega
   ·have hjc':j=c:=by omega
    subst hjc'
    have t1:¬ ((j:Int) < (j:Int)):=by omega
    go_wp2
    go_ret
    exact ⟨_,_,rfl,Hbe.out,Hcc.out,.inr ⟨w.heap.size+1,n*16,rfl,by omega,HB.out⟩⟩
end
end Go.Proofs.YtnbbfblaipjcmaaGreatDoor
