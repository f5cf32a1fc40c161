/- CodeX, CodeY. Conditions: as each theorem states. -/
import Derived.Test.YtgcfkblmnpnogaaGreatDoorPq19
import Derived.Test.YtgcfkblmnpnogaaGreatDoorPq22
import Derived.Test.YtgcfkblmnpnogaaGreatDoorPq23
import Derived.Test.YtgcfkblmnpnogaaGreatDoorPq27
import Derived.Test.YtgcfkblmnpnogaaGreatDoorPq28
import Derived.Test.YtgcfkblmnpnogaaGreatDoorPq25
import Derived.Test.YtgcfkblmnpnogaaGreatDoorPq30
namespace Go.Proofs.YtgcfkblmnpnogaaGreatDoor
section
open Go.Lib (hid)
open Go.RowKit
def nthF (fs:List FrameV) (i:Nat):FrameV:=fs.getD i zeroFr
theorem nthF_get {fs:List FrameV} {i:Nat} {f:FrameV} (h:fs[i]? = some f):nthF fs i=f:=by unfold nthF; rw [List.getD_eq_getElem?_getD,h]; rfl
theorem nthF_mem {fs:List FrameV} {i:Nat} (h:i < fs.length):nthF fs i ∈ fs:=by rw [nthF_get (List.getElem?_eq_getElem h)]; exact List.getElem_mem _
theorem nthF_gains {fs:List FrameV} (hR:∀ f ∈ fs,RightF f) (i:Nat):(nthF fs i).gains.length=4:=by
 rcases Nat.lt_or_ge i fs.length with h | h
 ·exact (hR _ (nthF_mem h)).gains.1
 ·unfold nthF; rw [List.getD_eq_getElem?_getD,List.getElem?_eq_none h]; rfl
theorem rowsTo_map {sz:Nat} (fs:List FrameV) (g:FrameV->List Int):rowsTo sz fs.length (fun i=>g (nthF fs i)) fs.length=(fs.map g).flatten:=by
 unfold rowsTo
 congr 1
 apply List.ext_getElem?
 intro i
 rcases Nat.lt_or_ge i fs.length with h | h
 ·rw [range_map_get _ h,if_pos h,List.getElem?_map,List.getElem?_eq_getElem h]
  show some (g (nthF fs i))=_
  rw [nthF_get (List.getElem?_eq_getElem h)]; rfl
 ·rw [List.getElem?_eq_none (by simpa using h),List.getElem?_eq_none (by simpa using h)]
theorem rowsTo_row {sz c:Nat} {f:Nat->List Int} (hf:∀ i,(f i).length=sz) {i:Nat} (hi:i < c):rowAt sz (rowsTo sz c f c) i=f i:=by
 have:=rowAt_flatR (sz:=sz) (c:=c) (R:=fun i=>if i < c then f i else List.replicate sz 0) (fun j hj=>by
  show (if j < c then f j else List.replicate sz 0).length=sz
  rw [if_pos hj,hf]) hi
 exact this.trans (if_pos hi)
theorem specs_bd {c:Nat} (fs:List FrameV):BdL 2147483648 (rowsTo 16 c (fun i=>specZ (nthF fs i)) c):=by
 have hl:∀ i,i < c->(if i < c then specZ (nthF fs i) else List.replicate 16 (0:Int)).length=16:=fun i hi=>by rw [if_pos hi,specZ_len]
 exact flatR_bd (c:=c) (R:=fun i=>if i < c then specZ (nthF fs i) else List.replicate 16 0) hl (fun i hi j hj=>by
  simp only [if_pos hi] at hj ⊢
  rw [specZ_len] at hj
  have:=specZ_bd (nthF fs i) hj
  omega)
theorem yields_load_part {P:Program} {ops:Array Oper} {o:Oper} {a:Act} {C:World->Prop} (hw:Region.wanted o (yielded ops a.tmps)=true) (ty:TypeId) (x:Operand) (ho:o.op=.load ty x)
  (g off:Nat) (hx:a.eval x=.pointer (some ⟨g,off,none⟩)) (xs:List Value) (d:TypeDesc) (h:∀ w,C w->∀ j v,xs[j]? = some v->w.cell? ⟨g,off+j,none⟩=some v)
  (hu:P.underlying ty=some d) (hd:(match d with | .struct _ | .array _ _=>true | _=>false)=true) (hi:(P.info? ty).map (·.size)=some xs.length):YieldsIn P ops C o (.agg xs.toArray) a:=by
 refine .inl ⟨hw,fun w hw=>?_⟩
 unfold Oper.quietAt execOp
 simp only [ho,hx,Instr.loadAt,Instr.sureAddr,Sem.run_bind,Sem.run_pure,Result.andThen_ok,run_loadVar_part w g off ty xs d (h w hw) hu hd hi]
 exact ⟨rfl,rfl⟩
def OwnPost (W:World) (xs:List Int) (e:Ending) (w':World):Prop:=∃ A c,e=.returned (.slice A xs.length c)/\xs.length<=c/\c<=9223372036854775807/\w'.ownsRow W.heap.size 3 1 (.slice A xs.length c) xs.length (xs.map (.int .i64))/\Below W.heap.size W w'
theorem own_more {w:World} {base base' size n:Nat} {e:TypeId} {v:Value} {xs:List Value} (h:w.ownsRow base e size v n xs) (hb:base'<=base):w.ownsRow base' e size v n xs:=by
 refine ⟨h.1,?_⟩
 rcases h.2 with h1 | ⟨g,cap,cur,h1,h2,h3⟩
 ·exact .inl h1
 ·exact .inr ⟨g,cap,cur,h1,Nat.le_trans hb h2,h3⟩
set_option maxRecDepth 100000 in
set_option maxHeartbeats 8000000 in
theorem Samples_own (gc:Nat) (size:Int) (L:List (FrH × FrameV)) (A:Option Addr) (cap:Nat) (k:Int) (w:World) (hg:CoderAt w gc size) (hc:L.length<=100000) (hA:FramesAt w A L) (hR:∀ p ∈ L,RightF p.2) :
  Calls Tryz.prog 136 #[.pointer (some ⟨gc,0,none⟩),.slice A L.length cap,.int .i64 k] w (OwnPost w (sampsZ (L.map Prod.snd) k)):=by
 have hRf:∀ f ∈ L.map Prod.snd,RightF f:=fun f hf=>by
  obtain ⟨p,hp,rfl⟩:=List.mem_map.1 hf
  exact hR p hp
 obtain ⟨fs,hfs⟩:∃ fs,L.map Prod.snd=fs:=⟨_,rfl⟩
 have hlf:fs.length=L.length:=by rw [<-hfs,List.length_map]
 rw [hfs] at hRf ⊢
 obtain ⟨c,hcl⟩:∃ c,L.length=c:=⟨_,rfl⟩
 rw [hcl] at hc hlf ⊢
 have HSl:=hid (fun i=>specZ_len (nthF fs i))
 have HGl:=hid (fun i=>nthF_gains hRf i)
 have HSn:=hid (fun m (hm:m < c)=>rowsTo_succ (sz:=16) HSl.out (by decide) hm)
 have HGn:=hid (fun m (hm:m < c)=>rowsTo_succ (sz:=4) HGl.out (by decide) hm)
 have HSr:=hid (fun m=>rowsTo_len (sz:=16) (c:=c) HSl.out m)
 have HGr:=hid (fun m=>rowsTo_len (sz:=4) (c:=c) HGl.out m)
 have hGo:GainsOk (rowsTo 4 c (fun i=>(nthF fs i).gains) c) c:=⟨rowsTo_len HGl.out _,fun i hi=>by
  rw [rowsTo_row HGl.out hi]
  have hm:=hRf _ (nthF_mem (by rw [hlf]; exact hi))
  exact ⟨hm.gains.1,gain_ok hm.gains⟩⟩
 have HW:=hid (fun B Bg kb kg W (r:Row W W.heap.size B ((rowsTo 16 c (fun i=>specZ (nthF fs i)) c).map (.int .i64))) (rg:Row W W.heap.size Bg ((rowsTo 4 c (fun i=>(nthF fs i).gains) c).map (.int .i64))) =>
  Whole_any (rowsTo 16 c (fun i=>specZ (nthF fs i)) c) (rowsTo 4 c (fun i=>(nthF fs i).gains) c) B Bg kb kg c k W (rowsTo_len HSl.out _) hc r hGo rg (specs_bd fs))
 have hse:sampsZ fs k=(firstZ (wholeZ (rowsTo 16 c (fun i=>specZ (nthF fs i)) c) (rowsTo 4 c (fun i=>(nthF fs i).gains) c) c) k).map satZ:=by
  unfold sampsZ
  have e1:=rowsTo_map (sz:=16) fs specZ
  have e2:=rowsTo_map (sz:=4) fs (·.gains)
  rw [hlf] at e1 e2
  rw [<-e1,<-e2,hlf]
 rw [hse]
 have hwl:(firstZ (wholeZ (rowsTo 16 c (fun i=>specZ (nthF fs i)) c) (rowsTo 4 c (fun i=>(nthF fs i).gains) c) c) k).length<=c*16:=by
  unfold firstZ
  rw [List.length_take,wholeZ_len (rowsTo_len HSl.out _)]; omega
 have HNth:=hid (fun m p (h:L[m]? = some p)=>(show nthF fs m=p.2 from nthF_get (by rw [<-hfs,List.getElem?_map,h]; rfl)))
 obtain ⟨X,hX⟩:∃ X,firstZ (wholeZ (rowsTo 16 c (fun i=>specZ (nthF fs i)) c) (rowsTo 4 c (fun i=>(nthF fs i).gains) c) c) k=X:=⟨_,rfl⟩
 rw [hX] at HW hwl ⊢
 have HA:=hid hA
 have HR:=hid hR
 have Hcl:=hid hcl
 have HSp:=hid (fun (p:FrH × FrameV) W (h:RightF p.2) (r:Row W W.heap.size p.1.a (toneCells p.2.tones))=>(show Calls Tryz.prog 169 #[.agg (frC p).toArray] W fun e w'=>e=.returned (blockV (specZ p.2))/\Below W.heap.size W w' from Spectrum_any p.2 p.1.a p.1.c W h r))
 obtain ⟨i0,hi,hz0,hz1,hz2⟩:=blk_info
 obtain ⟨i4,hi4,hz4,hz5,hz6⟩:∃ i,Tryz.prog.info? 67=some i/\i.zero=some (.agg (List.replicate 4 (Value.int .i64 0)).toArray)/\i.size=4/\i.bytes=32:=by
  have:=inf_4
  cases h:Tryz.prog.info? 67 with
  | none=>rw [h] at this; cases this
  | some i =>
   rw [h] at this
   simp only [Option.map_some,Option.some.injEq,Prod.mk.injEq] at this
   exact ⟨i,rfl,this.1,this.2.1,this.2.2⟩
 obtain ⟨iI,hiI,hzI0,hzI1,hzI2⟩:=info_parts inf_int
 have Hms:=hid (show (madeCells (Value.agg (List.replicate 16 (Value.int .i64 0)).toArray).cells (c*16)).toList=List.replicate (c*16) (.int .i64 0) from toList_made_rep _ _ (by decide) (fun j hj=>by
  have hj16:j < 16:=hj
  have hk:j=0\/j=1\/j=2\/j=3\/j=4\/j=5\/j=6\/j=7\/j=8\/j=9\/j=10\/j=11\/j=12\/j=13\/j=14\/j=15:=by omega
  rcases hk with rfl | rfl | rfl | rfl | rfl | rfl | rfl | rfl | rfl | rfl | rfl | rfl | rfl | rfl | rfl | rfl <;> rfl) _)
 have Hmg:=hid (show (madeCells (Value.agg (List.replicate 4 (Value.int .i64 0)).toArray).cells (c*4)).toList=List.replicate (c*4) (.int .i64 0) from toList_made_rep _ _ (by decide) (fun j hj=>by
  have hj4:j < 4:=hj
  have hk:j=0\/j=1\/j=2\/j=3:=by omega
  rcases hk with rfl | rfl | rfl | rfl <;> rfl) _)
 obtain ⟨mc,hmc⟩:∃ mc,madeCells (Value.agg (List.replicate 16 (Value.int .i64 0)).toArray).cells (c*16)=mc:=⟨_,rfl⟩
 obtain ⟨md,hmd⟩:∃ md,madeCells (Value.agg (List.replicate 4 (Value.int .i64 0)).toArray).cells (c*4)=md:=⟨_,rfl⟩
 rw [hmc] at Hms
 rw [hmd] at Hmg
 have hmc2:mc=((rowsTo 16 c (fun i=>specZ (nthF fs i)) 0).map (Value.int .i64)).toArray:=by
  apply Array.toList_inj.1
  rw [Hms.out,rowsTo_zero]
 have hmd2:md=((rowsTo 4 c (fun i=>(nthF fs i).gains) 0).map (Value.int .i64)).toArray:=by
  apply Array.toList_inj.1
  rw [Hmg.out,rowsTo_zero]
 have HP0:=hid (show Blk ((w.alloc (.cells mc 70)).alloc (.cells md 67)) w.heap.size 70 ((rowsTo 16 c (fun i=>specZ (nthF fs i)) 0).map (.int .i64)) by
  rw [hmc2]
  exact (Blk.new w 70 ((rowsTo 16 c (fun i=>specZ (nthF fs i)) 0).map (.int .i64))).alloc _)
 have HG0:=hid (show Blk ((w.alloc (.cells mc 70)).alloc (.cells md 67)) (w.heap.size+1) 67 ((rowsTo 4 c (fun i=>(nthF fs i).gains) 0).map (.int .i64)) by
  rw [hmd2]
  have:=Blk.new (w.alloc (.cells mc 70)) 67 ((rowsTo 4 c (fun i=>(nthF fs i).gains) 0).map (.int .i64))
  simpa using this)
 have HE0:=hid ((bnew w (.cells mc 70)).alloc (by simp) (.cells md 67))
 have Hg:=hid hg
 obtain ⟨tv,htv,Htx⟩:∃ tv:List Value,tv.length=32/\lapA=tv.toArray:=⟨lapA.toList,by rw [Array.length_toList,lapA_size],by simp⟩
 have HLa:=hid (fun j v (hv:tv[j]? = some v)=>(show (coderA size)[0+j]? = some v by
  unfold coderA
  have hj:j < 32:=by have:=(List.getElem?_eq_some_iff.1 hv).1; omega
  rw [Nat.zero_add,Array.getElem?_push,if_neg (by rw [lapA_size]; omega),Htx,List.getElem?_toArray]
  exact hv))
 rw [Htx] at HW
 unfold CoderAt at Hg
 have HIl:=hid (show (Tryz.prog.info? 207).map (·.size)=some tv.length by rw [htv]; exact inf_lap)
 clear hg hA hR hse hGo Htx hmc2 hmd2 Hms Hmg hcl hfs hRf hlf hX
 generalize coderA size=cv at *
 go_enter Tryz.func136,Tryz.ntmps136
 go_wp2_with (first | (refine wpList_make_rows w rfl (.tmp 17) (.tmp 17) 256 rfl 70 i0 (.agg (List.replicate 16 (Value.int .i64 0)).toArray) 16 Tryz.underlying256 hi hz0 hz1 .i64 .i64 c rfl rfl (by rw [hz2]; omega) (by omega) ?_; rw [hmc]) | (refine wpList_make_rows (w.alloc (.cells mc 70)) rfl (.tmp 20) (.tmp 20) 254 rfl 67 i4 (.agg (List.replicate 4 (Value.int .i64 0)).toArray) 4 Tryz.underlying254 hi4 hz4 hz5 .i64 .i64 c rfl rfl (by rw [hz6]; omega) (by omega) ?_; rw [hmd]))
 go_loopw [24] (fun i wr=>∃ m:Nat,m<=c/\i=.int .i64 m/\Blk wr w.heap.size 70 ((rowsTo 16 c (fun i=>specZ (nthF fs i)) m).map (.int .i64))/\Blk wr (w.heap.size+1) 67 ((rowsTo 4 c (fun i=>(nthF fs i).gains) m).map (.int .i64))/\Below w.heap.size w wr) (fun i _=>c - (intOf i).toNat)
 case atStart=>exact ⟨0,by omega,rfl,HP0.out,HG0.out,HE0.out⟩
 case round =>
  obtain ⟨m,hm,rfl,hB,hG,hbel⟩:=hrel
  have HB:=hid hB
  have HGb:=hid hG
  have Hbe:=hid hbel
  clear HP0 HG0 HE0 hB hG hbel
  by_cases hlk:m < c
  ·have t1:(m:Int) < (c:Int):=by omega
   have t2:(0:Int)<=(m:Int):=by omega
   obtain ⟨p,hp⟩:=list_get (k:=m) Hcl.out hlk
   have hmem:=List.mem_of_getElem? hp
   have hpR:=HR.out p hmem
   have hpT:=(HA.out.tones p hmem).later Hbe.out
   have hpn:=HNth.out m p hp
   obtain ⟨b,off,rfl,hb,hcell⟩:=frame_at HA.out hp
   have FX:=hid (fun j v (hv:(frC p)[j]? = some v)=>(show wr.cell? ⟨b,off+m*29+j,none⟩=some v from (Hbe.out.cell (p:=⟨b,off+m*29+j,none⟩) hb).trans (hcell j v hv)))
   have hfl:(frC p).length=29:=frC_len hpR.len
   have Hf1:=hid (show (frC p).toArray.all (·.oneCell')=true by
    rw [Array.all_eq_true_iff_forall_mem]
    intro v hv
    exact frC_one p v (by simpa using hv))
   have HNs:=HSn.out m hlk
   have HNg:=HGn.out m hlk
   have hSr:=HSr.out m
   have hGr:=HGr.out m
   simp only [hpn] at HNs HNg
   have hgl:p.2.gains.length=4:=hpR.gains.1
   have HQ:=hid (fun (x:GW (wr.alloc (.cells (frC p).toArray 72)))=>HSp.out p x.1 hpR ((hpT.later (bnew wr _)).later x.2).2.2)
   have HGp:=hid (fun j v (hv:(p.2.gains.map (Value.int .i64))[j]? = some v)=>(show (frC p).toArray[0+j]? = some v from frameA_gain hpR.len _ hv))
   unfold blockV at HQ
   have Ho1:=hid (ints_each (specZ p.2))
   have Ho2:=hid (ints_each p.2.gains)
   have hvl:((specZ p.2).map (Value.int .i64)).length=16:=by rw [List.length_map,specZ_len]
   have hyl:(p.2.gains.map (Value.int .i64)).length=4:=by rw [List.length_map,hgl]
   have HNs2:(putAt (rowsTo 16 c (fun i=>specZ (nthF fs i)) m) (m*16) (specZ p.2)).map (Value.int .i64)=(rowsTo 16 c (fun i=>specZ (nthF fs i)) (m+1)).map (Value.int .i64):=by rw [HNs]
   have HNg2:(putAt (rowsTo 4 c (fun i=>(nthF fs i).gains) m) (m*4) p.2.gains).map (Value.int .i64)=(rowsTo 4 c (fun i=>(nthF fs i).gains) (m+1)).map (Value.int .i64):=by rw [HNg]
   rw [putAt_map] at HNs2 HNg2
   have hr1:=row_fit (sz:=16) hlk
   have hr2:=row_fit (sz:=4) hlk
   obtain ⟨U1,hU1⟩:∃ U1,(rowsTo 16 c (fun i=>specZ (nthF fs i)) (m+1)).map (Value.int .i64)=U1:=⟨_,rfl⟩
   obtain ⟨V1,hV1⟩:∃ V1,(rowsTo 4 c (fun i=>(nthF fs i).gains) (m+1)).map (Value.int .i64)=V1:=⟨_,rfl⟩
   rw [hU1] at HNs2
   rw [hV1] at HNg2
   have HU1:=hid hU1
   have HV1:=hid hV1
   have Hul:=hid (show ((rowsTo 16 c (fun i=>specZ (nthF fs i)) m).map (Value.int .i64)).length=c*16 by rw [List.length_map,hSr])
   have Hvl:=hid (show ((rowsTo 4 c (fun i=>(nthF fs i).gains) m).map (Value.int .i64)).length=c*4 by rw [List.length_map,hGr])
   generalize (rowsTo 16 c (fun i=>specZ (nthF fs i)) m).map (Value.int .i64)=U0 at *
   generalize (rowsTo 4 c (fun i=>(nthF fs i).gains) m).map (Value.int .i64)=V0 at *
   generalize (specZ p.2).map (Value.int .i64)=zs at *
   generalize p.2.gains.map (Value.int .i64)=ys at *
   generalize frC p=fl at *
   have HNs3:=hid HNs2
   have HNg3:=hid HNg2
   have HFl:=hid (show (Tryz.prog.info? 72).map (·.size)=some fl.length by rw [hfl]; exact inf_frame)
   have HFa:=hid (show (Tryz.prog.info? 72).map (·.size)=some fl.toArray.size by rw [List.size_toArray,hfl]; exact inf_frame)
   have Hfz:=hid (show fl.toArray.size=29 by rw [List.size_toArray,hfl])
   have HFz:=hid (show (Tryz.prog.info? 70).map (·.size)=some zs.length by rw [hvl]; exact inf_block)
   have HFy:=hid (show (Tryz.prog.info? 67).map (·.size)=some ys.length by rw [hyl]; exact inf_four)
   have Hfit:=hid (show m*16+zs.length<=U0.length by rw [hvl,Hul.out]; exact hr1)
   have Hfit2:=hid (show m*4+ys.length<=V0.length by rw [hyl,Hvl.out]; exact hr2)
   have HN:=hid (heap_alloc_new wr (.cells fl.toArray 72))
   clear hp hmem hpR hpT hpn hcell hfl hSr hGr hgl hvl hyl HNs HNg HNs2 HNg2 hU1 hV1 hr1 hr2 Hul Hvl
   go_wp2_with (first | (refine wpList_load_part_w rfl 72 (.tmp 27) rfl b (off+m*29) rfl fl _ FX.out Tryz.underlying72 rfl HFl.out ?_) | (refine wpList_store_row_w rfl 72 (.tmp 10) (.tmp 28) rfl wr.heap.size rfl _ _ fl.toArray rfl (heap_alloc_new wr _) HFa.out (by rw [Hfz.out]; rfl) Hf1.out ?_; rw [World.setRow_alloc_new]))
   have x5:=gw_heap HN.out
   have y5:=fun W hW j v hv=>(show World.cell? W ⟨wr.heap.size,0+j,none⟩=some v from (cell_of_row _ _ _ _ _ _ (x5 W hW)).trans (HGp.out j v hv))
   refine wp_region_behind [0,1,2,3,6] [4,5,8] 7 9 [10,11] (v:=.agg ys.toArray) (by kernel_rfl) (by kernel_rfl) rfl (fun c a' w' d v h=>by cases d <;> exact h) ?_
   simp only [opsI,List.filterMap_cons,List.filterMap_nil,List.getElem?_toArray,List.getElem?_cons_succ,List.getElem?_cons_zero]
   refine ⟨.slice (some ⟨w.heap.size,0,none⟩) c c,.inl ⟨by rfl,fun W=>by go_simp⟩,?_⟩
   refine ⟨.int .i64 m,.inl ⟨by rfl,fun W=>by go_simp⟩,?_⟩
   refine ⟨.slice (some ⟨w.heap.size+1,0,none⟩) c c,.inl ⟨by rfl,fun W=>by go_simp⟩,?_⟩
   refine ⟨.int .i64 m,.inl ⟨by rfl,fun W=>by go_simp⟩,?_⟩
   refine ⟨.pointer (some ⟨wr.heap.size,0,none⟩),.inl ⟨by rfl,fun W=>by go_simp⟩,?_⟩
   refine ⟨yields_load_part (by rfl) 67 (.tmp 35) rfl wr.heap.size 0 rfl ys _ y5 Tryz.underlying67 rfl HFy.out,?_⟩
   simp only [Act.put,List.setIfInBounds_toArray,List.set_cons_succ,List.set_cons_zero]
   change wpQuiet _ (List.toArray _) _ _ (_ :: _ :: _ :: []) { tmps:=List.toArray _,defers:=[] }
   repeat (first | (go_big_quiet_want; refine quiet_load_row 72 (.tmp 10) rfl wr.heap.size rfl _ fl.toArray _ _ x5 Tryz.underlying72 rfl HFa.out ?_; go_simp; go_big_quiet_on) | go_big_quiet_step ((go_at_call 169; exact calm_call (HQ.out _))))
   refine wpQuiet_nil ?_
   intro w5 hw'
   have y6:=y5 w5 hw'
   have hb5:=bnext (bnew wr (.cells fl.toArray 72)) (gw_below hw')
   have hz5:=(gw_below hw').size
   have B5:=hid (HB.out.below hb5 HB.out.lt)
   have G5:=hid (HGb.out.below hb5 HGb.out.lt)
   have E5:=hid (bnext Hbe.out hb5)
   have hlw:=HGb.out.lt
   have G6:=hid (show (w5.setRow w.heap.size U1.toArray).heap[w.heap.size+1]? = some (.cells V0.toArray 67 (0,0)) from (setRow_other _ _ _ _ (by omega)).trans G5.out)
   have Y6:=hid (fun j v (hv:ys[j]? = some v)=>(show (w5.setRow w.heap.size U1.toArray).cell? ⟨wr.heap.size,0+j,none⟩=some v from (World.cell?_of_block (setRow_other _ _ _ _ (by show wr.heap.size ≠ w.heap.size; omega))).trans (y6 j v hv)))
   clear hw' hb5 x5 y5 y6
   refine ⟨?A,?B⟩
   case' A =>
    simp only [List.setIfInBounds_toArray]
    change wpList _ (List.toArray _) _ (_ :: _ :: _ :: []) { tmps:=List.toArray _,defers:=[] } _
   case' B =>
    change wpList _ (List.toArray _) _ (_ :: _ :: _ :: _ :: []) { tmps:=List.toArray _,defers:=[] } _
   all_goals
    go_wp2_with (first | (refine wpList_store_part_w rfl 70 (.tmp 37) (.tmp 34) rfl w.heap.size (m*16) rfl _ _ zs rfl B5.out HFz.out Hfit.out Ho1.out ?_; rw [HNs3.out]) | (refine wpList_load_part_w rfl 67 (.tmp 35) rfl wr.heap.size 0 rfl ys _ Y6.out Tryz.underlying67 rfl HFy.out ?_) | (refine wpList_store_part_w rfl 67 (.tmp 38) (.tmp 36) rfl (w.heap.size+1) (m*4) rfl _ _ ys rfl G6.out HFy.out Hfit2.out Ho2.out ?_; rw [HNg3.out]))
    go_roundw
    case rel =>
     refine ⟨m+1,by omega,by go_num,?_,?_,setRow_below (setRow_below E5.out _ (by omega) _) _ (by omega) _⟩
     ·rw [HU1.out]; exact (setRow_other _ _ _ _ (by omega)).trans (setRow_at w5 _ _ _ _ B5.out)
     ·rw [HV1.out]; exact setRow_at _ _ _ _ _ G6.out
    case measure=>simp [intOf]; omega
  ·have hmc:m=c:=by omega
   have t1:¬ ((m:Int) < (c:Int)):=by omega
   subst hmc
   have Lg:=hid (hkeep Hg.out Hbe.out)
   have LX:=hid (fun j v (hv:tv[j]? = some v)=>(cell_of_row _ _ _ _ _ _ Lg.out).trans (HLa.out j v hv))
   have HX:=hid (HW.out (some ⟨w.heap.size,0,none⟩) (some ⟨w.heap.size+1,0,none⟩) m m wr (fun i v hv=>⟨w.heap.size,0,rfl,HB.out.lt,by rw [HB.out.cell,Nat.zero_add]; exact hv⟩) (fun i v hv=>⟨w.heap.size+1,0,rfl,HGb.out.lt,by rw [HGb.out.cell,Nat.zero_add]; exact hv⟩))
   clear HB HGb HW HSn HGn HSr HGr
   go_wp2_with (first | (go_at_call 170; fail) | (refine wpList_load_part_w rfl 207 (.tmp 42) rfl gc 0 rfl tv _ LX.out Tryz.underlying207 rfl HIl.out ?_))
   refine HX.out.mono ?_
   rintro e w3 ⟨A3,c3,rfl,hc3,hc63,hr3,hb3⟩
   have R3:=hid hr3
   have E3:=hid (bnext Hbe.out hb3)
   obtain ⟨N,hN⟩:∃ N,X.length=N:=⟨_,rfl⟩
   rw [hN] at hwl hc3 ⊢
   have HNN:=hid hN
   clear hr3 hb3 HX LX Lg hc3 hc63 hN
   go_wp2_with fail
   go_loopw [11,49] (fun o i wx=>∃ (q:Nat) (A':Option Addr) (cc:Nat),q<=N/\i=.int .i64 q/\o=.slice A' q cc/\cc<=9223372036854775807/\wx.ownsRow w3.heap.size 3 1 (.slice A' q cc) q (((X.map satZ).take q).map (.int .i64))/\Below w3.heap.size w3 wx) (fun _ i _=>N - (intOf i).toNat)
   case atStart=>exact ⟨0,none,0,by omega,rfl,rfl,by omega,World.ownsRow_nil _ _ _ _,Below.refl _ _⟩
   case round =>
    obtain ⟨q,A',cc,hq,rfl,rfl,hcc63,hown,hbel⟩:=hrel
    have Hown:=hid hown
    have Hbel:=hid hbel
    have Hge:=hid (own_block_ge hown)
    have Hc63:=hid hcc63
    clear hown hbel hcc63
    by_cases hlq:q < N
    ·have t3:(q:Int) < (N:Int):=by omega
     obtain ⟨x,hx⟩:=list_get (k:=q) HNN.out hlq
     obtain ⟨b,off,hA,hb,k0⟩:=R3.out q (.int .i64 x) (by rw [List.getElem?_map,hx]; rfl)
     have k1:=(Hbel.out.cell (p:=⟨b,off+q,none⟩) hb).trans k0
     subst hA
     have HS:=hid (show ((X.map satZ).take (q+1)).map (Value.int .i64)=((X.map satZ).take q).map (Value.int .i64) ++ [.int .i64 (satZ x)] by
      have hx2:(X.map satZ)[q]? = some (satZ x):=by rw [List.getElem?_map,hx]; rfl
      obtain ⟨hm,he⟩:=List.getElem?_eq_some_iff.1 hx2
      rw [List.take_succ_eq_append_getElem hm,List.map_append,he]; rfl)
     have HC:=hid (fun W=>csat_any x W)
     generalize satZ x=sx at *
     clear hx k0
     go_wp2_with (first | (go_at_call 171; refine (HC.out _).mono ?_; rintro e w8 ⟨rfl,rfl⟩) | (at_builtin; refine wpList_app _ rfl (.tmp 53) (.tmp 56) 94 rfl w3.heap.size 3 iI (.int .i64 0) 1 8 Tryz.underlying94 hiI hzI0 hzI1 hzI2 rfl (by omega) _ q _ rfl (Hown.out.alloc _) (wr.heap.size+1) (some ⟨wr.heap.size,0,none⟩) 1 1 [.int .i64 _] rfl rfl (Row.new wr _ _) (fun u hu=>by simp at hu; subst hu; rfl) (by omega) (by omega) (by have:=Hbel.out.size; simp; omega) ?_; intro A2 c2 w9 hown2 hgrow hat hcc))
     go_roundw
     case rel =>
      have hb2:Below w3.heap.size w3 w9:=(Hbel.out.alloc Hbel.out.size _).grown hgrow (by have:=Hbel.out.size; simp; omega) (fun g h=>Hge.out g h)
      exact ⟨q+1,A2,c2,by omega,by go_num,rfl,own_cap hown2,by rw [HS.out]; exact hown2,hb2⟩
     case measure=>simp [intOf]; omega
    ·have t3:¬ ((q:Int) < (N:Int)):=by omega
     have hqn:q=N:=by omega
     have HE:=hid (show ((X.map satZ).take q).map (Value.int .i64)=(X.map satZ).map (.int .i64) by rw [List.take_of_length_le (by rw [List.length_map,HNN.out]; omega)])
     subst hqn
     go_wp2
     go_ret
     exact ⟨A',cc,by rw [List.length_map,HNN.out]; rfl,by rw [List.length_map,HNN.out]; exact own_len Hown.out,Hc63.out,by rw [<-HE.out,List.length_map,HNN.out]; exact own_more Hown.out E3.out.size,bnext E3.out Hbel.out⟩
end
section
open Go.RowKit
end
end Go.Proofs.YtgcfkblmnpnogaaGreatDoor
