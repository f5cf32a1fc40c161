/- FitK, FitL, FitI, FitM, FitR. Conditions: as each theorem states. -/
import Derived.Deep.DeepFit
import Derived.Test.YtnbbfblaipjcmaaGreatDoorPt19
set_option maxRecDepth 100000
set_option maxHeartbeats 8000000
namespace Go.Proofs.YtnbbfblaipjcmaaGreatDoor
section
open Go.Lib (hid)
open Go.RowKit
theorem Same_one (f:FrameV) (A1 A2:Option Addr) (c1 c2:Nat) (w:World) (h:f.Len) (hr1:Row w w.heap.size A1 (toneCells f.tones)) (hr2:Row w w.heap.size A2 (toneCells f.tones)) (hl:f.tones.length<=1000000) :
  Calls Tryz.prog 36 #[.agg (frameA f (.slice A1 f.tones.length c1)),.agg (frameA f (.slice A2 f.tones.length c2))] w fun e w'=>e=.returned (.bool true)/\Below w.heap.size w w':=by
 have hgl:(f.gains.map (Value.int .i64)).length=4:=by simp [h.g]
 have hsl:(f.scale.map (Value.int .i64)).length=4:=by simp [h.s]
 have hwl:(f.width.map (Value.int .i64)).length=4:=by simp [h.w]
 have hql:(f.q.map (Value.int .i64)).length=16:=by simp [h.q]
 have q1:∀ W,(Op.equalIn 10000 45 (.agg (f.gains.map (Value.int .i64)).toArray) (.agg (f.gains.map (Value.int .i64)).toArray)).run Tryz.prog W=.ok true W:=fun W=>(eq_four f.gains f.gains h.g h.g W).trans (by rw [decide_eq_true rfl])
 have q2:∀ W,(Op.equalIn 10000 45 (.agg (f.scale.map (Value.int .i64)).toArray) (.agg (f.scale.map (Value.int .i64)).toArray)).run Tryz.prog W=.ok true W:=fun W=>(eq_four f.scale f.scale h.s h.s W).trans (by rw [decide_eq_true rfl])
 have q3:∀ W,(Op.equalIn 10000 45 (.agg (f.width.map (Value.int .i64)).toArray) (.agg (f.width.map (Value.int .i64)).toArray)).run Tryz.prog W=.ok true W:=fun W=>(eq_four f.width f.width h.w h.w W).trans (by rw [decide_eq_true rfl])
 have q4:∀ W,(Op.equalIn 10000 48 (.agg (f.q.map (Value.int .i64)).toArray) (.agg (f.q.map (Value.int .i64)).toArray)).run Tryz.prog W=.ok true W:=fun W=>(eq_block f.q f.q h.q h.q W).trans (by rw [decide_eq_true rfl])
 have H2:=hid (heap2 w (.cells (frameA f (.slice A1 f.tones.length c1)) 50) (.cells (frameA f (.slice A2 f.tones.length c2)) 50))
 have HC:=hid (fun (W:World) hW=>And.intro (frame_parts h (hkeep H2.out.1 (w':=W) hW)) (frame_parts h (hkeep H2.out.2.1 (w':=W) hW)))
 have HT1:=hid (fun (m:Nat) (t:ToneV) (ht:f.tones[m]? = some t)=>tone_row hr1 ht)
 have HT2:=hid (fun (m:Nat) (t:ToneV) (ht:f.tones[m]? = some t)=>tone_row hr2 ht)
 obtain ⟨gg,ts,sc,wd,q⟩:=f
 simp only at *
 obtain ⟨n,hn⟩:∃ n,ts.length=n:=⟨_,rfl⟩
 rw [hn] at hl H2 HC ⊢
 have Hn:=hid hn
 clear hn h hr1 hr2
 generalize frameA ⟨gg,ts,sc,wd,q⟩ (.slice A1 n c1)=f1 at *
 generalize frameA ⟨gg,ts,sc,wd,q⟩ (.slice A2 n c2)=f2 at *
 generalize gg.map (Value.int .i64)=gv at *
 generalize sc.map (Value.int .i64)=sv at *
 generalize wd.map (Value.int .i64)=wv at *
 generalize q.map (Value.int .i64)=qv at *
 have HFg:=hid (show (Tryz.prog.info? 45).map (·.size)=some gv.length by rw [hgl]; exact inf_four)
 have HFs:=hid (show (Tryz.prog.info? 45).map (·.size)=some sv.length by rw [hsl]; exact inf_four)
 have HFw:=hid (show (Tryz.prog.info? 45).map (·.size)=some wv.length by rw [hwl]; exact inf_four)
 have HFq:=hid (show (Tryz.prog.info? 48).map (·.size)=some qv.length by rw [hql]; exact inf_block)
 obtain ⟨W2,hW2⟩:∃ W2,(w.alloc (.cells f1 50)).alloc (.cells f2 50)=W2:=⟨_,rfl⟩
 have HW2:=hid hW2
 rw [hW2] at H2 HC
 have K:=HC.out W2 (Below.refl _ _)
 have k1:=K.1.2.1
 have k2:=K.2.2.1
 rw [<-hW2] at k1 k2
 clear K hgl hsl hwl hql hW2
 go_enter Tryz.func36,Tryz.ntmps36
 go_wp2
 clear k1 k2
 go_loopw [16] (fun i wr=>∃ m:Nat,m<=n/\i=.int .i64 m/\Below W2.heap.size W2 wr) (fun i _=>n - (intOf i).toNat)
 case atStart=>exact ⟨0,by omega,rfl,by rw [HW2.out]; exact Below.refl _ _⟩
 case round =>
  obtain ⟨m,hm,rfl,hbel⟩:=hrel
  have Hbel:=hid hbel
  clear hbel
  by_cases hlk:m < n
  ·have t1:(m:Int) < (n:Int):=by omega
   obtain ⟨t,ht⟩:=list_get (k:=m) Hn.out hlk
   obtain ⟨b1,o1,rfl,hb1,x1,y1⟩:=HT1.out m t ht
   obtain ⟨b2,o2,rfl,hb2,x2,y2⟩:=HT2.out m t ht
   have HB:=hid (fun (x:GW wr)=>(show Below w.heap.size w x.1 from H2.out.2.2.2.trans ((Hbel.out.trans (x.2.mono Hbel.out.size)).mono H2.out.2.2.2.size)))
   have j1:=fun (x:GW wr)=>((HB.out x).cell (p:=⟨b1,o1+m*2,none⟩) hb1).trans x1
   have j2:=fun (x:GW wr)=>((HB.out x).cell (p:=⟨b1,o1+m*2+1,none⟩) hb1).trans y1
   have j3:=fun (x:GW wr)=>((HB.out x).cell (p:=⟨b2,o2+m*2,none⟩) hb2).trans x2
   have j4:=fun (x:GW wr)=>((HB.out x).cell (p:=⟨b2,o2+m*2+1,none⟩) hb2).trans y2
   have j5:=fun (x:GW wr)=>(HC.out x.1 (Hbel.out.trans (x.2.mono Hbel.out.size))).1.2.1
   have j6:=fun (x:GW wr)=>(HC.out x.1 (Hbel.out.trans (x.2.mono Hbel.out.size))).2.2.1
   obtain ⟨ix,vl⟩:=t
   simp only at j1 j2 j3 j4
   clear ht x1 y1 x2 y2
   go_wp2_with fail
   refine wp_region_calm (by kernel_rfl) (by kernel_rfl) ?_
   repeat (go_big_quiet_step (fail))
   refine wpQuiet_nil ?_
   intro w5 hw'
   have hb5:=gw_below hw'
   have HB5:=hid (bnext Hbel.out hb5)
   clear hw' hb5 j1 j2 j3 j4 j5 j6
   go_wp2
   go_roundw
   case rel=>exact ⟨m+1,by omega,by go_num,HB5.out⟩
   case measure=>simp [intOf]; omega
  ·have hmn:m=n:=by omega
   subst hmn
   have t1:¬ ((m:Int) < (m:Int)):=by omega
   have K:=HC.out wr Hbel.out
   have R1:=hid K.1.1
   have R2:=hid K.1.2.2.1
   have R3:=hid K.1.2.2.2.1
   have R4:=hid K.1.2.2.2.2
   have S1:=hid K.2.1
   have S2:=hid K.2.2.2.1
   have S3:=hid K.2.2.2.2.1
   have S4:=hid K.2.2.2.2.2
   clear K
   go_wp2_with (first | (refine wpList_load_part_w rfl 45 (.tmp 31) rfl w.heap.size 0 rfl gv _ R1.out Tryz.underlying45 rfl HFg.out ?_) | (refine wpList_load_part_w rfl 45 (.tmp 33) rfl (w.heap.size+1) 0 rfl gv _ S1.out Tryz.underlying45 rfl HFg.out ?_) | (refine wpList_load_part_w rfl 45 (.tmp 37) rfl w.heap.size 5 rfl sv _ R2.out Tryz.underlying45 rfl HFs.out ?_) | (refine wpList_load_part_w rfl 45 (.tmp 39) rfl (w.heap.size+1) 5 rfl sv _ S2.out Tryz.underlying45 rfl HFs.out ?_) | (refine wpList_load_part_w rfl 45 (.tmp 44) rfl w.heap.size 9 rfl wv _ R3.out Tryz.underlying45 rfl HFw.out ?_) | (refine wpList_load_part_w rfl 45 (.tmp 46) rfl (w.heap.size+1) 9 rfl wv _ S3.out Tryz.underlying45 rfl HFw.out ?_) | (refine wpList_load_part_w rfl 48 (.tmp 51) rfl w.heap.size 13 rfl qv _ R4.out Tryz.underlying48 rfl HFq.out ?_) | (refine wpList_load_part_w rfl 48 (.tmp 53) rfl (w.heap.size+1) 13 rfl qv _ S4.out Tryz.underlying48 rfl HFq.out ?_))
   go_ret
   exact ⟨rfl,H2.out.2.2.2.trans (Hbel.out.mono H2.out.2.2.2.size)⟩
end
section
open Go.RowKit
end
section
open Go.Lib (hid)
open Go.RowKit
theorem slim_peak (b:List Int):b.all slimI=decide (widthZ (peakZ b)<=24):=by
 rw [Bool.eq_iff_iff,List.all_eq_true,decide_eq_true_eq]
 unfold slimI
 constructor
 ·intro h
  have:peakZ b<=8388607:=peakZ_le (by omega) b fun x hx=>by
   have:=widthZ_bd (k:=23) (of_decide_eq_true (h x hx))
   omega
  have:=peakZ_nn b
  exact widthZ_le (k:=23) (by omega) (by omega)
 ·intro h x hx
  have h1:=peakZ_ge b x hx
  have h2:=widthZ_mono (absZ_nn (v:=x)) h1
  exact decide_eq_true (by omega)
theorem exact_len {b:List Int}:(exactZ b).Len:=told_len rfl rfl
theorem Exact_any (b:List Int) (w:World) (hb:b.length=16) (hr:BigB b) :
  Calls Tryz.prog 240 #[blockV b] w fun e w'=>e=.returned (.agg (frameA (exactZ b) (.slice none 0 0)))/\Below w.heap.size w w':=by
 have HS:=hid (fun W=>Search_any b zero4 1073741824 false W hb hr rfl)
 rw [search_exact b hb hr] at HS
 have hbz:(b.map (Value.int .i64)).toArray.size=16:=by simp [hb]
 unfold blockV at *
 generalize (b.map (Value.int .i64)).toArray=bv at *
 have HFb:=hid (show (Tryz.prog.info? 48).map (·.size)=some bv.size by rw [hbz]; exact inf_block)
 have H2:=hid (heap2 w (.cells bv 48) (.cells zeroF 50))
 clear hbz hb hr
 go_enter Tryz.func240,Tryz.ntmps240
 go_wp2_with (first | (go_at_call 241; fail) | (refine wpList_load_row_w rfl 48 (.tmp 1) rfl w.heap.size rfl _ bv _ _ H2.out.1 Tryz.underlying48 rfl HFb.out ?_))
 refine (HS.out _).mono ?_
 rintro e w1 ⟨A,c,rfl,hlc,hc63,_,hnil,hrow,hb1⟩
 obtain ⟨rfl,rfl⟩:=hnil rfl
 simp only [show (exactZ b).tones.length=0 from rfl]
 have K2:=hid (hkeep H2.out.2.1 hb1)
 have KB:=hid (btail H2.out.2.2.2 (Nat.le_refl _) hb1)
 have hz:=Nat.le_trans (Nat.le_of_eq H2.out.2.2.1.symm) hb1.size
 have hfz:=frameA_size exact_len (.slice none 0 0) (f:=exactZ b)
 have hf1:=frameA_one (exactZ b) (tv:=.slice none 0 0) rfl
 obtain ⟨fc,hfc⟩:∃ fc,frameA (exactZ b) (.slice none 0 0)=fc:=⟨_,rfl⟩
 simp only [hfc] at hfz hf1 ⊢
 have HFf:=hid (show (Tryz.prog.info? 50).map (·.size)=some fc.size by rw [hfz]; exact inf_frame)
 have Hfz:=hid hfz
 have Hf1:=hid hf1
 have Hfc:=hid hfc
 have HN:=hid (heap_alloc_new w1 (.cells fc 50))
 have K2':=hid (hkeep K2.out (bnew w1 (.cells fc 50)))
 have KB':=hid (btail KB.out (by omega) (bnew w1 (.cells fc 50)))
 clear hrow hb1 hfz hf1 hfc H2 hlc hc63
 go_wp2_with (first | (refine wpList_store_row_w rfl 50 (.tmp 3) (.tmp 9) rfl w1.heap.size rfl _ _ fc rfl (heap_alloc_new w1 _) HFf.out (by rw [Hfz.out]; rfl) Hf1.out ?_; rw [World.setRow_alloc_new]) | (refine wpList_load_row_w rfl 50 (.tmp 3) rfl w1.heap.size rfl _ fc _ _ HN.out Tryz.underlying50 rfl HFf.out ?_) | (refine wpList_store_row_w rfl 50 (.tmp 2) (.tmp 11) rfl (w.heap.size+1) rfl _ _ fc rfl K2'.out HFf.out (by rw [Hfz.out]; rfl) Hf1.out ?_))
 refine bodyPost_ret (v:=.agg fc) (results_cell_row Tryz.results240 _ _ (w.heap.size+1) 50 fc (0,0) _ rfl (setRow_at _ _ _ _ fc K2'.out) Tryz.underlying50 rfl HFf.out) rfl ?_
 exact ⟨by rw [<-Hfc.out],setRow_below KB'.out _ (by omega) _⟩
def fitErr (b g:List Int) (size:Int):Int:=if size < 24\/96 < size then 12 else if (b.all slimI && gainOk g)=true then 0 else 5
def zeroFr:FrameV:=⟨zero4,[],zero4,zero4,zero16⟩
theorem zeroFr_A:frameA zeroFr (.slice none 0 0)=zeroF:=rfl
def fitF (b g:List Int) (size:Int):FrameV:=if fitErr b g size=0 then (if 55<=size then exactZ b else (searchZ b g (8*size) true).1) else zeroFr
def FitPost (W:World) (f:FrameV) (er:Int) (e:Ending) (w':World):Prop :=
 ∃ A c,e=.returned (.tuple #[.agg (frameA f (.slice A f.tones.length c)),.int .i64 er])/\f.tones.length<=c/\c<=9223372036854775807/\(f.tones=[]\/∃ g,A=some ⟨g,0,none⟩/\W.heap.size<=g)/\Row w' w'.heap.size A (toneCells f.tones)/\Below W.heap.size W w'
theorem searchZ_len {b g:List Int} {room:Int} {tones:Bool} (hg:g.length=4):(searchZ b g room tones).1.Len:=by
 obtain ⟨s,n,h,hs,_⟩:=search_ends b g room tones
 rw [h]
 exact told_len hg hs.1
theorem Frame_size (b g:List Int) (size:Int) (w:World) (h:size < 24\/96 < size) :
  Calls Tryz.prog 204 #[blockV b,blockV g,.int .i64 size] w (FitPost w zeroFr 12):=by
 unfold blockV
 generalize (b.map (Value.int .i64)).toArray=bv at *
 generalize (g.map (Value.int .i64)).toArray=gv at *
 obtain ⟨zc,hzc⟩:∃ zc,zeroF=zc:=⟨_,rfl⟩
 have HZb:=hid (show Tryz.prog.built 50 []=some zc by rw [<-hzc]; kernel_rfl)
 have HZf:=hid (show (Tryz.prog.info? 50).map (·.size)=some zc.size by rw [<-hzc]; exact inf_frame)
 have HZ1:=hid (show zc.all (·.oneCell')=true by rw [<-hzc,<-zeroFr_A]; exact frameA_one _ rfl)
 have HZs:=hid (show zeroF.size=zc.size by rw [hzc])
 have HZc:=hid hzc
 clear hzc
 have H3:=hid (heap3 w (.cells bv 48) (.cells gv 45) (.cells zeroF 50))
 by_cases h1:size < 24
 ·have t1:decide (size < 24)=true:=decide_eq_true h1
  clear h
  go_enter Tryz.func204,Tryz.ntmps204
  go_wp2_with (first | (refine wpList_built rfl 50 _ rfl zc (by simpa [Act.eval] using HZb.out) ?_) | (refine wpList_store_row_w rfl 50 (.tmp 6) (.tmp 16) rfl (w.heap.size+1+1) rfl _ _ zc rfl H3.out.2.2.1 HZf.out HZs.out HZ1.out ?_))
  refine bodyPost_ret (v:=.tuple #[.agg zc,.int .i64 12]) (results_cell_tmp Tryz.results204 _ _ (w.heap.size+1+1) 50 zc (0,0) _ _ rfl rfl (setRow_at _ _ _ _ zc H3.out.2.2.1) Tryz.underlying50 rfl HZf.out) rfl ?_
  exact ⟨none,0,by rw [<-HZc.out]; rfl,Nat.le_refl _,by omega,.inl rfl,Row.none_ _ _ _,setRow_below H3.out.2.2.2.2 _ (by omega) _⟩
 ·have t1:decide (size < 24)=false:=decide_eq_false h1
  have t2:decide (96 < size)=true:=decide_eq_true (by omega)
  clear h
  go_enter Tryz.func204,Tryz.ntmps204
  go_wp2_with (first | (refine wpList_built rfl 50 _ rfl zc (by simpa [Act.eval] using HZb.out) ?_) | (refine wpList_store_row_w rfl 50 (.tmp 6) (.tmp 16) rfl (w.heap.size+1+1) rfl _ _ zc rfl H3.out.2.2.1 HZf.out HZs.out HZ1.out ?_))
  refine bodyPost_ret (v:=.tuple #[.agg zc,.int .i64 12]) (results_cell_tmp Tryz.results204 _ _ (w.heap.size+1+1) 50 zc (0,0) _ _ rfl rfl (setRow_at _ _ _ _ zc H3.out.2.2.1) Tryz.underlying50 rfl HZf.out) rfl ?_
  exact ⟨none,0,by rw [<-HZc.out]; rfl,Nat.le_refl _,by omega,.inl rfl,Row.none_ _ _ _,setRow_below H3.out.2.2.2.2 _ (by omega) _⟩
theorem Frame_any (b g:List Int) (size:Int) (w:World) (hb:b.length=16) (hr:BigB b) (hg:g.length=4) :
  Calls Tryz.prog 204 #[blockV b,blockV g,.int .i64 size] w (FitPost w (fitF b g size) (fitErr b g size)):=by
 by_cases hsz:size < 24\/96 < size
 ·have e1:fitErr b g size=12:=if_pos hsz
  have e2:fitF b g size=zeroFr:=by unfold fitF; rw [e1]; rfl
  rw [e1,e2]
  exact Frame_size b g size w hsz
 have t1:decide (size < 24)=false:=decide_eq_false (by omega)
 have t2:decide (96 < size)=false:=decide_eq_false (by omega)
 have HP:=hid (show ∀ W:World,W.heap[w.heap.size]? = some (.cells (b.map (Value.int .i64)).toArray 48 (0,0))->Calls Tryz.prog 238 #[.slice (some ⟨w.heap.size,0,none⟩) 16 16] W fun e w'=>e=.returned (.int .i64 (peakZ b))/\W=w' from fun W hW=>by
  have:=Peak_any (some ⟨w.heap.size,0,none⟩) 16 b W (by omega) (fun i v hv=>⟨_,0,rfl,hlt hW,by rw [cell_of_row _ _ _ _ _ _ hW,Nat.zero_add]; simpa using hv⟩) (fun x hx=>by
   obtain ⟨k,hk,rfl⟩:=List.mem_iff_getElem.1 hx
   have:=hr k _ (List.getElem?_eq_getElem hk)
   omega)
  rw [hb] at this
  exact this)
 have hpk:0<=peakZ b/\peakZ b<=4611686018427387904:=big_peak hr (fun x hx=>hx)
 have HW:=hid (fun W=>Width_any (peakZ b) W (by omega) (by omega))
 have HG:=hid (fun W=>gainsRight_any g W hg)
 have HX:=hid (fun W=>Exact_any b W hb hr)
 have HS:=hid (fun W=>Search_any b g (8*size) true W hb hr hg)
 have hw8:IntKind.i64.wrap (8*size)=8*size:=IntWalk.i64_in _ (by omega)
 have hE:=slim_peak b
 have HFe:=hid (show fitErr b g size=if (b.all slimI && gainOk g)=true then 0 else 5 from if_neg hsz)
 have HFf:=hid (show fitF b g size=if fitErr b g size=0 then (if 55<=size then exactZ b else (searchZ b g (8*size) true).1) else zeroFr from rfl)
 have HLx:=hid (exact_len (b:=b))
 have HLs:=hid (searchZ_len (b:=b) (room:=8*size) (tones:=true) hg)
 generalize fitErr b g size=er at *
 generalize fitF b g size=F at *
 have HXt:=hid (show (exactZ b).tones=[] from rfl)
 generalize exactZ b=X at *
 generalize searchZ b g (8*size) true=S at *
 obtain ⟨S,sn⟩:=S
 generalize b.all slimI=SL at *
 generalize gainOk g=GO at *
 have hbz:(b.map (Value.int .i64)).toArray.size=16:=by simp [hb]
 have hgz:(g.map (Value.int .i64)).toArray.size=4:=by simp [hg]
 unfold blockV at *
 generalize (b.map (Value.int .i64)).toArray=bv at *
 generalize (g.map (Value.int .i64)).toArray=gv at *
 have HFb:=hid (show (Tryz.prog.info? 48).map (·.size)=some bv.size by rw [hbz]; exact inf_block)
 have HFg:=hid (show (Tryz.prog.info? 45).map (·.size)=some gv.size by rw [hgz]; exact inf_four)
 obtain ⟨zc,hzc⟩:∃ zc,zeroF=zc:=⟨_,rfl⟩
 have HZb:=hid (show Tryz.prog.built 50 []=some zc by rw [<-hzc]; kernel_rfl)
 have HZf:=hid (show (Tryz.prog.info? 50).map (·.size)=some zc.size by rw [<-hzc]; exact inf_frame)
 have HZ1:=hid (show zc.all (·.oneCell')=true by rw [<-hzc,<-zeroFr_A]; exact frameA_one _ rfl)
 have HZs:=hid (show zeroF.size=zc.size by rw [hzc])
 have HZc:=hid hzc
 clear hzc
 have H3:=hid (heap3 w (.cells bv 48) (.cells gv 45) (.cells zeroF 50))
 have HPk:=hid (HP.out _ H3.out.1)
 generalize peakZ b=pk at *
 generalize widthZ pk=wk at *
 have HE:=hid hE
 clear hbz hgz hb hr hg hE HP hpk
 by_cases hwk:24 < wk
 ·have t3:decide ((24:Int) < (wk:Int))=true:=decide_eq_true (by omega)
  have he:er=5:=by rw [HFe.out,HE.out,decide_eq_false (by omega)]; rfl
  have hF:F=zeroFr:=by rw [HFf.out,he]; rfl
  subst he hF
  clear HFe HFf hwk
  go_enter Tryz.func204,Tryz.ntmps204
  go_wp2_with (first | (go_at_call 238; refine HPk.out.mono ?_; rintro e w1 ⟨rfl,rfl⟩) | (go_at_call 237; refine (HW.out _).mono ?_; rintro e w1 ⟨rfl,rfl⟩) | (refine wpList_built rfl 50 _ rfl zc (by simpa [Act.eval] using HZb.out) ?_) | (refine wpList_store_row_w rfl 50 (.tmp 6) (.tmp 26) rfl (w.heap.size+1+1) rfl _ _ zc rfl H3.out.2.2.1 HZf.out HZs.out HZ1.out ?_))
  refine bodyPost_ret (v:=.tuple #[.agg zc,.int .i64 5]) (results_cell_tmp Tryz.results204 _ _ (w.heap.size+1+1) 50 zc (0,0) _ _ rfl rfl (setRow_at _ _ _ _ zc H3.out.2.2.1) Tryz.underlying50 rfl HZf.out) rfl ?_
  exact ⟨none,0,by rw [<-HZc.out]; rfl,Nat.le_refl _,by omega,.inl rfl,Row.none_ _ _ _,setRow_below H3.out.2.2.2.2 _ (by omega) _⟩
 have t3:decide ((24:Int) < (wk:Int))=false:=decide_eq_false (by omega)
 have hSL:SL=true:=by rw [HE.out]; exact decide_eq_true (by omega)
 subst hSL
 cases GO
 ·have he:er=5:=by rw [HFe.out]; rfl
  have hF:F=zeroFr:=by rw [HFf.out,he]; rfl
  subst he hF
  clear HFe HFf hwk
  go_enter Tryz.func204,Tryz.ntmps204
  go_wp2_with (first | (go_at_call 238; refine HPk.out.mono ?_; rintro e w1 ⟨rfl,rfl⟩) | (go_at_call 237; refine (HW.out _).mono ?_; rintro e w1 ⟨rfl,rfl⟩) | (go_at_call 239; fail) | (refine wpList_load_row_w rfl 45 (.tmp 4) rfl (w.heap.size+1) rfl _ gv _ _ H3.out.2.1 Tryz.underlying45 rfl HFg.out ?_))
  refine (HG.out _).mono ?_
  rintro e w1 ⟨rfl,hb1⟩
  have K2:=hid (hkeep H3.out.2.2.1 hb1)
  have KB:=hid (btail H3.out.2.2.2.2 (Nat.le_refl _) hb1)
  clear hb1
  go_wp2_with (first | (refine wpList_built rfl 50 _ rfl zc (by simpa [Act.eval] using HZb.out) ?_) | (refine wpList_store_row_w rfl 50 (.tmp 6) (.tmp 26) rfl (w.heap.size+1+1) rfl _ _ zc rfl K2.out HZf.out HZs.out HZ1.out ?_))
  refine bodyPost_ret (v:=.tuple #[.agg zc,.int .i64 5]) (results_cell_tmp Tryz.results204 _ _ (w.heap.size+1+1) 50 zc (0,0) _ _ rfl rfl (setRow_at _ _ _ _ zc K2.out) Tryz.underlying50 rfl HZf.out) rfl ?_
  exact ⟨none,0,by rw [<-HZc.out]; rfl,Nat.le_refl _,by omega,.inl rfl,Row.none_ _ _ _,setRow_below KB.out _ (by omega) _⟩
 have he:er=0:=by rw [HFe.out]; rfl
 subst he
 clear HFe hwk
 have hfz0:=fun tv=>frameA_size HLx.out tv
 have hfz1:=fun tv=>frameA_size HLs.out tv
 have Hfz0:=hid hfz0
 have Hfz1:=hid hfz1
 have Hf10:=hid (fun (F:FrameV) A n c=>frameA_one F (tv:=.slice A n c) rfl)
 clear hfz0 hfz1 HLx HLs
 by_cases h55:55<=size
 ·have hF:F=X:=by rw [HFf.out,if_pos rfl,if_pos h55]
  subst hF
  clear HFf
  go_enter Tryz.func204,Tryz.ntmps204
  go_wp2_with (first | (go_at_call 238; refine HPk.out.mono ?_; rintro e w1 ⟨rfl,rfl⟩) | (go_at_call 237; refine (HW.out _).mono ?_; rintro e w1 ⟨rfl,rfl⟩) | (go_at_call 239; fail) | (refine wpList_load_row_w rfl 45 (.tmp 4) rfl (w.heap.size+1) rfl _ gv _ _ H3.out.2.1 Tryz.underlying45 rfl HFg.out ?_))
  refine (HG.out _).mono ?_
  rintro e w1 ⟨rfl,hb1⟩
  have K0:=hid (hkeep H3.out.1 hb1)
  have K2:=hid (hkeep H3.out.2.2.1 hb1)
  have KB:=hid (btail H3.out.2.2.2.2 (Nat.le_refl _) hb1)
  have hz:=Nat.le_trans (Nat.le_of_eq H3.out.2.2.2.1.symm) hb1.size
  clear hb1
  go_wp2_with (first | (go_at_call 240; fail) | (refine wpList_load_row_w rfl 48 (.tmp 3) rfl w.heap.size rfl _ bv _ _ K0.out Tryz.underlying48 rfl HFb.out ?_))
  refine (HX.out _).mono ?_
  rintro e w2 ⟨rfl,hb2⟩
  have L2:=hid (hkeep K2.out hb2)
  have LB:=hid (btail KB.out (Nat.le_refl _) hb2)
  have Hfz:=hid (Hfz0.out (.slice none 0 0))
  have Hf1:=hid (Hf10.out F none 0 0)
  obtain ⟨fc,hfc⟩:∃ fc,frameA F (.slice none 0 0)=fc:=⟨_,rfl⟩
  rw [hfc] at Hfz Hf1 ⊢
  have Hfc:=hid hfc
  have HFf:=hid (show (Tryz.prog.info? 50).map (·.size)=some fc.size by rw [Hfz.out]; exact inf_frame)
  have hz2:=hb2.size
  clear hb2 hfc K0 K2 KB Hfz0 Hfz1 Hf10
  go_wp2_with (refine wpList_store_row_w rfl 50 (.tmp 6) (.tmp 30) rfl (w.heap.size+1+1) rfl _ _ fc rfl L2.out HFf.out (by rw [Hfz.out]; rfl) Hf1.out ?_)
  refine bodyPost_ret (v:=.tuple #[.agg fc,.int .i64 0]) (results_cell_tmp Tryz.results204 _ _ (w.heap.size+1+1) 50 fc (0,0) _ _ rfl rfl (setRow_at _ _ _ _ fc L2.out) Tryz.underlying50 rfl HFf.out) rfl ?_
  exact ⟨none,0,by rw [<-Hfc.out,HXt.out]; rfl,by rw [HXt.out]; exact Nat.le_refl _,by omega,.inl HXt.out,by rw [HXt.out]; exact Row.none_ _ _ _,setRow_below LB.out _ (by omega) _⟩
 ·have hF:F=S:=by rw [HFf.out,if_pos rfl,if_neg h55]
  subst hF
  clear HFf
  go_enter Tryz.func204,Tryz.ntmps204
  go_wp2_with (first | (go_at_call 238; refine HPk.out.mono ?_; rintro e w1 ⟨rfl,rfl⟩) | (go_at_call 237; refine (HW.out _).mono ?_; rintro e w1 ⟨rfl,rfl⟩) | (go_at_call 239; fail) | (refine wpList_load_row_w rfl 45 (.tmp 4) rfl (w.heap.size+1) rfl _ gv _ _ H3.out.2.1 Tryz.underlying45 rfl HFg.out ?_))
  refine (HG.out _).mono ?_
  rintro e w1 ⟨rfl,hb1⟩
  have K0:=hid (hkeep H3.out.1 hb1)
  have K1:=hid (hkeep H3.out.2.1 hb1)
  have K2:=hid (hkeep H3.out.2.2.1 hb1)
  have KB:=hid (btail H3.out.2.2.2.2 (Nat.le_refl _) hb1)
  have hz:=Nat.le_trans (Nat.le_of_eq H3.out.2.2.2.1.symm) hb1.size
  clear hb1
  go_wp2_with (first | (go_at_call 241; fail) | (refine wpList_load_row_w rfl 48 (.tmp 3) rfl w.heap.size rfl _ bv _ _ K0.out Tryz.underlying48 rfl HFb.out ?_) | (refine wpList_load_row_w rfl 45 (.tmp 4) rfl (w.heap.size+1) rfl _ gv _ _ K1.out Tryz.underlying45 rfl HFg.out ?_))
  refine (HS.out _).mono ?_
  rintro e w2 ⟨A,c,rfl,hlc,hc63,hfr,_,hrow,hb2⟩
  simp only at hlc hc63 hfr hrow ⊢
  have Hfz:=hid (Hfz1.out (.slice A F.tones.length c))
  have Hf1:=hid (Hf10.out F A F.tones.length c)
  obtain ⟨fc,hfc⟩:∃ fc,frameA F (.slice A F.tones.length c)=fc:=⟨_,rfl⟩
  rw [hfc] at Hfz Hf1 ⊢
  have Hfc:=hid hfc
  have HFf:=hid (show (Tryz.prog.info? 50).map (·.size)=some fc.size by rw [Hfz.out]; exact inf_frame)
  have HN:=hid (heap_alloc_new w2 (.cells fc 50))
  have hb3:=bnext hb2 (bnew w2 (.cells fc 50))
  have L2:=hid (hkeep K2.out hb3)
  have LB:=hid (btail KB.out (Nat.le_refl _) hb3)
  have Hrow:=hid (hrow.later (bnew w2 (.cells fc 50)))
  have Hfr:=hid hfr
  have hz2:=hb2.size
  clear hb2 hb3 hrow hfr hfc K0 K1 K2 KB Hfz0 Hfz1 Hf10
  go_wp2_with (first | (refine wpList_store_row_w rfl 50 (.tmp 8) (.tmp 37) rfl w2.heap.size rfl _ _ fc rfl (heap_alloc_new w2 _) HFf.out (by rw [Hfz.out]; rfl) Hf1.out ?_; rw [World.setRow_alloc_new]) | (refine wpList_load_row_w rfl 50 (.tmp 8) rfl w2.heap.size rfl _ fc _ _ HN.out Tryz.underlying50 rfl HFf.out ?_) | (refine wpList_store_row_w rfl 50 (.tmp 6) (.tmp 39) rfl (w.heap.size+1+1) rfl _ _ fc rfl L2.out HFf.out (by rw [Hfz.out]; rfl) Hf1.out ?_))
  refine bodyPost_ret (v:=.tuple #[.agg fc,.int .i64 0]) (results_cell_tmp Tryz.results204 _ _ (w.heap.size+1+1) 50 fc (0,0) _ _ rfl rfl (setRow_at _ _ _ _ fc L2.out) Tryz.underlying50 rfl HFf.out) rfl ?_
  refine ⟨A,c,by rw [<-Hfc.out],hlc,hc63,?_,row_setRow Hfr.out (by omega) fc Hrow.out,setRow_below LB.out _ (by omega) _⟩
  rcases Hfr.out with h | ⟨g,h1,h2⟩
  ·exact .inl h
  ·exact .inr ⟨g,h1,by omega⟩
end
section
open Go.RowKit
theorem low23 {b:List Int} (hb:b.length=16) (h:b.all slimI=true):Low23 b:=by
 intro k hk
 obtain ⟨x,hx⟩:=list_get (k:=k) hb hk
 have h1:=List.all_eq_true.1 h x (List.mem_of_getElem? hx)
 unfold slimI at h1
 have h2:=widthZ_bd (k:=23) (of_decide_eq_true h1)
 rw [bgt_get hx]
 unfold absZ at h2
 repeat' split at h2
 all_goals omega
theorem zero4_gain:zero4.length=4/\∀ i,i < 4->0<=bgt zero4 i/\bgt zero4 i<=3:=⟨rfl,fun i hi=>by
 match i,hi with
 | 0,_ | 1,_ | 2,_ | 3,_=>simp [bgt,zero4]⟩
theorem exact_right {b:List Int} (hb:b.length=16) (h:b.all slimI=true):RightF (exactZ b) :=
 told_right zero4_gain (by simp) (fun t ht=>by simp at ht) List.Pairwise.nil ScB.zero (low23 hb h)
end
section
open Go.RowKit
theorem gain_of {g:List Int} (hg:g.length=4) (h:gainOk g=true):g.length=4/\∀ i,i < 4->0<=bgt g i/\bgt g i<=3:=⟨hg,fun i hi=>by
 obtain ⟨x,hx⟩:=list_get (k:=i) hg hi
 have:=List.all_eq_true.1 h x (List.mem_of_getElem? hx)
 unfold inB at this
 rw [bgt_get hx]
 simpa using this⟩
theorem low_tones {b:List Int} (hb:b.length=16) (hl:Low23 b) (tones:Bool):(tonesFor b tones).length<=2/\(∀ t ∈ tonesFor b tones,0<=t.idx/\t.idx < 16/\-8388608<=t.val/\t.val < 8388608)/\((tonesFor b tones).Pairwise fun x y=>x.idx < y.idx)/\Low23 (outT b (tonesFor b tones)):=by
 have hbig:BigB b:=fun k x hx=>by
  have hk:k < 16:=by have:=(List.getElem?_eq_some_iff.1 hx).1; omega
  have:=hl k hk
  rw [bgt_get hx] at this
  omega
 cases tones
 ·exact ⟨by simp [tonesFor],fun t ht=>by simp [tonesFor] at ht,by simp [tonesFor],by simpa [tonesFor,outT] using hl⟩
 ·simp only [tonesFor,if_true]
  refine ⟨findT_len2 hb hbig,fun t ht=>?_,findT_inc b,fun i hi=>?_⟩
  ·rw [find_idxs] at ht
   obtain ⟨k,hk,rfl⟩:=List.mem_map.1 ht
   have h16:=idxs_lt b k hk
   have:=hl k h16
   unfold toneAt
   simp only
   omega
  ·rw [find_idxs,outT_get b i _ b hb (idxs_nodup b) (idxs_lt b)]
   have:=hl i hi
   split <;> omega
theorem search_right {b g:List Int} {room:Int} {tones:Bool} (hb:b.length=16) (hs:b.all slimI=true) (hg:g.length=4) (hgo:gainOk g=true):RightF (searchZ b g room tones).1:=by
 obtain ⟨s,n,h,hsc,_⟩:=search_ends b g room tones
 obtain ⟨h1,h2,h3,h4⟩:=low_tones hb (low23 hb hs) tones
 rw [h]
 exact told_right (gain_of hg hgo) h1 h2 h3 hsc h4
theorem search_room {b g:List Int} {room:Int} {tones:Bool} (hb:b.length=16) (hs:b.all slimI=true) (hr:192<=room):bitsZ (searchZ b g room tones).1<=room:=by
 obtain ⟨s,n,h,hsc,he⟩:=search_ends b g room tones
 obtain ⟨h1,_,_,h4⟩:=low_tones hb (low23 hb hs) tones
 rw [h]
 rcases he with he | he
 ·exact he
 ·have:=told_room h1 hsc h4 he
  show bitsZ (toldZ b g s (tonesFor b tones))<=room
  omega
theorem fit_right {b g:List Int} {size:Int} (hb:b.length=16) (hg:g.length=4) (he:fitErr b g size=0):RightF (fitF b g size)/\bitsZ (fitF b g size)<=8*size/\24<=size/\size<=96:=by
 have he2:=he
 unfold fitErr at he
 split at he
 ·cases he
 ·split at he
  ·rename_i h1 h2
   rw [Bool.and_eq_true] at h2
   unfold fitF
   rw [he2,if_pos rfl]
   split
   ·have hR:=exact_right hb h2.1
    refine ⟨hR,?_,by omega,by omega⟩
    have hw:=fun i hi=>hR.width i hi
    have w0:=hw 0 (by omega)
    have w1:=hw 1 (by omega)
    have w2:=hw 2 (by omega)
    have w3:=hw 3 (by omega)
    have ht:(exactZ b).tones.length=0:=rfl
    unfold bitsZ
    omega
   ·exact ⟨search_right hb h2.1 hg h2.2,search_room hb h2.1 (by omega),by omega,by omega⟩
  ·cases he
end
end Go.Proofs.YtnbbfblaipjcmaaGreatDoor
