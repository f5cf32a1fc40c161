/- CodeU, CodeV. Conditions: as each theorem states. -/
import Derived.Test.YtnbbfblaipjcmaaGreatDoorPv15
import Derived.Test.YtnbbfblaipjcmaaGreatDoorPv23
import Derived.Test.YtnbbfblaipjcmaaGreatDoorPv25
namespace Go.Proofs.YtnbbfblaipjcmaaGreatDoor
section
open Go.Lib (hid)
open Go.RowKit
theorem RO:CI bI:=by
 intro q hq
 match q,hq with
 | 0,_ | 1,_ | 2,_ | 3,_ | 4,_ | 5,_ | 6,_ | 7,_=>exact ⟨rfl,rfl⟩
def WO (W:World) (c:Nat) (xs:List Int) (e:Ending) (w':World):Prop :=
 ∃ A cap,e=.returned (.slice A c cap)/\c<=cap/\Row w' w'.heap.size A (xs.map (.int .i64))/\Below W.heap.size W w'
theorem BJ {W:World} {B:Nat} {b off:Nat} {l:List Int} (h:Row W B (some ⟨b,off,none⟩) (l.map (.int .i64))) (o n:Nat):∀ j v,(((l.drop o).take n).map (Value.int .i64))[j]? = some v->W.cell? ⟨b,off+o+j,none⟩=some v:=by
 intro j v hv
 rw [List.getElem?_map,List.getElem?_take] at hv
 split at hv
 ·rw [List.getElem?_drop] at hv
  obtain ⟨b',off',hA,_,hc⟩:=h (o+j) v (by rw [List.getElem?_map]; exact hv)
  injection hA with hA
  injection hA with e1 e2
  subst e1 e2
  rw [Nat.add_assoc]
  exact hc
 ·cases hv
theorem WU {W:World} {g:Nat} {t:TypeId} {l:List Int} (h:Blk W g t (l.map (.int .i64))) (o n:Nat):∀ j v,(((l.drop o).take n).map (Value.int .i64))[j]? = some v->W.cell? ⟨g,o+j,none⟩=some v:=by
 intro j v hv
 rw [h.cell,List.getElem?_map]
 rw [List.getElem?_map,List.getElem?_take] at hv
 split at hv
 ·rw [List.getElem?_drop] at hv; exact hv
 ·cases hv
theorem aCa {W:World} {B n:Nat} {A:Option Addr} {l:List Int} (h:Row W B A (l.map (.int .i64))) (hl:l.length=n) (hn:0 < n):∃ b off,A=some ⟨b,off,none⟩/\b < B:=by
 obtain ⟨x,hx⟩:=aE (k:=0) hl hn
 obtain ⟨b,off,hA,hb,_⟩:=h 0 (.int .i64 x) (by rw [List.getElem?_map,hx]; rfl)
 exact ⟨b,off,hA,hb⟩
theorem lG (l:List Int):∀ u ∈ l.map (Value.int .i64),u.oneCell'=true:=fun u hu=>by
 obtain ⟨y,_,rfl⟩:=List.mem_map.1 hu
 rfl
theorem CU {f:Nat->List Int->List Int} {p:List Int} {c:Nat} (hf:∀ i b,i < c->b.length=16->(f i b).length=16) (hp:p.length=c*16) {m:Nat} (hm:m < c) (pad:List Int) :
  (aS (eM f p c m ++ pad) (m*16) (f m (aX p m))).map (Value.int .i64)=(eM f p c (m+1) ++ pad).map (.int .i64):=by
 have hr:=s9 (sz:=16) hm
 rw [aAh (by rw [hf m _ hm (b6 hp hm),lB hf hp]; exact hr),TE hf hp hm]
theorem TF {q pad:List Int} {c i:Nat} (hq:q.length=c*16) (hi:i < c):(((q ++ pad).drop (i*16)).take 16)=aX q i:=by
 have hr:=s9 (sz:=16) hi
 unfold aX
 rw [List.drop_append_of_le_length (by omega),List.take_append_of_le_length (by rw [List.length_drop]; omega)]
set_option maxRecDepth 100000 in
set_option maxHeartbeats 8000000 in
theorem M9 (l gs:List Int) (A Ag:Option Addr) (cap capg c:Nat) (w:World) (hc:aV l.length=c) (hl:l.length<=1000000) (hr:Row w w.heap.size A (l.map (.int .i64))) (hg:AZ gs c) (hgr:Row w w.heap.size Ag (gs.map (.int .i64)))
  (hbd:∀ x ∈ l,-100000000<=x/\x<=100000000) :
  Calls Tryz.prog 203 #[.agg fA,.slice A l.length cap,.slice Ag c capg] w (WO w c (vG (fE l) gs c)):=by
 have hcc:c<=1000000:=by rw [<-hc]; unfold aV; omega
 have hP:(fE l).length=c*16:=by rw [kP,hc]
 have hPb:BdL 100000000 (fE l):=XE hbd (by omega)
 have HBl:=hid (fun W (hW:Below w.heap.size w W)=>(show Calls Tryz.prog 232 #[.slice A l.length cap] W (xJ W c (fE l)) from hc ▸ BW l A cap W (by omega) (hr.later hW)))
 have HUp:=hid (fun m W (hm:m < c)=>aDv (aX (fE l) m) (eV 4 gs m) W (b6 hP hm) ((mT hP hm hPb).turnB (by omega)) (hg.2 m hm))
 have HUn:=hid (fun m (hm:m < c)=>CU (f:=upF gs) tD hP hm [])
 have HUb:=hid (fun m (hm:m < c)=>(vU (f:=upF gs) tD hP m hm).trans (if_neg (Nat.lt_irrefl _)))
 have HU0:=hid (CV (f:=upF gs) hP)
 have HUl:=hid (fun m=>lB (f:=upF gs) tD hP m)
 have hJ:(eI (yR (fE l) gs c) c).length=c*16:=wI (mC hP)
 have hJb:BdL 1200000004 (eI (yR (fE l) gs c) c):=yA (M:=800000000) (mC hP) (Nat.le_refl c) (MJ (m:=c) hP hg hPb (by omega)) (by omega) (by omega)
 have HJ:=hid (fun B W (r:Row W W.heap.size B ((yR (fE l) gs c).map (.int .i64))) k=>aAR (yR (fE l) gs c) c B k W (mC hP) hcc r ((MJ (m:=c) hP hg hPb (by omega)).mono (by omega)))
 have HFw:=hid (fun m W (hm:m < c)=>(show Calls Tryz.prog 236 #[.agg bI,aT (aX (eI (yR (fE l) gs c) c) m)] W fun e w'=>e=.returned (aT (nO (aX (eI (yR (fE l) gs c) c) m)))/\Below W.heap.size W w' from by
  have:=MU bI (aX (eI (yR (fE l) gs c) c) m) 1200000004 W cH RO (b6 hJ hm) (by omega) ((mT hJ hm hJb).within (b6 hJ hm))
  rw [aDI (b6 hJ hm)] at this
  exact this))
 have HFn:=hid (fun m (hm:m < c) pad=>CU (f:=fun _=>nO) oY hJ hm pad)
 have HFb:=hid (fun m (hm:m < c)=>(vU (f:=fun _=>nO) oY hJ m hm).trans (if_neg (Nat.lt_irrefl _)))
 have HF0:=hid (CV (f:=fun _=>nO) hJ)
 have HFl:=hid (fun m=>lB (f:=fun _=>nO) oY hJ m)
 have HBk:=hid (fun m (hm:m < c)=>b6 hP hm)
 have HJk:=hid (fun m (hm:m < c)=>b6 hJ hm)
 have HGk:=hid (fun m (hm:m < c)=>(hg.2 m hm).1)
 have Hgl:=hid hg.1
 have Hgr:=hid hgr
 have HSp:=hid (show vG (fE l) gs c=eM (fun _=>nO) (eI (yR (fE l) gs c) c) c c from rfl)
 have HUe:=hid (show yR (fE l) gs c=eM (upF gs) (fE l) c c from rfl)
 have HUf:=hid (fun m=>(show upF gs m (aX (fE l) m)=bH (aX (fE l) m) (eV 4 gs m) 16 from rfl))
 have hlz:=iW
 obtain ⟨tv,htv,Htx⟩:∃ tv:List Value,tv.length=16/\bI=tv.toArray:=⟨bI.toList,by rw [Array.length_toList,cH],by simp⟩
 have HLa:=hid (fun j v (hv:tv[j]? = some v)=>(show fA[16+j]? = some v by
  unfold fA
  rw [Array.getElem?_append_right (by rw [cH]; omega),cH,Nat.add_sub_cancel_left,Htx,List.getElem?_toArray]
  exact hv))
 rw [Htx] at HFw
 rw [HSp.out]
 obtain ⟨n,hn⟩:∃ n,l.length=n:=⟨_,rfl⟩
 rw [hn] at HBl ⊢
 clear hP hPb hJ hJb hg hr hgr hl hbd hc Htx hn HSp
 generalize fE l=P at *
 generalize eI (yR P gs c) c=J at *
 rw [HUe.out] at HJ
 clear HUe
 generalize fA=lv at *
 have HIl:=hid (show (Tryz.prog.info? 104).map (·.size)=some lv.size by rw [hlz]; exact BE)
 have HIn:=hid (show (Tryz.prog.info? 102).map (·.size)=some tv.length by rw [htv]; exact BF)
 have HB0:=hid (aL w (.cells lv 104))
 have HN0:=hid (heap_alloc_new w (.cells lv 104))
 clear hlz
 go_enter Tryz.func203,Tryz.ntmps203
 go_wp2_with (go_at_call 232; fail)
 refine (HBl.out _ HB0.out).mono ?_
 rintro e w1 ⟨gb,rfl,hgb,hbb,hb1⟩
 have L1:=hid (aF HN0.out hb1)
 have P1:=hid (show Blk w1 gb 48 ((eM (upF gs) P c 0).map (.int .i64)) by rw [HU0.out]; exact hbb)
 have E1:=hid (aC HB0.out hb1)
 have ngb:w.heap.size < gb:=by simp at hgb; omega
 clear hb1 hbb hgb HB0 HN0 HU0 HBl
 go_wp2_with fail
 go_loopw [14] (fun i wr=>∃ m:Nat,m<=c/\i=.int .i64 m/\Blk wr gb 48 ((eM (upF gs) P c m).map (.int .i64))/\wr.heap[w.heap.size]? = some (.cells lv 104 (0,0))/\Below w.heap.size w wr) (fun i _=>c - (intOf i).toNat)
 case atStart=>exact ⟨0,by omega,rfl,P1.out,L1.out,E1.out⟩
 case round =>
  obtain ⟨m,hm,rfl,hB,hlap,hbel⟩:=hrel
  have HB:=hid hB
  have Hla:=hid hlap
  have Hbe:=hid hbel
  clear P1 L1 E1 hB hlap hbel
  by_cases hlk:m < c
  ·have t1:(m:Int) < (c:Int):=by omega
   obtain ⟨ag,og,rfl,hag⟩:=aCa Hgr.out Hgl.out (by omega)
   have GX:=hid (BJ ((Hgr.out.below Hbe.out).more Hbe.out.size) (m*4) 4)
   have BX:=hid (fun (x:GW wr)=>WU ((HB.out.below x.2 HB.out.lt)) (m*16) 16)
   have GY:=hid (fun (x:GW wr)=>(BJ (((Hgr.out.below Hbe.out).more Hbe.out.size).below x.2) (m*4) 4))
   have HU:=hid (fun W=>HUp.out m W hlk)
   have HNx:=HUn.out m hlk
   have hbe:=HUb.out m hlk
   have hbl:=HBk.out m hlk
   have hgl:=HGk.out m hlk
   have hul:=HUl.out m
   have hue:=HUf.out m
   simp only [List.append_nil] at HNx
   rw [hue] at HNx
   rw [show ((eM (upF gs) P c m).drop (m*16)).take 16=aX P m from hbe] at BX
   rw [show ((gs.drop (m*4)).take 4)=eV 4 gs m from rfl] at GY
   clear hbe hue GX
   unfold aT at HU
   have Hone:=hid (lG (bH (aX P m) (eV 4 gs m) 16))
   have hvl:((bH (aX P m) (eV 4 gs m) 16).map (Value.int .i64)).length=16:=by rw [List.length_map,kU]
   rw [sY] at HNx
   have hxl:((aX P m).map (Value.int .i64)).length=16:=by rw [List.length_map,hbl]
   have hyl:((eV 4 gs m).map (Value.int .i64)).length=4:=by rw [List.length_map,hgl]
   have hrl:=s9 (sz:=16) hlk
   obtain ⟨U1,hU1⟩:∃ U1,(eM (upF gs) P c (m+1)).map (Value.int .i64)=U1:=⟨_,rfl⟩
   rw [hU1] at HNx
   have HU1:=hid hU1
   have Hul:=hid (show ((eM (upF gs) P c m).map (Value.int .i64)).length=c*16 by rw [List.length_map,hul])
   generalize (eM (upF gs) P c m).map (Value.int .i64)=U0 at *
   generalize (bH (aX P m) (eV 4 gs m) 16).map (Value.int .i64)=zs at *
   generalize (aX P m).map (Value.int .i64)=xs at *
   generalize (eV 4 gs m).map (Value.int .i64)=ys at *
   have HNx:=hid HNx
   have HFx:=hid (show (Tryz.prog.info? 48).map (·.size)=some xs.length by rw [hxl]; exact bS)
   have HFy:=hid (show (Tryz.prog.info? 45).map (·.size)=some ys.length by rw [hyl]; exact bY)
   have HFz:=hid (show (Tryz.prog.info? 48).map (·.size)=some zs.length by rw [hvl]; exact bS)
   have Hfit:=hid (show m*16+zs.length<=U0.length by rw [hvl,Hul.out]; exact hrl)
   have x5:=fun (x:GW wr)=>BX.out x
   have y5:=fun (x:GW wr)=>GY.out x
   clear hul hU1 hxl hyl hvl hbl hgl BX GY hrl Hul
   go_wp2_with fail
   refine aI 12 (by kernel_rfl) (by kernel_rfl) ?_
   simp only [List.take_succ_cons,List.take_zero,List.drop_succ_cons,List.drop_zero]
   repeat (first | (go_big_quiet_want; refine bA 48 (.tmp 25) rfl gb (m*16) rfl xs _ (by rintro _ ⟨x,rfl⟩; exact x5 x) Tryz.underlying48 rfl HFx.out ?_; go_simp; go_big_quiet_on) | (go_big_quiet_want; refine bA 45 (.tmp 29) rfl ag (og+m*4) rfl ys _ (by rintro _ ⟨x,rfl⟩; exact y5 x) Tryz.underlying45 rfl HFy.out ?_; go_simp; go_big_quiet_on) | go_big_quiet_step ((go_at_call 234; exact bZ (HU.out _))))
   refine wpQuiet_nil ?_
   intro w5 hw'
   have hb5:=aK hw'
   have B5:=hid (HB.out.below hb5 HB.out.lt)
   have L5:=hid (aF Hla.out hb5)
   have E5:=hid (aC Hbe.out hb5)
   clear hw' hb5 x5 y5
   go_wp2_with (refine dQ rfl 48 (.tmp 32) (.tmp 31) rfl gb (m*16) rfl _ _ zs rfl B5.out HFz.out Hfit.out Hone.out ?_; rw [HNx.out])
   go_roundw
   case rel=>exact ⟨m+1,by omega,by go_num,by rw [HU1.out]; exact bB w5 _ _ _ _ B5.out,(setRow_other _ _ _ _ (by omega)).trans L5.out,aO E5.out _ (by omega) _⟩
   case measure=>simp [intOf]; omega
  ·have hmc:m=c:=by omega
   subst hmc
   have t1:¬ ((m:Int) < (m:Int)):=by omega
   have HX:=hid (HJ.out (some ⟨gb,0,none⟩) wr (fun i v hv=>⟨gb,0,rfl,HB.out.lt,by rw [HB.out.cell,Nat.zero_add]; exact hv⟩) m)
   clear HJ
   go_wp2_with (first | (go_at_call 235; fail) | (refine aB rfl 104 (.tmp 3) rfl w.heap.size rfl _ lv _ _ Hla.out Tryz.underlying104 rfl HIl.out ?_))
   refine HX.out.mono ?_
   rintro e w3 ⟨A3,c3,rfl,hb3,hc3,hcase⟩
   have L3:=hid (aF Hla.out hb3)
   have E3:=hid (aC Hbe.out hb3)
   have hsz3:=Hbe.out.size
   clear HX
   rcases hcase with rfl | ⟨g2,k2,rfl,hg2,hB2⟩
   ·have t1:¬ ((0:Int) < ((0:Nat):Int)):=by omega
    have hF0:=HFl.out 0
    have HZ:=hid (List.eq_nil_of_length_eq_zero (by omega:(eM (fun _=>nO) J 0 0).length=0))
    clear hF0 hb3
    go_wp2_with fail
    go_loopw [39] (fun i wx=>i=.int .i64 0/\wx=w3) (fun _ _=>0)
    case atStart=>exact ⟨rfl,rfl⟩
    case round =>
     obtain ⟨rfl,rfl⟩:=hrel
     go_wp2
     go_ret
     exact ⟨A3,c3,rfl,hc3,by rw [HZ.out]; exact Row.none_ _ _ _,E3.out⟩
   ·have ng2:w.heap.size < g2:=by have:=hlt Hla.out; omega
    have P3:=hid (show Blk w3 g2 48 ((eM (fun _=>nO) J m 0 ++ List.replicate k2 0).map (.int .i64)) by rw [HF0.out]; exact hB2)
    clear hb3 hB2 HF0
    go_wp2_with fail
    go_loopw [39] (fun i wx=>∃ k:Nat,k<=m/\i=.int .i64 k/\Blk wx g2 48 ((eM (fun _=>nO) J m k ++ List.replicate k2 0).map (.int .i64))/\wx.heap[w.heap.size]? = some (.cells lv 104 (0,0))/\Below w.heap.size w wx) (fun i _=>m - (intOf i).toNat)
    case atStart=>exact ⟨0,by omega,rfl,P3.out,L3.out,E3.out⟩
    case round =>
     obtain ⟨k,hk,rfl,hB,hlap,hbel⟩:=hrel
     have HC:=hid hB
     have Hlb:=hid hlap
     have Hbf:=hid hbel
     clear P3 L3 E3 hB hlap hbel HB Hla Hbe
     by_cases hlk2:k < m
     ·have t1:(k:Int) < (m:Int):=by omega
      have BX:=hid (fun (x:GW wr)=>WU ((HC.out.below x.2 HC.out.lt)) (k*16) 16)
      have HU:=hid (fun W=>HFw.out k W hlk2)
      have HNx:=HFn.out k hlk2 (List.replicate k2 0)
      have hbe:=HFb.out k hlk2
      have hbl:=HJk.out k hlk2
      have hul:=HFl.out k
      rw [TF (c:=m) hul hlk2,hbe] at BX
      clear hbe
      unfold aT at HU
      have Hone:=hid (lG (nO (aX J k)))
      have hvl:((nO (aX J k)).map (Value.int .i64)).length=16:=by rw [List.length_map,DQ]
      rw [sY] at HNx
      have hxl:((aX J k).map (Value.int .i64)).length=16:=by rw [List.length_map,hbl]
      have hrl:=s9 (sz:=16) hlk2
      obtain ⟨U1,hU1⟩:∃ U1,(eM (fun _=>nO) J m (k+1) ++ List.replicate k2 0).map (Value.int .i64)=U1:=⟨_,rfl⟩
      rw [hU1] at HNx
      have HU1:=hid hU1
      have Hul:=hid (show m*16<=((eM (fun _=>nO) J m k ++ List.replicate k2 0).map (Value.int .i64)).length by rw [List.length_map,List.length_append,hul]; omega)
      generalize (eM (fun _=>nO) J m k ++ List.replicate k2 0).map (Value.int .i64)=U0 at *
      generalize (nO (aX J k)).map (Value.int .i64)=zs at *
      generalize (aX J k).map (Value.int .i64)=xs at *
      have HNx:=hid HNx
      have HFx:=hid (show (Tryz.prog.info? 48).map (·.size)=some xs.length by rw [hxl]; exact bS)
      have HFz:=hid (show (Tryz.prog.info? 48).map (·.size)=some zs.length by rw [hvl]; exact bS)
      have Hfit:=hid (show k*16+zs.length<=U0.length by rw [hvl]; exact Nat.le_trans hrl Hul.out)
      have x5:=fun (x:GW wr)=>BX.out x
      have z5:=fC Hlb.out
      have y5:=fun W hW j v hv=>(show World.cell? W ⟨w.heap.size,16+j,none⟩=some v from (cell_of_row _ _ _ _ _ _ (z5 W hW)).trans (HLa.out j v hv))
      clear hul hU1 hxl hvl hbl BX hrl Hul
      go_wp2_with fail
      refine aI 10 (by kernel_rfl) (by kernel_rfl) ?_
      simp only [List.take_succ_cons,List.take_zero,List.drop_succ_cons,List.drop_zero]
      repeat (first | (go_big_quiet_want; refine bA 48 (.tmp 48) rfl g2 (k*16) rfl xs _ (by rintro _ ⟨x,rfl⟩; exact x5 x) Tryz.underlying48 rfl HFx.out ?_; go_simp; go_big_quiet_on) | (go_big_quiet_want; refine bA 102 (.tmp 44) rfl w.heap.size 16 rfl tv _ y5 Tryz.underlying102 rfl HIn.out ?_; go_simp; go_big_quiet_on) | go_big_quiet_step ((go_at_call 236; exact bZ (HU.out _))))
      refine wpQuiet_nil ?_
      intro w5 hw'
      have hb5:=aK hw'
      have B5:=hid (HC.out.below hb5 HC.out.lt)
      have L5:=hid (aF Hlb.out hb5)
      have E5:=hid (aC Hbf.out hb5)
      clear hw' hb5 x5 y5 z5
      go_wp2_with (refine dQ rfl 48 (.tmp 51) (.tmp 50) rfl g2 (k*16) rfl _ _ zs rfl B5.out HFz.out Hfit.out Hone.out ?_; rw [HNx.out])
      go_roundw
      case rel=>exact ⟨k+1,by omega,by go_num,by rw [HU1.out]; exact bB w5 _ _ _ _ B5.out,(setRow_other _ _ _ _ (by omega)).trans L5.out,aO E5.out _ (by omega) _⟩
      case measure=>simp [intOf]; omega
     ·have hkm:k=m:=by omega
      subst hkm
      have t1:¬ ((k:Int) < (k:Int)):=by omega
      go_wp2
      go_ret
      refine ⟨_,_,rfl,hc3,fun i v hv=>⟨g2,0,rfl,HC.out.lt,?_⟩,Hbf.out⟩
      rw [HC.out.cell,Nat.zero_add,List.map_append,List.getElem?_append_left (List.getElem?_eq_some_iff.1 hv).1]
      exact hv
end
section
open Go.RowKit
end
end Go.Proofs.YtnbbfblaipjcmaaGreatDoor
