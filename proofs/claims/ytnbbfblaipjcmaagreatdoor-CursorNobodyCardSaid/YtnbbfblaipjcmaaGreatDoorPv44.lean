/- ParB. Conditions: as each theorem states. -/
import Derived.Laws.BytesArg
import Derived.Test.YtnbbfblaipjcmaaGreatDoorPv04
import Derived.Test.YtnbbfblaipjcmaaGreatDoorPv42
import Derived.Test.YtnbbfblaipjcmaaGreatDoorPv41
import Derived.Test.YtnbbfblaipjcmaaGreatDoorPv43
namespace Go.Proofs.YtnbbfblaipjcmaaGreatDoor
open Go.RowKit Go.Lib
theorem XJ (xs:List Nat) (o k:Nat):strOfNums ((cA xs o k).map fun (x:Nat)=>(x:Int))=⟨(oF (cA xs o k)).toArray⟩:=by
 unfold strOfNums oF
 rw [List.map_map]
 rfl
theorem fI (w:World):Below w.heap.size w w.drew:=(Below.refl _ _).drew
theorem YT (X:World):X.drew.heap=X.heap:=rfl
theorem o5 (x:MetaV):x.cells.toArray.all (·.oneCell')=true:=by
 rw [Array.all_eq_true_iff_forall_mem]
 intro v hv
 exact rX x v (by simpa using hv)
def FE (xs:List Nat) (m:Nat):List Value:=(List.range 6).map fun j=>if j < m then Value.int .i64 (bM xs (32+4*j) 4:Nat) else .int .i64 0
theorem aAq (xs:List Nat) {m:Nat} (h:m < 6):(FE xs m).set m (.int .i64 (bM xs (32+4*m) 4:Nat))=FE xs (m+1):=by
 refine List.ext_getElem? fun j=>?_
 unfold FE
 rw [List.getElem?_set,List.length_map,List.length_range,List.getElem?_map,List.getElem?_map]
 by_cases hj:j < 6
 ·rw [List.getElem?_range hj]
  by_cases hmj:m=j
  ·subst hmj
   rw [if_pos rfl,if_pos h]
   simp
  ·rw [if_neg hmj]
   simp only [Option.map_some]
   by_cases h2:j < m
   ·rw [if_pos h2,if_pos (by omega)]
   ·rw [if_neg h2,if_neg (by omega)]
 ·rw [List.getElem?_eq_none (by simp; omega),if_neg (by omega)]
  rfl
theorem J3 (xs:List Nat) {m j:Nat} (h:j < 6):(FE xs m)[j]? = some (if j < m then Value.int .i64 (bM xs (32+4*j) 4:Nat) else .int .i64 0):=by
 unfold FE
 rw [List.getElem?_map,List.getElem?_range h]
 rfl
set_option maxRecDepth 100000 in
set_option maxHeartbeats 16000000 in
theorem aBZ (xs:List Nat) (g off n cap:Nat) (w:World) (hn:xs.length=n) (h64:64<=n) (hnc:n<=cap) (hl:n<=1000000000) (hr:Row w w.heap.size (some ⟨g,off,none⟩) (u8s xs)) (hb:∀ x ∈ xs,x < 256) :
  Calls Tryz.prog 132 #[.slice (some ⟨g,off,none⟩) n cap] w fun e w'=>e=.returned (.tuple #[.agg (fH xs 0).cells.toArray,.bool (qY xs 0)])/\Below w.heap.size w w':=by
 have HRd:=hid (fun W (a:Nat) (hW:Below w.heap.size w W) (ha:a+4<=n)=>(show Calls Tryz.prog 93 #[.slice (some ⟨g,off,none⟩) n cap,.int .i64 a,.int .i64 4] W (fun e w'=>e=.returned (.int .i64 (bM xs a 4:Nat))/\W=w') from E0 xs _ n cap a 4 W hn (hr.later hW) hb ha hl (by omega)))
 obtain ⟨w1,hw1⟩:∃ w1,w.alloc (.cells #[.string ⟨#[]⟩,.int .i64 0,.int .i64 0,.int .i64 0,.bool false,.int .i64 0,.int .i64 0,.int .i64 0,.int .i64 0] 37)=w1:=⟨_,rfl⟩
 have Hz1:=hid (show w1.heap.size=w.heap.size+1 by rw [<-hw1]; simp)
 have HR1:=hid (show Blk w1 w.heap.size 37 [.string ⟨#[]⟩,.int .i64 0,.int .i64 0,.int .i64 0,.bool false,.int .i64 0,.int .i64 0,.int .i64 0,.int .i64 0] by rw [<-hw1]; exact Blk.new w _ [.string ⟨#[]⟩,.int .i64 0,.int .i64 0,.int .i64 0,.bool false,.int .i64 0,.int .i64 0,.int .i64 0,.int .i64 0])
 have HB1:=hid (show Below w.heap.size w w1 by rw [<-hw1]; exact aL w _)
 have Hcv:=hid (fun W (hW:Below w.heap.size w W)=>run_convert_bytes_arg (P:=Tryz.prog) W 30 5 Tryz.underlying30 Tryz.underlying5 g off 32 cap ((cA xs 0 32).map fun (x:Nat)=>(x:Int)) (by rw [List.length_map,eO]) (fun i hi=>by
  have h1:(u8s xs)[i]? = some (.int .u8 (xs.getD i 0:Nat)):=by
   rw [d9 (show xs[i]? = some (xs.getD i 0) by rw [List.getD_eq_getElem?_getD,List.getElem?_eq_getElem (by omega)]; rfl)]
  obtain ⟨b',o',ha,_,hc⟩:=(hr.later hW) i _ h1
  injection ha with ha
  injection ha with e1 e2
  subst e1 e2
  have e:((cA xs 0 32).map fun (x:Nat)=>(x:Int)).getD i 0=((xs.getD i 0:Nat):Int):=by
   rw [List.getD_eq_getElem?_getD,List.getElem?_map,gR hi,Nat.zero_add]
   rfl
  rw [hc,e]))
 rw [XJ] at Hcv
 have HTr:=hid (fun W=>rH ⟨(oF (cA xs 0 32)).toArray⟩ 0 (by decide) W (by show (oF (cA xs 0 32)).toArray.size<=_; unfold oF; rw [List.size_toArray,List.length_map,eO]; decide))
 have hcv1:=Hcv.out w1 (by rw [<-hw1]; exact aL w _)
 go_enter Tryz.func132,Tryz.ntmps132
 go_wp2_with (go_at_call 179; fail)
 refine (HTr.out _).mono ?_
 rintro e w' ⟨rfl,hw'⟩
 rw [hw']
 clear hw' w'
 have HXb:=hid (fun W (j:Nat) (hW:Below w.heap.size w W) (hj:j < n)=>(show W.cell? ⟨g,off+j,none⟩=some (.int .u8 (xs.getD j 0:Nat)) from by
  have h1:(u8s xs)[j]? = some (.int .u8 (xs.getD j 0:Nat)):=by
   rw [d9 (show xs[j]? = some (xs.getD j 0) by rw [List.getD_eq_getElem?_getD,List.getElem?_eq_getElem (by omega)]; rfl)]
  obtain ⟨b',o',ha,_,hc⟩:=(hr.later hW) j _ h1
  injection ha with ha
  injection ha with e1 e2
  subst e1 e2
  exact hc))
 have HYb:=hid (fun (j:Nat) (hj:j < n)=>(show xs.getD j 0 < 256 from by
  rw [List.getD_eq_getElem?_getD,List.getElem?_eq_getElem (by omega)]
  exact hb _ (List.getElem_mem _)))
 obtain ⟨nm,hnm⟩:∃ nm:ByteArray,(⟨(trimRightB (oF (cA xs 0 32)) 0).toArray⟩:ByteArray)=nm:=⟨_,rfl⟩
 have Hnm:=hid (show uX xs 0=nm from hnm)
 rw [hnm]
 clear hnm hcv1 Hcv HTr hr hb hn hw1
 go_wp2_with fail
 go_loopw [14] (fun i wr=>∃ m:Nat,m<=6/\i=.int .i64 m/\Blk wr (w1.heap.size) 282 (FE xs m)/\Below w1.heap.size w1 wr) (fun i _=>6 - (intOf i).toNat)
 case atStart =>
  refine ⟨0,by omega,rfl,?_,aL w1 _⟩
  exact Blk.new w1 282 (FE xs 0)
 case round =>
  obtain ⟨m,hm,rfl,hbk,hbel⟩:=hrel
  have Hbk:=hid hbk
  have Hbel:=hid hbel
  have HWr:=hid (aC HB1.out hbel)
  clear hbk hbel
  by_cases hlt:m < 6
  ·have t1:(m:Int) < 6:=by omega
   have t2:(0:Int)<=(m:Int):=by omega
   have hrd:=HRd.out wr (32+4*m) HWr.out (by omega)
   rw [show ((32+4*m:Nat):Int)=32+4*(m:Int) by push_cast; rfl] at hrd
   have HRm:=hid hrd
   have HSt:=hid (Hbk.out.set_ m (.int .i64 (bM xs (32+4*m) 4:Nat)))
   have HSx:=hid (aAq xs hlt)
   have c1:wr.cell? ⟨w1.heap.size,m,none⟩=some (.int .i64 0):=by
    rw [aG Hbk.out,J3 xs hlt,if_neg (by omega)]
   have y1:=lW Hbk.out
   clear hrd
   go_wp2_with (go_at_call 93; refine HRm.out.mono ?_; rintro e w5 ⟨rfl,rfl⟩)
   go_roundw
   case rel =>
    refine ⟨m+1,by omega,by go_num,?_,?_⟩
    ·rw [<-HSx.out]; exact HSt.out
    ·exact Hbel.out.setCell (Nat.le_refl _) _
   case measure=>simp [intOf]; omega
  ·have hm6:m=6:=by omega
   subst hm6
   have t1:¬ (((6:Nat):Int) < 6):=by omega
   have HX:=hid (fun (W:World) (hW:Below wr.heap.size wr W) (j:Nat) (hj:j < 6)=>(show W.cell? ⟨w1.heap.size,j,none⟩=some (.int .i64 (bM xs (32+4*j) 4:Nat)) from by
    rw [aG (Hbk.out.below hW Hbk.out.lt),J3 xs hj,if_pos hj]))
   obtain ⟨v0,hv0⟩:∃ v,bM xs 32 4=v:=⟨_,rfl⟩
   obtain ⟨v1,hv1⟩:∃ v,bM xs 36 4=v:=⟨_,rfl⟩
   obtain ⟨v2,hv2⟩:∃ v,bM xs 40 4=v:=⟨_,rfl⟩
   obtain ⟨v3,hv3⟩:∃ v,bM xs 44 4=v:=⟨_,rfl⟩
   obtain ⟨v4,hv4⟩:∃ v,bM xs 48 4=v:=⟨_,rfl⟩
   obtain ⟨v5,hv5⟩:∃ v,bM xs 52 4=v:=⟨_,rfl⟩
   obtain ⟨y6,hy6⟩:∃ v,xs.getD 56 0=v:=⟨_,rfl⟩
   obtain ⟨y7,hy7⟩:∃ v,xs.getD 57 0=v:=⟨_,rfl⟩
   obtain ⟨lp,hlp⟩:∃ b,((y7:Int) == 1)=b:=⟨_,rfl⟩
   have Hlp:=hid (show decide (y7=1)=lp by rw [<-hlp,Bool.eq_iff_iff]; simp; omega)
   have hb6:=HYb.out 56 (by omega)
   have hb7:=HYb.out 57 (by omega)
   rw [hy6] at hb6
   rw [hy7] at hb7
   have hw6:IntKind.i64.wrap (y6:Int)=(y6:Int):=IntWalk.i64_in _ (by omega)
   have HM:=hid (show fH xs 0=⟨nm,v0,v1,y6,lp,v2,v3,v4,v5⟩ by
    unfold fH
    rw [Hnm.out]
    simp only [Nat.zero_add,hv0,hv1,hv2,hv3,hv4,hv5,hy6,hy7,Hlp.out])
   have HE:=hid (show qY xs 0=(qQ xs 0 && (decide (y7<=1) && MetaV.right ⟨nm,v0,v1,y6,lp,v2,v3,v4,v5⟩)) by
    unfold qY
    rw [HM.out]
    simp only [Nat.zero_add,hy7])
   have X0:=hid (fun (W:World) hW=>(show W.cell? ⟨w1.heap.size,0,none⟩=some (.int .i64 v0) from by rw [HX.out W hW 0 (by omega)]; exact congrArg (fun (q:Nat)=>some (Value.int .i64 (q:Int))) hv0))
   have X1:=hid (fun (W:World) hW=>(show W.cell? ⟨w1.heap.size,1,none⟩=some (.int .i64 v1) from by rw [HX.out W hW 1 (by omega)]; exact congrArg (fun (q:Nat)=>some (Value.int .i64 (q:Int))) hv1))
   have X2:=hid (fun (W:World) hW=>(show W.cell? ⟨w1.heap.size,2,none⟩=some (.int .i64 v2) from by rw [HX.out W hW 2 (by omega)]; exact congrArg (fun (q:Nat)=>some (Value.int .i64 (q:Int))) hv2))
   have X3:=hid (fun (W:World) hW=>(show W.cell? ⟨w1.heap.size,3,none⟩=some (.int .i64 v3) from by rw [HX.out W hW 3 (by omega)]; exact congrArg (fun (q:Nat)=>some (Value.int .i64 (q:Int))) hv3))
   have X4:=hid (fun (W:World) hW=>(show W.cell? ⟨w1.heap.size,4,none⟩=some (.int .i64 v4) from by rw [HX.out W hW 4 (by omega)]; exact congrArg (fun (q:Nat)=>some (Value.int .i64 (q:Int))) hv4))
   have X5:=hid (fun (W:World) hW=>(show W.cell? ⟨w1.heap.size,5,none⟩=some (.int .i64 v5) from by rw [HX.out W hW 5 (by omega)]; exact congrArg (fun (q:Nat)=>some (Value.int .i64 (q:Int))) hv5))
   have X6:=hid (fun (W:World) (hW:Below wr.heap.size wr W)=>(show W.cell? ⟨g,off+56,none⟩=some (.int .u8 y6) from by rw [HXb.out W 56 (aC HWr.out hW) (by omega),hy6]))
   have X7:=hid (fun (W:World) (hW:Below wr.heap.size wr W)=>(show W.cell? ⟨g,off+57,none⟩=some (.int .u8 y7) from by rw [HXb.out W 57 (aC HWr.out hW) (by omega),hy7]))
   have Hwz:=hid (show w.heap.size+2<=wr.heap.size from by have:=Hbk.out.lt; have:=Hz1.out; omega)
   have HR2:=hid (fun (W:World) (hW:Below wr.heap.size wr W)=>(show Blk W w.heap.size 37 [.string ⟨#[]⟩,.int .i64 0,.int .i64 0,.int .i64 0,.bool false,.int .i64 0,.int .i64 0,.int .i64 0,.int .i64 0] from
    (HR1.out.below Hbel.out HR1.out.lt).below hW (by have:=Hwz.out; omega)))
   have Hy7:=hid hy7
   clear hv0 hv1 hv2 hv3 hv4 hv5 hy6 hy7 HX HRd
   go_wp2_with fail
   refine pQ 23 (yG (w.heap.size+2) 22 #[.string ⟨#[]⟩,.int .i64 0,.int .i64 0,.int .i64 0,.bool false,.int .i64 0,.int .i64 0,.int .i64 0,.int .i64 0] 37) (by kernel_rfl) (by kernel_rfl) (tT _ _ _ _) ?_
   refine zI 0 22 1 (by decide) (by intro j hj; unfold yG; rw [if_neg (by omega)]) (fun W hW=>?_)
   simp only [List.take_succ_cons,List.take_zero,List.drop_succ_cons,List.drop_zero]
   have x0:=fun (z:GW W)=>X0.out z.1 (aC hW z.2)
   have x1:=fun (z:GW W)=>X1.out z.1 (aC hW z.2)
   have x2:=fun (z:GW W)=>X2.out z.1 (aC hW z.2)
   have x3:=fun (z:GW W)=>X3.out z.1 (aC hW z.2)
   have x4:=fun (z:GW W)=>X4.out z.1 (aC hW z.2)
   have x5:=fun (z:GW W)=>X5.out z.1 (aC hW z.2)
   have x6:=fun (z:GW W)=>X6.out z.1 (aC hW z.2)
   have x7:=fun (z:GW W)=>X7.out z.1 (aC hW z.2)
   repeat (go_big_quiet_step (fail))
   refine wpQuiet_nil ?_
   clear x0 x1 x2 x3 x4 x5 x6 x7 hW
   refine zH 22 0 _ (w.heap.size+2) _ 37 rfl rfl Hwz.out rfl (fun W=>rfl) (fun v=>?_)
   refine DC (fun W5 hW5 hG=>?_)
   obtain ⟨_,g5,hv,hg5,hz5⟩:=hG
   subst hv
   have HB5:=hid (aC HWr.out hW5)
   have R5:=hid (HR2.out W5 hW5)
   obtain ⟨w8,hw8⟩:∃ w8,W5.setRow g5 #[.string nm,.int .i64 v0,.int .i64 v1,.int .i64 y6,.bool lp,.int .i64 v2,.int .i64 v3,.int .i64 v4,.int .i64 v5]=w8:=⟨_,rfl⟩
   have Hg5:=hid hg5
   have L5:=hid hz5
   have B8:=hid (show Below w.heap.size w w8 by rw [<-hw8]; exact below_setRow HB5.out (by omega) _)
   have L8:=hid (show w8.heap[g5]? = some (.cells #[.string nm,.int .i64 v0,.int .i64 v1,.int .i64 y6,.bool lp,.int .i64 v2,.int .i64 v3,.int .i64 v4,.int .i64 v5] 37 (0,0)) by rw [<-hw8]; exact bB W5 g5 _ _ _ hz5)
   have R8:=hid (show Blk w8 w.heap.size 37 [.string ⟨#[]⟩,.int .i64 0,.int .i64 0,.int .i64 0,.bool false,.int .i64 0,.int .i64 0,.int .i64 0,.int .i64 0] by rw [<-hw8]; exact (setRow_other W5 g5 _ _ (by omega)).trans R5.out)
   have HMf:=hid (show (Tryz.prog.info? 37).map (·.size)=some 9 by kernel_rfl)
   have HO1:=hid (o5 ⟨nm,v0,v1,y6,lp,v2,v3,v4,v5⟩)
   have HT1:=hid (fun (j:Nat) (hj:j < 6) (h:xs.getD (58+j) 0 ≠ 0)=>(show qQ xs 0=false from by
    unfold qQ
    rw [List.all_eq_false]
    exact ⟨xs.getD (58+j) 0,List.mem_map.2 ⟨j,List.mem_range.2 hj,by rw [Nat.zero_add]⟩,by simpa using h⟩))
   have HT0:=hid (fun (h:∀ j,j < 6->xs.getD (58+j) 0=0)=>(show qQ xs 0=true from by
    unfold qQ
    rw [List.all_eq_true]
    intro y hy
    unfold cA at hy
    obtain ⟨j,hj,rfl⟩:=List.mem_map.1 hy
    rw [Nat.zero_add,h j (List.mem_range.1 hj)]
    rfl))
   clear hz5 hg5 hW5 X0 X1 X2 X3 X4 X5 X6 HR2 Hbk Hwz
   simp only [Act.put,List.setIfInBounds_toArray,List.set_cons_zero,List.set_cons_succ]
   go_wp2_with (refine aA rfl 37 (.tmp 7) (.tmp 46) rfl g5 rfl _ _ #[.string nm,.int .i64 v0,.int .i64 v1,.int .i64 y6,.bool lp,.int .i64 v2,.int .i64 v3,.int .i64 v4,.int .i64 v5] rfl L5.out HMf.out rfl HO1.out ?_; rw [hw8])
   clear hw8
   go_loopw [50] (fun v wx=>∃ k:Nat,k<=6/\v=.int .i64 k/\w8=wx/\∀ j,j < k->xs.getD (58+j) 0=0) (fun v _=>6 - (intOf v).toNat)
   case atStart=>exact ⟨0,by omega,rfl,rfl,fun j hj=>by omega⟩
   case round =>
    obtain ⟨k,hk,rfl,rfl,hz⟩:=hrel
    have Hz:=hid hz
    clear hz
    by_cases hlt:k < 6
    ·have t3:(k:Int) < 6:=by omega
     have t4:(0:Int)<=(k:Int):=by omega
     have c3:=HXb.out w8 (58+k) B8.out (by omega)
     rw [<-Nat.add_assoc] at c3
     obtain ⟨y,hy⟩:∃ y,xs.getD (58+k) 0=y:=⟨_,rfl⟩
     rw [hy] at c3
     have Hy:=hid hy
     clear hy
     by_cases h0:y=0
     ·subst h0
      have t5:((((0:Nat):Int)) != 0)=false:=by decide
      go_wp2
      go_roundw
      case rel =>
       refine ⟨k+1,by omega,by go_num,trivial,fun j hj=>?_⟩
       by_cases hjk:j=k
       ·subst hjk; exact Hy.out
       ·exact Hz.out j (by omega)
      case measure=>simp [intOf]; omega
     ·have t5:((y:Int) != 0)=true:=by rw [bne_iff_ne]; omega
      have HTf:=hid (HT1.out k hlt (by rw [Hy.out]; exact h0))
      have r8:=R8.out
      go_wp2_with (first | (refine aB rfl 37 (.tmp 7) rfl g5 rfl _ #[.string nm,.int .i64 v0,.int .i64 v1,.int .i64 y6,.bool lp,.int .i64 v2,.int .i64 v3,.int .i64 v4,.int .i64 v5] _ _ L8.out Tryz.underlying37 rfl HMf.out ?_) | (refine aA rfl 37 (.tmp 2) (.tmp 56) rfl w.heap.size rfl _ _ #[.string nm,.int .i64 v0,.int .i64 v1,.int .i64 y6,.bool lp,.int .i64 v2,.int .i64 v3,.int .i64 v4,.int .i64 v5] rfl R8.out HMf.out rfl HO1.out ?_))
      refine bodyPost_ret (v:=.tuple #[.agg #[.string nm,.int .i64 v0,.int .i64 v1,.int .i64 y6,.bool lp,.int .i64 v2,.int .i64 v3,.int .i64 v4,.int .i64 v5],.bool false]) (aU Tryz.results132 _ _ w.heap.size 37 _ (0,0) _ _ rfl rfl (bB w8 _ _ _ _ R8.out) Tryz.underlying37 rfl HMf.out) rfl ?_
      exact ⟨by rw [HM.out,HE.out,HTf.out]; rfl,below_setRow B8.out (Nat.le_refl _) _⟩
    ·have hk6:k=6:=by omega
     subst hk6
     have t3:¬ (((6:Nat):Int) < 6):=by omega
     have HTt:=hid (HT0.out Hz.out)
     have X7g:=hid (fun (z:GW w8)=>(show z.1.cell? ⟨g,off+57,none⟩=some (.int .u8 y7) from by rw [HXb.out z.1 57 (aC B8.out z.2) (by omega)]; exact congrArg (fun (q:Nat)=>some (Value.int .u8 (q:Int))) Hy7.out))
     clear t1 t3
     have CM:=hid (fun (W:World) (hW:Below w8.heap.size w8 W)=>(show W.cell? ⟨g5,0,none⟩=some (.string nm)/\W.cell? ⟨g5,1,none⟩=some (.int .i64 v0)/\W.cell? ⟨g5,2,none⟩=some (.int .i64 v1)/\W.cell? ⟨g5,3,none⟩=some (.int .i64 y6)/\W.cell? ⟨g5,4,none⟩=some (.bool lp)/\W.cell? ⟨g5,5,none⟩=some (.int .i64 v2)/\W.cell? ⟨g5,6,none⟩=some (.int .i64 v3)/\W.cell? ⟨g5,7,none⟩=some (.int .i64 v4)/\W.cell? ⟨g5,8,none⟩=some (.int .i64 v5) from ⟨aG (show Blk W g5 37 [.string nm,.int .i64 v0,.int .i64 v1,.int .i64 y6,.bool lp,.int .i64 v2,.int .i64 v3,.int .i64 v4,.int .i64 v5] from aF L8.out hW) 0,aG (show Blk W g5 37 [.string nm,.int .i64 v0,.int .i64 v1,.int .i64 y6,.bool lp,.int .i64 v2,.int .i64 v3,.int .i64 v4,.int .i64 v5] from aF L8.out hW) 1,aG (show Blk W g5 37 [.string nm,.int .i64 v0,.int .i64 v1,.int .i64 y6,.bool lp,.int .i64 v2,.int .i64 v3,.int .i64 v4,.int .i64 v5] from aF L8.out hW) 2,aG (show Blk W g5 37 [.string nm,.int .i64 v0,.int .i64 v1,.int .i64 y6,.bool lp,.int .i64 v2,.int .i64 v3,.int .i64 v4,.int .i64 v5] from aF L8.out hW) 3,aG (show Blk W g5 37 [.string nm,.int .i64 v0,.int .i64 v1,.int .i64 y6,.bool lp,.int .i64 v2,.int .i64 v3,.int .i64 v4,.int .i64 v5] from aF L8.out hW) 4,aG (show Blk W g5 37 [.string nm,.int .i64 v0,.int .i64 v1,.int .i64 y6,.bool lp,.int .i64 v2,.int .i64 v3,.int .i64 v4,.int .i64 v5] from aF L8.out hW) 5,aG (show Blk W g5 37 [.string nm,.int .i64 v0,.int .i64 v1,.int .i64 y6,.bool lp,.int .i64 v2,.int .i64 v3,.int .i64 v4,.int .i64 v5] from aF L8.out hW) 6,aG (show Blk W g5 37 [.string nm,.int .i64 v0,.int .i64 v1,.int .i64 y6,.bool lp,.int .i64 v2,.int .i64 v3,.int .i64 v4,.int .i64 v5] from aF L8.out hW) 7,aG (show Blk W g5 37 [.string nm,.int .i64 v0,.int .i64 v1,.int .i64 y6,.bool lp,.int .i64 v2,.int .i64 v3,.int .i64 v4,.int .i64 v5] from aF L8.out hW) 8⟩))
     have CR:=hid (fun (W:World) (hW:Below w8.heap.size w8 W)=>(show W.cell? ⟨w.heap.size,0,none⟩=some (.string ⟨#[]⟩)/\W.cell? ⟨w.heap.size,1,none⟩=some (.int .i64 0)/\W.cell? ⟨w.heap.size,2,none⟩=some (.int .i64 0)/\W.cell? ⟨w.heap.size,3,none⟩=some (.int .i64 0)/\W.cell? ⟨w.heap.size,4,none⟩=some (.bool false)/\W.cell? ⟨w.heap.size,5,none⟩=some (.int .i64 0)/\W.cell? ⟨w.heap.size,6,none⟩=some (.int .i64 0)/\W.cell? ⟨w.heap.size,7,none⟩=some (.int .i64 0)/\W.cell? ⟨w.heap.size,8,none⟩=some (.int .i64 0) from ⟨aG (R8.out.below hW R8.out.lt) 0,aG (R8.out.below hW R8.out.lt) 1,aG (R8.out.below hW R8.out.lt) 2,aG (R8.out.below hW R8.out.lt) 3,aG (R8.out.below hW R8.out.lt) 4,aG (R8.out.below hW R8.out.lt) 5,aG (R8.out.below hW R8.out.lt) 6,aG (R8.out.below hW R8.out.lt) 7,aG (R8.out.below hW R8.out.lt) 8⟩))
     have CF:=hid (fun (W:World) (hW:Below w8.heap.size w8 W)=>lW (R8.out.below hW R8.out.lt))
     have CE:=hid (fun (W:World) (hW:Below w8.heap.size w8 W)=>(show (((((((((W.setCell ⟨w.heap.size,0,none⟩ (.string nm)).setCell ⟨w.heap.size,1,none⟩ (.int .i64 v0)).setCell ⟨w.heap.size,2,none⟩ (.int .i64 v1)).setCell ⟨w.heap.size,3,none⟩ (.int .i64 y6)).setCell ⟨w.heap.size,4,none⟩ (.bool lp)).setCell ⟨w.heap.size,5,none⟩ (.int .i64 v2)).setCell ⟨w.heap.size,6,none⟩ (.int .i64 v3)).setCell ⟨w.heap.size,7,none⟩ (.int .i64 v4)).setCell ⟨w.heap.size,8,none⟩ (.int .i64 v5)).heap[w.heap.size]? = some (.cells #[.string nm,.int .i64 v0,.int .i64 v1,.int .i64 y6,.bool lp,.int .i64 v2,.int .i64 v3,.int .i64 v4,.int .i64 v5] 37 (0,0)) from ((((((((((R8.out.below hW R8.out.lt).set_ 0 (.string nm)).set_ 1 (.int .i64 v0)).set_ 2 (.int .i64 v1)).set_ 3 (.int .i64 y6)).set_ 4 (.bool lp)).set_ 5 (.int .i64 v2)).set_ 6 (.int .i64 v3)).set_ 7 (.int .i64 v4)).set_ 8 (.int .i64 v5))))
     have CB:=hid (fun (W:World) (hW:Below w8.heap.size w8 W)=>(show Below w.heap.size w (((((((((W.setCell ⟨w.heap.size,0,none⟩ (.string nm)).setCell ⟨w.heap.size,1,none⟩ (.int .i64 v0)).setCell ⟨w.heap.size,2,none⟩ (.int .i64 v1)).setCell ⟨w.heap.size,3,none⟩ (.int .i64 y6)).setCell ⟨w.heap.size,4,none⟩ (.bool lp)).setCell ⟨w.heap.size,5,none⟩ (.int .i64 v2)).setCell ⟨w.heap.size,6,none⟩ (.int .i64 v3)).setCell ⟨w.heap.size,7,none⟩ (.int .i64 v4)).setCell ⟨w.heap.size,8,none⟩ (.int .i64 v5)) from ((((((((((aC B8.out hW).setCell (Nat.le_refl _) (.string nm)).setCell (Nat.le_refl _) (.int .i64 v0)).setCell (Nat.le_refl _) (.int .i64 v1)).setCell (Nat.le_refl _) (.int .i64 y6)).setCell (Nat.le_refl _) (.bool lp)).setCell (Nat.le_refl _) (.int .i64 v2)).setCell (Nat.le_refl _) (.int .i64 v3)).setCell (Nat.le_refl _) (.int .i64 v4)).setCell (Nat.le_refl _) (.int .i64 v5))))
     have x7:=X7g.out ⟨w8,Below.refl _ _⟩
     obtain ⟨m0,m1,m2,m3,m4,m5,m6,m7,m8⟩:=CM.out w8 (Below.refl _ _)
     by_cases h57:y7<=1
     ·have t5:(y7:Int)<=1:=by omega
      have HD:=hid (show decide (y7<=1)=true from decide_eq_true h57)
      go_wp2_with fail
      go_region_with ((go_at_call 180; refine (F8 nm v0 v1 y6 lp v2 v3 v4 v5 _).mono ?_; rintro e w9 ⟨rfl,hb9⟩; have E9:=hid (aC (fI w8) hb9); have CN:=CM.out w9 E9.out; have CS:=CR.out w9 E9.out; have CG:=CF.out w9 E9.out))
      all_goals
       go_wp2
       refine bodyPost_ret (v:=.tuple #[.agg #[.string nm,.int .i64 v0,.int .i64 v1,.int .i64 y6,.bool lp,.int .i64 v2,.int .i64 v3,.int .i64 v4,.int .i64 v5],.bool (MetaV.right ⟨nm,v0,v1,y6,lp,v2,v3,v4,v5⟩)]) (aU Tryz.results132 _ _ w.heap.size 37 _ (0,0) _ _ rfl rfl (CE.out _ E9.out) Tryz.underlying37 rfl HMf.out) rfl ?_
       exact ⟨by rw [HM.out,HE.out,HTt.out,HD.out]; rfl,CB.out _ E9.out⟩
     ·have t5:decide ((y7:Int)<=1)=false:=decide_eq_false (by omega)
      have t57:(57:Int) < (n:Int):=by omega
      have HD:=hid (show decide (y7<=1)=false from decide_eq_false h57)
      obtain ⟨r0,r1,r2,r3,r4,r5,r6,r7,r8⟩:=CR.out w8 (Below.refl _ _)
      have rf:=CF.out w8 (Below.refl _ _)
      go_wp2_with fail
      go_region_with ((fail))
      all_goals
       go_wp2
       refine bodyPost_ret (v:=.tuple #[.agg #[.string nm,.int .i64 v0,.int .i64 v1,.int .i64 y6,.bool lp,.int .i64 v2,.int .i64 v3,.int .i64 v4,.int .i64 v5],.bool false]) (aU Tryz.results132 _ _ w.heap.size 37 _ (0,0) _ _ rfl rfl (by rw [YT]; exact CE.out w8 (Below.refl _ _)) Tryz.underlying37 rfl HMf.out) rfl ?_
       exact ⟨by rw [HM.out,HE.out,HTt.out,HD.out]; rfl,(CB.out w8 (Below.refl _ _)).drew⟩
end Go.Proofs.YtnbbfblaipjcmaaGreatDoor
