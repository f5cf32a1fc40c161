/- FitK, FitL, FitI, FitM, FitR. Conditions: as each theorem states. -/
import Derived.Deep.DeepFit
import Derived.Test.YtnbbfblaipjcmaaGreatDoorPv19
set_option maxRecDepth 100000
set_option maxHeartbeats 8000000
namespace Go.Proofs.YtnbbfblaipjcmaaGreatDoor
section
open Go.RowKit
end
section
open Go.RowKit
end
section
open Go.Lib (hid)
open Go.RowKit
theorem aAs (b:List Int):b.all pJ=decide (cB (cW b)<=24):=by
 rw [Bool.eq_iff_iff,List.all_eq_true,decide_eq_true_eq]
 unfold pJ
 constructor
 ·intro h
  have:cW b<=8388607:=EZ (by omega) b fun x hx=>by
   have:=pO (k:=23) (of_decide_eq_true (h x hx))
   omega
  have:=QO b
  exact j8 (k:=23) (by omega) (by omega)
 ·intro h x hx
  have h1:=aB2 b x hx
  have h2:=RZ (aCx (v:=x)) h1
  exact decide_eq_true (by omega)
theorem I3 {b:List Int}:(fG b).Len:=sD rfl rfl
theorem XQ (b:List Int) (w:World) (hb:b.length=16) (hr:BigB b) :
  Calls Tryz.prog 240 #[aT b] w fun e w'=>e=.returned (.agg (aY (fG b) (.slice none 0 0)))/\Below w.heap.size w w':=by
 have HS:=hid (fun W=>CD b dC 1073741824 false W hb hr rfl)
 rw [LZ b hb hr] at HS
 have hbz:(b.map (Value.int .i64)).toArray.size=16:=by simp [hb]
 unfold aT at *
 generalize (b.map (Value.int .i64)).toArray=bv at *
 have HFb:=hid (show (Tryz.prog.info? 48).map (·.size)=some bv.size by rw [hbz]; exact bS)
 have H2:=hid (wF w (.cells bv 48) (.cells bK 50))
 clear hbz hb hr
 go_enter Tryz.func240,Tryz.ntmps240
 go_wp2_with (first | (go_at_call 241; fail) | (refine aB rfl 48 (.tmp 1) rfl w.heap.size rfl _ bv _ _ H2.out.1 Tryz.underlying48 rfl HFb.out ?_))
 refine (HS.out _).mono ?_
 rintro e w1 ⟨A,c,rfl,hlc,hc63,_,hnil,hrow,hb1⟩
 obtain ⟨rfl,rfl⟩:=hnil rfl
 simp only [show (fG b).tones.length=0 from rfl]
 have K2:=hid (aF H2.out.2.1 hb1)
 have KB:=hid (kC H2.out.2.2.2 (Nat.le_refl _) hb1)
 have hz:=Nat.le_trans (Nat.le_of_eq H2.out.2.2.1.symm) hb1.size
 have hfz:=fJ I3 (.slice none 0 0) (f:=fG b)
 have hf1:=lE (fG b) (tv:=.slice none 0 0) rfl
 obtain ⟨fc,hfc⟩:∃ fc,aY (fG b) (.slice none 0 0)=fc:=⟨_,rfl⟩
 simp only [hfc] at hfz hf1 ⊢
 have HFf:=hid (show (Tryz.prog.info? 50).map (·.size)=some fc.size by rw [hfz]; exact bX)
 have Hfz:=hid hfz
 have Hf1:=hid hf1
 have Hfc:=hid hfc
 have HN:=hid (heap_alloc_new w1 (.cells fc 50))
 have K2':=hid (aF K2.out (aL w1 (.cells fc 50)))
 have KB':=hid (kC KB.out (by omega) (aL w1 (.cells fc 50)))
 clear hrow hb1 hfz hf1 hfc H2 hlc hc63
 go_wp2_with (first | (refine aA rfl 50 (.tmp 3) (.tmp 9) rfl w1.heap.size rfl _ _ fc rfl (heap_alloc_new w1 _) HFf.out (by rw [Hfz.out]; rfl) Hf1.out ?_; rw [World.setRow_alloc_new]) | (refine aB rfl 50 (.tmp 3) rfl w1.heap.size rfl _ fc _ _ HN.out Tryz.underlying50 rfl HFf.out ?_) | (refine aA rfl 50 (.tmp 2) (.tmp 11) rfl (w.heap.size+1) rfl _ _ fc rfl K2'.out HFf.out (by rw [Hfz.out]; rfl) Hf1.out ?_))
 refine bodyPost_ret (v:=.agg fc) (results_cell_row Tryz.results240 _ _ (w.heap.size+1) 50 fc (0,0) _ rfl (bB _ _ _ _ fc K2'.out) Tryz.underlying50 rfl HFf.out) rfl ?_
 exact ⟨by rw [<-Hfc.out],aO KB'.out _ (by omega) _⟩
def oH (b g:List Int) (size:Int):Int:=if size < 24\/96 < size then 12 else if (b.all pJ && gY g)=true then 0 else 5
def eR:FrameV:=⟨dC,[],dC,dC,fZ⟩
theorem SB:aY eR (.slice none 0 0)=bK:=rfl
def GR (b g:List Int) (size:Int):FrameV:=if oH b g size=0 then (if 55<=size then fG b else (jQ b g (8*size) true).1) else eR
def mJ (W:World) (f:FrameV) (er:Int) (e:Ending) (w':World):Prop :=
 ∃ A c,e=.returned (.tuple #[.agg (aY f (.slice A f.tones.length c)),.int .i64 er])/\f.tones.length<=c/\c<=9223372036854775807/\(f.tones=[]\/∃ g,A=some ⟨g,0,none⟩/\W.heap.size<=g)/\Row w' w'.heap.size A (aW f.tones)/\Below W.heap.size W w'
theorem QS {b g:List Int} {room:Int} {tones:Bool} (hg:g.length=4):(jQ b g room tones).1.Len:=by
 obtain ⟨s,n,h,hs,_⟩:=sB b g room tones
 rw [h]
 exact sD hg hs.1
theorem SE (b g:List Int) (size:Int) (w:World) (h:size < 24\/96 < size) :
  Calls Tryz.prog 204 #[aT b,aT g,.int .i64 size] w (mJ w eR 12):=by
 unfold aT
 generalize (b.map (Value.int .i64)).toArray=bv at *
 generalize (g.map (Value.int .i64)).toArray=gv at *
 obtain ⟨zc,hzc⟩:∃ zc,bK=zc:=⟨_,rfl⟩
 have HZb:=hid (show Tryz.prog.built 50 []=some zc by rw [<-hzc]; kernel_rfl)
 have HZf:=hid (show (Tryz.prog.info? 50).map (·.size)=some zc.size by rw [<-hzc]; exact bX)
 have HZ1:=hid (show zc.all (·.oneCell')=true by rw [<-hzc,<-SB]; exact lE _ rfl)
 have HZs:=hid (show bK.size=zc.size by rw [hzc])
 have HZc:=hid hzc
 clear hzc
 have H3:=hid (zU w (.cells bv 48) (.cells gv 45) (.cells bK 50))
 by_cases h1:size < 24
 ·have t1:decide (size < 24)=true:=decide_eq_true h1
  clear h
  go_enter Tryz.func204,Tryz.ntmps204
  go_wp2_with (first | (refine cX rfl 50 _ rfl zc (by simpa [Act.eval] using HZb.out) ?_) | (refine aA rfl 50 (.tmp 6) (.tmp 16) rfl (w.heap.size+1+1) rfl _ _ zc rfl H3.out.2.2.1 HZf.out HZs.out HZ1.out ?_))
  refine bodyPost_ret (v:=.tuple #[.agg zc,.int .i64 12]) (aU Tryz.results204 _ _ (w.heap.size+1+1) 50 zc (0,0) _ _ rfl rfl (bB _ _ _ _ zc H3.out.2.2.1) Tryz.underlying50 rfl HZf.out) rfl ?_
  exact ⟨none,0,by rw [<-HZc.out]; rfl,Nat.le_refl _,by omega,.inl rfl,Row.none_ _ _ _,aO H3.out.2.2.2.2 _ (by omega) _⟩
 ·have t1:decide (size < 24)=false:=decide_eq_false h1
  have t2:decide (96 < size)=true:=decide_eq_true (by omega)
  clear h
  go_enter Tryz.func204,Tryz.ntmps204
  go_wp2_with (first | (refine cX rfl 50 _ rfl zc (by simpa [Act.eval] using HZb.out) ?_) | (refine aA rfl 50 (.tmp 6) (.tmp 16) rfl (w.heap.size+1+1) rfl _ _ zc rfl H3.out.2.2.1 HZf.out HZs.out HZ1.out ?_))
  refine bodyPost_ret (v:=.tuple #[.agg zc,.int .i64 12]) (aU Tryz.results204 _ _ (w.heap.size+1+1) 50 zc (0,0) _ _ rfl rfl (bB _ _ _ _ zc H3.out.2.2.1) Tryz.underlying50 rfl HZf.out) rfl ?_
  exact ⟨none,0,by rw [<-HZc.out]; rfl,Nat.le_refl _,by omega,.inl rfl,Row.none_ _ _ _,aO H3.out.2.2.2.2 _ (by omega) _⟩
theorem XT (b g:List Int) (size:Int) (w:World) (hb:b.length=16) (hr:BigB b) (hg:g.length=4) :
  Calls Tryz.prog 204 #[aT b,aT g,.int .i64 size] w (mJ w (GR b g size) (oH b g size)):=by
 by_cases hsz:size < 24\/96 < size
 ·have e1:oH b g size=12:=if_pos hsz
  have e2:GR b g size=eR:=by unfold GR; rw [e1]; rfl
  rw [e1,e2]
  exact SE b g size w hsz
 have t1:decide (size < 24)=false:=decide_eq_false (by omega)
 have t2:decide (96 < size)=false:=decide_eq_false (by omega)
 have HP:=hid (show ∀ W:World,W.heap[w.heap.size]? = some (.cells (b.map (Value.int .i64)).toArray 48 (0,0))->Calls Tryz.prog 238 #[.slice (some ⟨w.heap.size,0,none⟩) 16 16] W fun e w'=>e=.returned (.int .i64 (cW b))/\W=w' from fun W hW=>by
  have:=vO (some ⟨w.heap.size,0,none⟩) 16 b W (by omega) (fun i v hv=>⟨_,0,rfl,hlt hW,by rw [cell_of_row _ _ _ _ _ _ hW,Nat.zero_add]; simpa using hv⟩) (fun x hx=>by
   obtain ⟨k,hk,rfl⟩:=List.mem_iff_getElem.1 hx
   have:=hr k _ (List.getElem?_eq_getElem hk)
   omega)
  rw [hb] at this
  exact this)
 have hpk:0<=cW b/\cW b<=4611686018427387904:=vS hr (fun x hx=>hx)
 have HW:=hid (fun W=>xL (cW b) W (by omega) (by omega))
 have HG:=hid (fun W=>DR g W hg)
 have HX:=hid (fun W=>XQ b W hb hr)
 have HS:=hid (fun W=>CD b g (8*size) true W hb hr hg)
 have hw8:IntKind.i64.wrap (8*size)=8*size:=IntWalk.i64_in _ (by omega)
 have hE:=aAs b
 have HFe:=hid (show oH b g size=if (b.all pJ && gY g)=true then 0 else 5 from if_neg hsz)
 have HFf:=hid (show GR b g size=if oH b g size=0 then (if 55<=size then fG b else (jQ b g (8*size) true).1) else eR from rfl)
 have HLx:=hid (I3 (b:=b))
 have HLs:=hid (QS (b:=b) (room:=8*size) (tones:=true) hg)
 generalize oH b g size=er at *
 generalize GR b g size=F at *
 have HXt:=hid (show (fG b).tones=[] from rfl)
 generalize fG b=X at *
 generalize jQ b g (8*size) true=S at *
 obtain ⟨S,sn⟩:=S
 generalize b.all pJ=SL at *
 generalize gY g=GO at *
 have hbz:(b.map (Value.int .i64)).toArray.size=16:=by simp [hb]
 have hgz:(g.map (Value.int .i64)).toArray.size=4:=by simp [hg]
 unfold aT at *
 generalize (b.map (Value.int .i64)).toArray=bv at *
 generalize (g.map (Value.int .i64)).toArray=gv at *
 have HFb:=hid (show (Tryz.prog.info? 48).map (·.size)=some bv.size by rw [hbz]; exact bS)
 have HFg:=hid (show (Tryz.prog.info? 45).map (·.size)=some gv.size by rw [hgz]; exact bY)
 obtain ⟨zc,hzc⟩:∃ zc,bK=zc:=⟨_,rfl⟩
 have HZb:=hid (show Tryz.prog.built 50 []=some zc by rw [<-hzc]; kernel_rfl)
 have HZf:=hid (show (Tryz.prog.info? 50).map (·.size)=some zc.size by rw [<-hzc]; exact bX)
 have HZ1:=hid (show zc.all (·.oneCell')=true by rw [<-hzc,<-SB]; exact lE _ rfl)
 have HZs:=hid (show bK.size=zc.size by rw [hzc])
 have HZc:=hid hzc
 clear hzc
 have H3:=hid (zU w (.cells bv 48) (.cells gv 45) (.cells bK 50))
 have HPk:=hid (HP.out _ H3.out.1)
 generalize cW b=pk at *
 generalize cB pk=wk at *
 have HE:=hid hE
 clear hbz hgz hb hr hg hE HP hpk
 by_cases hwk:24 < wk
 ·have t3:decide ((24:Int) < (wk:Int))=true:=decide_eq_true (by omega)
  have he:er=5:=by rw [HFe.out,HE.out,decide_eq_false (by omega)]; rfl
  have hF:F=eR:=by rw [HFf.out,he]; rfl
  subst he hF
  clear HFe HFf hwk
  go_enter Tryz.func204,Tryz.ntmps204
  go_wp2_with (first | (go_at_call 238; refine HPk.out.mono ?_; rintro e w1 ⟨rfl,rfl⟩) | (go_at_call 237; refine (HW.out _).mono ?_; rintro e w1 ⟨rfl,rfl⟩) | (refine cX rfl 50 _ rfl zc (by simpa [Act.eval] using HZb.out) ?_) | (refine aA rfl 50 (.tmp 6) (.tmp 26) rfl (w.heap.size+1+1) rfl _ _ zc rfl H3.out.2.2.1 HZf.out HZs.out HZ1.out ?_))
  refine bodyPost_ret (v:=.tuple #[.agg zc,.int .i64 5]) (aU Tryz.results204 _ _ (w.heap.size+1+1) 50 zc (0,0) _ _ rfl rfl (bB _ _ _ _ zc H3.out.2.2.1) Tryz.underlying50 rfl HZf.out) rfl ?_
  exact ⟨none,0,by rw [<-HZc.out]; rfl,Nat.le_refl _,by omega,.inl rfl,Row.none_ _ _ _,aO H3.out.2.2.2.2 _ (by omega) _⟩
 have t3:decide ((24:Int) < (wk:Int))=false:=decide_eq_false (by omega)
 have hSL:SL=true:=by rw [HE.out]; exact decide_eq_true (by omega)
 subst hSL
 cases GO
 ·have he:er=5:=by rw [HFe.out]; rfl
  have hF:F=eR:=by rw [HFf.out,he]; rfl
  subst he hF
  clear HFe HFf hwk
  go_enter Tryz.func204,Tryz.ntmps204
  go_wp2_with (first | (go_at_call 238; refine HPk.out.mono ?_; rintro e w1 ⟨rfl,rfl⟩) | (go_at_call 237; refine (HW.out _).mono ?_; rintro e w1 ⟨rfl,rfl⟩) | (go_at_call 239; fail) | (refine aB rfl 45 (.tmp 4) rfl (w.heap.size+1) rfl _ gv _ _ H3.out.2.1 Tryz.underlying45 rfl HFg.out ?_))
  refine (HG.out _).mono ?_
  rintro e w1 ⟨rfl,hb1⟩
  have K2:=hid (aF H3.out.2.2.1 hb1)
  have KB:=hid (kC H3.out.2.2.2.2 (Nat.le_refl _) hb1)
  clear hb1
  go_wp2_with (first | (refine cX rfl 50 _ rfl zc (by simpa [Act.eval] using HZb.out) ?_) | (refine aA rfl 50 (.tmp 6) (.tmp 26) rfl (w.heap.size+1+1) rfl _ _ zc rfl K2.out HZf.out HZs.out HZ1.out ?_))
  refine bodyPost_ret (v:=.tuple #[.agg zc,.int .i64 5]) (aU Tryz.results204 _ _ (w.heap.size+1+1) 50 zc (0,0) _ _ rfl rfl (bB _ _ _ _ zc K2.out) Tryz.underlying50 rfl HZf.out) rfl ?_
  exact ⟨none,0,by rw [<-HZc.out]; rfl,Nat.le_refl _,by omega,.inl rfl,Row.none_ _ _ _,aO KB.out _ (by omega) _⟩
 have he:er=0:=by rw [HFe.out]; rfl
 subst he
 clear HFe hwk
 have hfz0:=fun tv=>fJ HLx.out tv
 have hfz1:=fun tv=>fJ HLs.out tv
 have Hfz0:=hid hfz0
 have Hfz1:=hid hfz1
 have Hf10:=hid (fun (F:FrameV) A n c=>lE F (tv:=.slice A n c) rfl)
 clear hfz0 hfz1 HLx HLs
 by_cases h55:55<=size
 ·have hF:F=X:=by rw [HFf.out,if_pos rfl,if_pos h55]
  subst hF
  clear HFf
  go_enter Tryz.func204,Tryz.ntmps204
  go_wp2_with (first | (go_at_call 238; refine HPk.out.mono ?_; rintro e w1 ⟨rfl,rfl⟩) | (go_at_call 237; refine (HW.out _).mono ?_; rintro e w1 ⟨rfl,rfl⟩) | (go_at_call 239; fail) | (refine aB rfl 45 (.tmp 4) rfl (w.heap.size+1) rfl _ gv _ _ H3.out.2.1 Tryz.underlying45 rfl HFg.out ?_))
  refine (HG.out _).mono ?_
  rintro e w1 ⟨rfl,hb1⟩
  have K0:=hid (aF H3.out.1 hb1)
  have K2:=hid (aF H3.out.2.2.1 hb1)
  have KB:=hid (kC H3.out.2.2.2.2 (Nat.le_refl _) hb1)
  have hz:=Nat.le_trans (Nat.le_of_eq H3.out.2.2.2.1.symm) hb1.size
  clear hb1
  go_wp2_with (first | (go_at_call 240; fail) | (refine aB rfl 48 (.tmp 3) rfl w.heap.size rfl _ bv _ _ K0.out Tryz.underlying48 rfl HFb.out ?_))
  refine (HX.out _).mono ?_
  rintro e w2 ⟨rfl,hb2⟩
  have L2:=hid (aF K2.out hb2)
  have LB:=hid (kC KB.out (Nat.le_refl _) hb2)
  have Hfz:=hid (Hfz0.out (.slice none 0 0))
  have Hf1:=hid (Hf10.out F none 0 0)
  obtain ⟨fc,hfc⟩:∃ fc,aY F (.slice none 0 0)=fc:=⟨_,rfl⟩
  rw [hfc] at Hfz Hf1 ⊢
  have Hfc:=hid hfc
  have HFf:=hid (show (Tryz.prog.info? 50).map (·.size)=some fc.size by rw [Hfz.out]; exact bX)
  have hz2:=hb2.size
  clear hb2 hfc K0 K2 KB Hfz0 Hfz1 Hf10
  go_wp2_with (refine aA rfl 50 (.tmp 6) (.tmp 30) rfl (w.heap.size+1+1) rfl _ _ fc rfl L2.out HFf.out (by rw [Hfz.out]; rfl) Hf1.out ?_)
  refine bodyPost_ret (v:=.tuple #[.agg fc,.int .i64 0]) (aU Tryz.results204 _ _ (w.heap.size+1+1) 50 fc (0,0) _ _ rfl rfl (bB _ _ _ _ fc L2.out) Tryz.underlying50 rfl HFf.out) rfl ?_
  exact ⟨none,0,by rw [<-Hfc.out,HXt.out]; rfl,by rw [HXt.out]; exact Nat.le_refl _,by omega,.inl HXt.out,by rw [HXt.out]; exact Row.none_ _ _ _,aO LB.out _ (by omega) _⟩
 ·have hF:F=S:=by rw [HFf.out,if_pos rfl,if_neg h55]
  subst hF
  clear HFf
  go_enter Tryz.func204,Tryz.ntmps204
  go_wp2_with (first | (go_at_call 238; refine HPk.out.mono ?_; rintro e w1 ⟨rfl,rfl⟩) | (go_at_call 237; refine (HW.out _).mono ?_; rintro e w1 ⟨rfl,rfl⟩) | (go_at_call 239; fail) | (refine aB rfl 45 (.tmp 4) rfl (w.heap.size+1) rfl _ gv _ _ H3.out.2.1 Tryz.underlying45 rfl HFg.out ?_))
  refine (HG.out _).mono ?_
  rintro e w1 ⟨rfl,hb1⟩
  have K0:=hid (aF H3.out.1 hb1)
  have K1:=hid (aF H3.out.2.1 hb1)
  have K2:=hid (aF H3.out.2.2.1 hb1)
  have KB:=hid (kC H3.out.2.2.2.2 (Nat.le_refl _) hb1)
  have hz:=Nat.le_trans (Nat.le_of_eq H3.out.2.2.2.1.symm) hb1.size
  clear hb1
  go_wp2_with (first | (go_at_call 241; fail) | (refine aB rfl 48 (.tmp 3) rfl w.heap.size rfl _ bv _ _ K0.out Tryz.underlying48 rfl HFb.out ?_) | (refine aB rfl 45 (.tmp 4) rfl (w.heap.size+1) rfl _ gv _ _ K1.out Tryz.underlying45 rfl HFg.out ?_))
  refine (HS.out _).mono ?_
  rintro e w2 ⟨A,c,rfl,hlc,hc63,hfr,_,hrow,hb2⟩
  simp only at hlc hc63 hfr hrow ⊢
  have Hfz:=hid (Hfz1.out (.slice A F.tones.length c))
  have Hf1:=hid (Hf10.out F A F.tones.length c)
  obtain ⟨fc,hfc⟩:∃ fc,aY F (.slice A F.tones.length c)=fc:=⟨_,rfl⟩
  rw [hfc] at Hfz Hf1 ⊢
  have Hfc:=hid hfc
  have HFf:=hid (show (Tryz.prog.info? 50).map (·.size)=some fc.size by rw [Hfz.out]; exact bX)
  have HN:=hid (heap_alloc_new w2 (.cells fc 50))
  have hb3:=aC hb2 (aL w2 (.cells fc 50))
  have L2:=hid (aF K2.out hb3)
  have LB:=hid (kC KB.out (Nat.le_refl _) hb3)
  have Hrow:=hid (hrow.later (aL w2 (.cells fc 50)))
  have Hfr:=hid hfr
  have hz2:=hb2.size
  clear hb2 hb3 hrow hfr hfc K0 K1 K2 KB Hfz0 Hfz1 Hf10
  go_wp2_with (first | (refine aA rfl 50 (.tmp 8) (.tmp 37) rfl w2.heap.size rfl _ _ fc rfl (heap_alloc_new w2 _) HFf.out (by rw [Hfz.out]; rfl) Hf1.out ?_; rw [World.setRow_alloc_new]) | (refine aB rfl 50 (.tmp 8) rfl w2.heap.size rfl _ fc _ _ HN.out Tryz.underlying50 rfl HFf.out ?_) | (refine aA rfl 50 (.tmp 6) (.tmp 39) rfl (w.heap.size+1+1) rfl _ _ fc rfl L2.out HFf.out (by rw [Hfz.out]; rfl) Hf1.out ?_))
  refine bodyPost_ret (v:=.tuple #[.agg fc,.int .i64 0]) (aU Tryz.results204 _ _ (w.heap.size+1+1) 50 fc (0,0) _ _ rfl rfl (bB _ _ _ _ fc L2.out) Tryz.underlying50 rfl HFf.out) rfl ?_
  refine ⟨A,c,by rw [<-Hfc.out],hlc,hc63,?_,lQ Hfr.out (by omega) fc Hrow.out,aO LB.out _ (by omega) _⟩
  rcases Hfr.out with h | ⟨g,h1,h2⟩
  ·exact .inl h
  ·exact .inr ⟨g,h1,by omega⟩
end
section
open Go.RowKit
theorem XA {b:List Int} (hb:b.length=16) (h:b.all pJ=true):Low23 b:=by
 intro k hk
 obtain ⟨x,hx⟩:=aE (k:=k) hb hk
 have h1:=List.all_eq_true.1 h x (List.mem_of_getElem? hx)
 unfold pJ at h1
 have h2:=pO (k:=23) (of_decide_eq_true h1)
 rw [aD hx]
 unfold eA at h2
 repeat' split at h2
 all_goals omega
theorem WM:dC.length=4/\∀ i,i < 4->0<=bgt dC i/\bgt dC i<=3:=⟨rfl,fun i hi=>by
 match i,hi with
 | 0,_ | 1,_ | 2,_ | 3,_=>simp [bgt,dC]⟩
theorem OD {b:List Int} (hb:b.length=16) (h:b.all pJ=true):RightF (fG b) :=
 FM WM (by simp) (fun t ht=>by simp at ht) List.Pairwise.nil ScB.zero (XA hb h)
theorem Low23.bd {b:List Int} (h:Low23 b):BdB 2147483648 b:=fun k hk=>by have:=h k hk; omega
end
section
open Go.RowKit
theorem aCS {g:List Int} (hg:g.length=4) (h:gY g=true):g.length=4/\∀ i,i < 4->0<=bgt g i/\bgt g i<=3:=⟨hg,fun i hi=>by
 obtain ⟨x,hx⟩:=aE (k:=i) hg hi
 have:=List.all_eq_true.1 h x (List.mem_of_getElem? hx)
 unfold inB at this
 rw [aD hx]
 simpa using this⟩
theorem JJ {b:List Int} (hb:b.length=16) (hl:Low23 b) (tones:Bool):(cG b tones).length<=2/\(∀ t ∈ cG b tones,0<=t.idx/\t.idx < 16/\-8388608<=t.val/\t.val < 8388608)/\((cG b tones).Pairwise fun x y=>x.idx < y.idx)/\Low23 (cY b (cG b tones)):=by
 have hbig:BigB b:=fun k x hx=>by
  have hk:k < 16:=by have:=(List.getElem?_eq_some_iff.1 hx).1; omega
  have:=hl k hk
  rw [aD hx] at this
  omega
 cases tones
 ·exact ⟨by simp [cG],fun t ht=>by simp [cG] at ht,by simp [cG],by simpa [cG,cY] using hl⟩
 ·simp only [cG,if_true]
  refine ⟨UG hb hbig,fun t ht=>?_,YZ b,fun i hi=>?_⟩
  ·rw [oQ] at ht
   obtain ⟨k,hk,rfl⟩:=List.mem_map.1 ht
   have h16:=BD b k hk
   have:=hl k h16
   unfold kS
   simp only
   omega
  ·rw [oQ,EO b i _ b hb (DY b) (BD b)]
   have:=hl i hi
   split <;> omega
theorem L7 {b g:List Int} {room:Int} {tones:Bool} (hb:b.length=16) (hs:b.all pJ=true) (hg:g.length=4) (hgo:gY g=true):RightF (jQ b g room tones).1:=by
 obtain ⟨s,n,h,hsc,_⟩:=sB b g room tones
 obtain ⟨h1,h2,h3,h4⟩:=JJ hb (XA hb hs) tones
 rw [h]
 exact FM (aCS hg hgo) h1 h2 h3 hsc h4
theorem QT {b g:List Int} {room:Int} {tones:Bool} (hb:b.length=16) (hs:b.all pJ=true) (hr:192<=room):fT (jQ b g room tones).1<=room:=by
 obtain ⟨s,n,h,hsc,he⟩:=sB b g room tones
 obtain ⟨h1,_,_,h4⟩:=JJ hb (XA hb hs) tones
 rw [h]
 rcases he with he | he
 ·exact he
 ·have:=aAF h1 hsc h4 he
  show fT (dB b g s (cG b tones))<=room
  omega
theorem Y8 {b g:List Int} {size:Int} (hb:b.length=16) (hg:g.length=4) (he:oH b g size=0):RightF (GR b g size)/\fT (GR b g size)<=8*size/\24<=size/\size<=96:=by
 have he2:=he
 unfold oH at he
 split at he
 ·cases he
 ·split at he
  ·rename_i h1 h2
   rw [Bool.and_eq_true] at h2
   unfold GR
   rw [he2,if_pos rfl]
   split
   ·have hR:=OD hb h2.1
    refine ⟨hR,?_,by omega,by omega⟩
    have hw:=fun i hi=>hR.width i hi
    have w0:=hw 0 (by omega)
    have w1:=hw 1 (by omega)
    have w2:=hw 2 (by omega)
    have w3:=hw 3 (by omega)
    have ht:(fG b).tones.length=0:=rfl
    unfold fT
    omega
   ·exact ⟨L7 hb h2.1 hg h2.2,QT hb h2.1 (by omega),by omega,by omega⟩
  ·cases he
end
end Go.Proofs.YtnbbfblaipjcmaaGreatDoor
