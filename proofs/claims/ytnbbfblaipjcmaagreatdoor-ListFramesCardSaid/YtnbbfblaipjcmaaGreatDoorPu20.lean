/- FitE, FitG, FitH, FitJ, FitK, FitL, FitI, FitM, FitR, FrameP. Conditions: as each theorem states. -/
import Derived.Deep.DeepFit
import Derived.Test.YtnbbfblaipjcmaaGreatDoorPu16
import Derived.Test.YtnbbfblaipjcmaaGreatDoorPu01
set_option maxRecDepth 100000
set_option maxHeartbeats 8000000
namespace Go.Proofs.YtnbbfblaipjcmaaGreatDoor
section
open Go.Lib (hid)
open Go.RowKit
theorem results_cell_tmp {P:Program} {fn:Func} {p q:Tmp} {ty:TypeId} (h:fn.results=#[.cell p ty,.tmp q]) (tmps:Array Value) (w:World) (g:Nat) (t:TypeId) (cs:Array Value) (fr:Nat × Nat) (d:TypeDesc) (v:Value)
  (hp:tmps.getD p undef=.pointer (some ⟨g,0,none⟩)) (hq:tmps.getD q undef=v) (hg:w.heap[g]? = some (.cells cs t fr))
  (hu:P.underlying ty=some d) (hd:(match d with | .struct _ | .array _ _=>true | _=>false)=true) (hi:(P.info? ty).map (·.size)=some cs.size) :
  (results fn tmps).run P w=.ok (.tuple #[.agg cs,v]) w:=by
 have hp':tmps[p]?.getD undef=.pointer (some ⟨g,0,none⟩):=by simpa using hp
 have hq':tmps[q]?.getD undef=v:=by simpa using hq
 simp [results,h,hp',hq',asAddr,run_loadVar_row w g t ty cs fr d hg hu hd hi]
theorem full_none {s:List Int} (hs:ScB s) (hsum:sumS s=92) (wd m:List Int):nextTo wd s m 4 < 0:=by
 rcases Int.lt_or_le (nextTo wd s m 4) 0 with h | h
 ·exact h
 ·have h1:=nextTo_ok wd s m 4 h
  have h2:=nextTo_bd wd s m 4
  generalize nextTo wd s m 4=x at *
  obtain ⟨k,rfl⟩:=Int.eq_ofNat_of_zero_le h
  rw [Int.toNat_natCast] at h1
  have h3:k < 4:=by omega
  unfold sumS at hsum
  have a0:=hs.2 0 (by omega)
  have a1:=hs.2 1 (by omega)
  have a2:=hs.2 2 (by omega)
  have a3:=hs.2 3 (by omega)
  match k,h3,h1 with
  | 0,_,h1 | 1,_,h1 | 2,_,h1 | 3,_,h1=>omega
theorem told_len {b g s:List Int} {ts:List ToneV} (hg:g.length=4) (hs:s.length=4):(toldZ b g s ts).Len:=⟨hg,hs,widthsTo_len _ _,stepsZ_len _ _⟩
theorem steps_big {b s:List Int} (hb:b.length=16) (h:BigB b) (hs:ScB s):∀ k,k < 16->-4611686018427387904<=bgt (stepsZ b s) k/\bgt (stepsZ b s) k<=4611686018427387904:=by
 intro k hk
 unfold stepsZ
 rw [if_pos hs.ok,stepsTo_bgt _ _ hk,if_pos hk]
 obtain ⟨x,hx⟩:=list_get hb hk
 rw [bgt_get hx]
 have:=h k x hx
 exact near_bd this.1 this.2 _
theorem told_width {b g s:List Int} {ts:List ToneV} (hb:b.length=16) (ht:TonesOk b ts) (hs:ScB s):∀ (k:Nat) (x:Int),(toldZ b g s ts).width[k]? = some x->0<=x/\x<=1000:=by
 intro k x hx
 have hk:k < 4:=by
  have h1:=(List.getElem?_eq_some_iff.1 hx).1
  rwa [show (toldZ b g s ts).width.length=4 from widthsTo_len _ _] at h1
 have h1:=widths_bgt (stepsZ (outT b ts) s) hk
 rw [bgt_get (show (widthsZ (stepsZ (outT b ts) s))[k]? = some x from hx)] at h1
 have h2:=widthTo_le (stepsZ (outT b ts) s) 64 (fun j hj=>by
  have:=steps_big (by rw [outT_len,hb]) ht.out hs j hj
  exact widthZ_le (k:=63) (by omega) (by omega)) k 16 (by omega)
 omega
theorem mask_mid {b:List Int} (h:BigB b):Mid (maskZ b):=by
 intro k x hx
 have hk:k < 4:=by
  have h1:=(List.getElem?_eq_some_iff.1 hx).1
  rwa [show (maskZ b).length=4 by simp [maskZ]] at h1
 have e:(maskZ b)[k]? = some ((widthZ (peakZ ((b.drop (k*4)).take 4)):Nat):Int):=range_map_get _ hk
 rw [e] at hx
 injection hx with hx
 have:=big_peak h (l:=(b.drop (k*4)).take 4) quarter_mem
 have h2:widthZ (peakZ ((b.drop (k*4)).take 4))<=64:=widthZ_le (k:=63) (by omega) (by omega)
 omega
theorem mask_len (b:List Int):(maskZ b).length=4:=by simp [maskZ]
theorem tones_ok {b:List Int} (hb:b.length=16) (hr:BigB b) (tones:Bool):TonesOk b (tonesFor b tones):=by
 cases tones
 ·exact ⟨by simp [tonesFor],fun m _=>by simp [tonesFor,outT]; exact hr,fun t ht=>by simp [tonesFor] at ht⟩
 ·exact ⟨by have:=findT_len b; simp only [tonesFor,if_true]; omega,fun m _=>by simp only [tonesFor,if_true]; exact out_big hr hb m,fun t ht=>find_big hr hb t (by simpa [tonesFor] using ht)⟩
def SearchPost (W:World) (tones:Bool) (f:FrameV) (n:Nat) (e:Ending) (w':World):Prop :=
 ∃ A c,e=.returned (.tuple #[.agg (frameA f (.slice A f.tones.length c)),.int .i64 n])/\f.tones.length<=c/\c<=9223372036854775807/\(f.tones=[]\/∃ g,A=some ⟨g,0,none⟩/\W.heap.size<=g)/\(tones=false->A=none/\c=0)/\Row w' w'.heap.size A (toneCells f.tones)/\Below W.heap.size W w'
def zeroF:Array Value:=#[.int .i64 0,.int .i64 0,.int .i64 0,.int .i64 0,.slice none 0 0,.int .i64 0,.int .i64 0,.int .i64 0,.int .i64 0,.int .i64 0,.int .i64 0,.int .i64 0,.int .i64 0,.int .i64 0,.int .i64 0,.int .i64 0,.int .i64 0,.int .i64 0,.int .i64 0,.int .i64 0,.int .i64 0,.int .i64 0,.int .i64 0,.int .i64 0,.int .i64 0,.int .i64 0,.int .i64 0,.int .i64 0,.int .i64 0]
theorem told_tones (b g s:List Int) (ts:List ToneV):(toldZ b g s ts).tones=ts:=rfl
theorem row_setRow {ts:List ToneV} {A:Option Addr} {B g:Nat} {w:World} (hf:ts=[]\/∃ g,A=some ⟨g,0,none⟩/\B<=g) (hg:g < B) (cs:Array Value) (h:Row w w.heap.size A (toneCells ts)):Row (w.setRow g cs) (w.setRow g cs).heap.size A (toneCells ts):=by
 rcases hf with rfl | ⟨g',rfl,hB⟩
 ·exact Row.none_ _ _ _
 ·intro i v hv
  obtain ⟨b,off,hA,hb,hc⟩:=h i v hv
  injection hA with hA
  injection hA with e1 e2
  subst e1 e2
  refine ⟨g',0,rfl,by rw [size_setRow]; exact hb,?_⟩
  rw [World.cell?_of_block (w:=w) (setRow_other w g g' cs (by omega))]; exact hc
theorem Search_any (b g:List Int) (room:Int) (tones:Bool) (w:World) (hb:b.length=16) (hr:BigB b) (hg:g.length=4) :
  Calls Tryz.prog 241 #[blockV b,blockV g,.int .i64 room,.bool tones] w (SearchPost w tones (searchZ b g room tones).1 (searchZ b g room tones).2):=by
 have ht:=tones_ok hb hr tones
 obtain ⟨ts,hts⟩:∃ ts,tonesFor b tones=ts:=⟨_,rfl⟩
 have hS:searchZ b g room tones=searchFrom b g room ts (maskZ (outT b ts)) 92 zero4 0:=by unfold searchZ; rw [hts]
 rw [hS]
 rw [hts] at ht
 have HF:=hid (fun W=>toneFind_any b W hb hr)
 have HTS:=hid (show tones=true->findT b=ts by intro h; rw [<-hts,h]; simp [tonesFor])
 have HT0:=hid (show tones=false->ts=[] by intro h; rw [<-hts,h]; simp [tonesFor])
 have hob:(outT b ts).length=16:=by rw [outT_len,hb]
 have HO:=hid (fun A cap W hr=>toneOut_any b ts A cap W hb (by have:=ht.len; omega) hr ht.big ht.each)
 have HM:=hid (fun W=>Mask_any (outT b ts) W hob ht.out)
 have HTo:=hid (fun s A cap W (hs:ScB s) hr=>told_any b g s ts A cap W hb hg hs ht hr)
 have HBi:=hid (fun s A cap W (hs:ScB s)=>Bits_any (toldZ b g s ts) A cap W (told_len hg hs.1) ht.len (told_width hb ht hs))
 have HNx:=hid (fun s tv W (hs:ScB s)=>next_any (toldZ b g s ts) tv (maskZ (outT b ts)) W (told_len hg hs.1) (mask_len _) hs (fun k x hx=>(told_width (g:=g) hb ht hs k x hx).1) (mask_mid ht.out))
 have HLn:=hid (fun (s:List Int) (hs:s.length=4)=>told_len (b:=b) (ts:=ts) hg hs)
 have htl:=ht.len
 have hmv:((maskZ (outT b ts)).map (Value.int .i64)).toArray.size=4:=by simp [mask_len]
 have hm1:=ints_one (maskZ (outT b ts))
 have hbz:(b.map (Value.int .i64)).toArray.size=16:=by simp [hb]
 have hgz:(g.map (Value.int .i64)).toArray.size=4:=by simp [hg]
 simp only [told_tones] at HBi
 generalize maskZ (outT b ts)=mk at *
 unfold blockV at *
 generalize ((outT b ts).map (Value.int .i64)).toArray=ov at *
 generalize (mk.map (Value.int .i64)).toArray=mv at *
 generalize (b.map (Value.int .i64)).toArray=bv at *
 generalize (g.map (Value.int .i64)).toArray=gv at *
 have HFb:=hid (show (Tryz.prog.info? 48).map (·.size)=some bv.size by rw [hbz]; exact inf_block)
 have HFg:=hid (show (Tryz.prog.info? 45).map (·.size)=some gv.size by rw [hgz]; exact inf_four)
 have HFm:=hid (show (Tryz.prog.info? 45).map (·.size)=some mv.size by rw [hmv]; exact inf_four)
 have Hmz:=hid hmv
 have Hm1:=hid hm1
 have H3:=hid (heap3 w (.cells bv 48) (.cells gv 45) (.cells zeroF 50))
 have Htl:=hid htl
 clear hS hts ht hob htl hmv hm1 hbz hgz hb hr hg
 go_enter Tryz.func241,Tryz.ntmps241
 go_upto_if 16 with fail
 go_cut [10] (fun v wx=>∃ A c,v=.slice A ts.length c/\ts.length<=c/\c<=9223372036854775807/\(ts=[]\/∃ g,A=some ⟨g,0,none⟩/\w.heap.size+3<=g)/\(tones=false->A=none/\c=0)/\Row wx wx.heap.size A (toneCells ts)/\wx.heap[w.heap.size]? = some (.cells bv 48 (0,0))/\wx.heap[w.heap.size+1]? = some (.cells gv 45 (0,0))/\wx.heap[w.heap.size+1+1]? = some (.cells zeroF 50 (0,0))/\Below w.heap.size w wx)
 case first =>
  cases tones
  ·have h0:=HT0.out rfl
   subst h0
   go_wp2
   go_meet
   exact ⟨none,0,rfl,by simp,by omega,.inl trivial,fun _=>⟨rfl,rfl⟩,Row.none_ _ _ _,H3.out.1,H3.out.2.1,H3.out.2.2.1,H3.out.2.2.2.2⟩
  ·have h0:=HTS.out rfl
   rw [h0] at HF
   go_wp2_with (first | (go_at_call 261; fail) | (refine wpList_load_row_w rfl 48 (.tmp 4) rfl w.heap.size rfl _ bv _ _ H3.out.1 Tryz.underlying48 rfl HFb.out ?_))
   refine (HF.out _).mono ?_
   rintro e w1 ⟨A,c,rfl,hlc,hc63,hfr,hrow,hb1⟩
   have hfr2:ts=[]\/∃ g,A=some ⟨g,0,none⟩/\w.heap.size+3<=g:=by
    rcases hfr with h | ⟨g,h1,h2⟩
    ·exact .inl h
    ·exact .inr ⟨g,h1,Nat.le_trans (Nat.le_of_eq H3.out.2.2.2.1.symm) h2⟩
   have Hrow:=hid hrow
   have Hb1:=hid hb1
   clear hrow hb1 h0
   go_wp2
   go_meet
   exact ⟨A,c,rfl,hlc,hc63,hfr2,(by intro h; cases h),Hrow.out,hkeep H3.out.1 Hb1.out,hkeep H3.out.2.1 Hb1.out,hkeep H3.out.2.2.1 Hb1.out,btail H3.out.2.2.2.2 (Nat.le_refl _) Hb1.out⟩
 case rest =>
  obtain ⟨A,c,rfl,hlc,hc63,hfr,hnil,hrow,h0,h1,h2,hbel⟩:=hcut
  have HNil:=hid hnil
  clear hnil
  have Hfr:=hid hfr
  clear hfr
  have Hrow:=hid hrow
  have Hbel:=hid hbel
  have G0:=hid h0
  have G1:=hid h1
  have G2:=hid h2
  have hz2:=hlt h2
  clear hrow hbel h0 h1 h2 H3 HF HTS HT0
  go_wp2_with (first | (go_at_call 263; fail) | (refine wpList_load_row_w rfl 48 (.tmp 4) rfl w.heap.size rfl _ bv _ _ G0.out Tryz.underlying48 rfl HFb.out ?_))
  refine (HO.out A c _ Hrow.out).mono ?_
  rintro e w2 ⟨rfl,hb2⟩
  have Hb2:=hid hb2
  clear hb2
  go_wp2_with (go_at_call 262; fail)
  refine (HM.out _).mono ?_
  rintro e w3 ⟨rfl,hb3⟩
  have Hb3:=hid (bnext Hb2.out hb3)
  clear hb3 Hb2
  go_wp2_with (refine wpList_store_row_w rfl 45 (.tmp 11) (.tmp 22) rfl w3.heap.size rfl _ _ mv rfl (heap_alloc_new w3 _) HFm.out (by rw [Hmz.out]; rfl) Hm1.out ?_; rw [World.setRow_alloc_new])
  have H2:=hid (heap2 w3 (.cells mv 45) (.cells (zero4.map (Value.int .i64)).toArray 242))
  have hz3:=Nat.le_trans hz2 Hb3.out.size
  have K0:=hid (hkeep G0.out Hb3.out)
  have K1:=hid (hkeep G1.out Hb3.out)
  have K2:=hid (hkeep G2.out Hb3.out)
  have Krow:=hid (Hrow.out.later Hb3.out)
  have KB:=hid (btail Hbel.out (by omega) Hb3.out)
  clear G0 G1 G2 Hrow Hbel
  go_loopw [13] (fun v wr=>∃ (s:List Int) (n fuel:Nat),ScB s/\sumS s=n/\fuel+n=92/\searchFrom b g room ts mk fuel s n=searchFrom b g room ts mk 92 zero4 0/\v=.int .i64 n /\
   wr.heap[w3.heap.size]? = some (.cells mv 45 (0,0))/\Blk wr (w3.heap.size+1) 242 (s.map (Value.int .i64))/\Below w3.heap.size w3 wr) (fun v _=>93 - (intOf v).toNat)
  case atStart=>exact ⟨zero4,0,92,ScB.zero,rfl,rfl,rfl,rfl,H2.out.1,H2.out.2.1,H2.out.2.2.2⟩
  case round =>
   obtain ⟨s,n,fuel,hs,hsum,hfuel,hsr,rfl,hm,hsc,hbr⟩:=hrel
   have Hsr:=hid hsr
   have Hs:=hid hs
   have Hsum:=hid hsum
   have R0:=hid (hkeep K0.out hbr)
   have R1:=hid (hkeep K1.out hbr)
   have R2:=hid (hkeep K2.out hbr)
   have Rm:=hid hm
   have Rs:=hid hsc
   have Rb:=hid hbr
   have hn92:n<=92:=by omega
   have hzr:=hlt hm
   have hzs:=hsc.lt
   have hscz:(s.map (Value.int .i64)).toArray.size=4:=by simp [hs.1]
   have Rs2:=hid (show wr.heap[w3.heap.size+1]? = some (.cells (s.map (Value.int .i64)).toArray 242 (0,0)) from hsc)
   have HTd:=hid (HTo.out s A c wr hs (Krow.out.later hbr))
   have HBt:=hid (fun W=>HBi.out s A c W hs)
   have HNt:=hid (fun W=>HNx.out s (.slice A ts.length c) W hs)
   have hFl:=HLn.out s hs.1
   have hfz:=frameA_size hFl (.slice A ts.length c)
   have hf1:=frameA_one (toldZ b g s ts) (tv:=.slice A ts.length c) rfl
   rw [show (FrameV.cells (toldZ b g s ts) (.slice A ts.length c)).toArray=frameA (toldZ b g s ts) (.slice A ts.length c) from rfl] at HTd
   have HFc:=hid (show (Tryz.prog.info? 242).map (·.size)=some (s.map (Value.int .i64)).toArray.size by rw [hscz]; exact inf_scales)
   obtain ⟨sv,hsv⟩:∃ sv,(s.map (Value.int .i64)).toArray=sv:=⟨_,rfl⟩
   rw [hsv] at Rs2 HTd HFc
   obtain ⟨fc,hfc⟩:∃ fc,frameA (toldZ b g s ts) (.slice A ts.length c)=fc:=⟨_,rfl⟩
   rw [hfc] at HTd HBt HNt hfz hf1
   have HFf:=hid (show (Tryz.prog.info? 50).map (·.size)=some fc.size by rw [hfz]; exact inf_frame)
   have Hfz:=hid hfz
   have Hf1:=hid hf1
   have Hfc:=hid hfc
   obtain ⟨Z,hZ⟩:∃ Z,bitsZ (toldZ b g s ts)=Z:=⟨_,rfl⟩
   obtain ⟨X,hX⟩:∃ X,nextTo (toldZ b g s ts).width s mk 4=X:=⟨_,rfl⟩
   rw [hZ] at HBt
   rw [show (toldZ b g s ts).scale=s from rfl,hX] at HNt
   have hXb:=nextTo_bd (toldZ b g s ts).width s mk 4
   have hXo:=nextTo_ok (toldZ b g s ts).width s mk 4
   rw [hX] at hXb hXo
   have hend:(Z<=room\/X < 0)->searchFrom b g room ts mk fuel s n=(toldZ b g s ts,n):=by
    intro h
    cases fuel with
    | zero=>rfl
    | succ fuel =>
     unfold searchFrom
     simp only
     rw [if_pos (by rw [hZ,hX]; exact h)]
   have hgo:¬ (Z<=room\/X < 0)->∃ m,fuel=m+1/\searchFrom b g room ts mk fuel s n=searchFrom b g room ts mk m (s.set X.toNat (bgt s X.toNat+1)) (n+1):=by
    intro h
    cases fuel with
    | zero =>
     have:=full_none hs (by omega) (toldZ b g s ts).width mk
     rw [hX] at this
     exact absurd (Or.inr this) h
    | succ fuel =>
     refine ⟨fuel,rfl,?_⟩
     conv=>lhs; unfold searchFrom
     simp only
     rw [if_neg (by rw [hZ,hX]; exact h),hX]
   rw [hsr] at hend hgo
   have Hend:=hid hend
   have Hgo:=hid hgo
   clear hs hsum hsr hm hsc hbr hscz hfz hf1 hsv hfc hFl hZ hX hend hgo
   go_wp2_with (first | (go_at_call 264; fail) | (refine wpList_load_row_w rfl 48 (.tmp 4) rfl w.heap.size rfl _ bv _ _ R0.out Tryz.underlying48 rfl HFb.out ?_) | (refine wpList_load_row_w rfl 45 (.tmp 5) rfl (w.heap.size+1) rfl _ gv _ _ R1.out Tryz.underlying45 rfl HFg.out ?_) | (refine wpList_load_row_w rfl 242 (.tmp 12) rfl (w3.heap.size+1) rfl _ sv _ _ Rs2.out Tryz.underlying242 rfl HFc.out ?_))
   refine HTd.out.mono ?_
   rintro e w4 ⟨rfl,hb4⟩
   have Hb4:=hid hb4
   clear hb4
   go_wp2_with (first | (go_at_call 265; fail) | (refine wpList_store_row_w rfl 50 (.tmp 14) (.tmp 29) rfl w4.heap.size rfl _ _ fc rfl (heap_alloc_new w4 _) HFf.out (by rw [Hfz.out]; rfl) Hf1.out ?_; rw [World.setRow_alloc_new]) | (refine wpList_load_row_w rfl 50 (.tmp 14) rfl w4.heap.size rfl _ fc _ _ (heap_alloc_new w4 _) Tryz.underlying50 rfl HFf.out ?_))
   refine (HBt.out _).mono ?_
   rintro e w6 ⟨rfl,hb6⟩
   have hb46:=bnext (bnew w4 (.cells fc 50)) hb6
   have Hb6:=hid (bnext Hb4.out hb46)
   have HFr:=hid (hkeep (heap_alloc_new w4 (.cells fc 50)) hb6)
   have Q2:=hid (hkeep R2.out Hb6.out)
   have Qm:=hid (hkeep Rm.out Hb6.out)
   have Qs:=hid (Rs.out.below Hb6.out hzs)
   have Qb:=hid (btail Rb.out (Nat.le_refl _) Hb6.out)
   have Qrow:=hid (Krow.out.later Qb.out)
   have hz4:=Hb4.out.size
   have hz6:=hb46.size
   clear hb6 hb46 R0 R1 R2 Rm Rs Rb Rs2 Hb6
   by_cases hbits:Z<=room
   ·have he:=Hend.out (.inl hbits)
    have He:=hid he
    clear he hXo
    go_wp2_with (first | (refine wpList_load_row_w rfl 50 (.tmp 14) rfl w4.heap.size rfl _ fc _ _ HFr.out Tryz.underlying50 rfl HFf.out ?_) | (refine wpList_store_row_w rfl 50 (.tmp 8) (.tmp 34) rfl (w.heap.size+1+1) rfl _ _ fc rfl Q2.out HFf.out (by rw [Hfz.out]; rfl) Hf1.out ?_))
    refine bodyPost_ret (v:=.tuple #[.agg fc,.int .i64 n]) (results_cell_tmp Tryz.results241 _ _ (w.heap.size+1+1) 50 fc (0,0) _ _ rfl rfl (setRow_at w6 _ _ _ fc Q2.out) Tryz.underlying50 rfl HFf.out) rfl ?_
    rw [He.out]
    refine ⟨A,c,by rw [<-Hfc.out]; rfl,hlc,hc63,?_,HNil.out,row_setRow Hfr.out (by omega) fc Qrow.out,setRow_below (btail KB.out (by omega) Qb.out) _ (by omega) _⟩
    rcases Hfr.out with h | ⟨g,h1,h2⟩
    ·exact .inl h
    ·exact .inr ⟨g,h1,by omega⟩
   ·go_wp2_with (first | (go_at_call 266; fail) | (refine wpList_load_row_w rfl 50 (.tmp 14) rfl w4.heap.size rfl _ fc _ _ HFr.out Tryz.underlying50 rfl HFf.out ?_) | (refine wpList_load_row_w rfl 45 (.tmp 11) rfl w3.heap.size rfl _ mv _ _ Qm.out Tryz.underlying45 rfl HFm.out ?_))
    refine (HNt.out _).mono ?_
    rintro e w7 ⟨rfl,hb7⟩
    have HFr7:=hid (hkeep HFr.out hb7)
    have Q27:=hid (hkeep Q2.out hb7)
    have Qm7:=hid (hkeep Qm.out hb7)
    have Qs7:=hid (Qs.out.below hb7 Qs.out.lt)
    have Qb7:=hid (btail Qb.out (Nat.le_refl _) hb7)
    have Qrow7:=hid (Krow.out.later Qb7.out)
    have hz7:=hb7.size
    clear hb7 HFr Q2 Qm Qs Qb Qrow
    by_cases hX:X < 0
    ·have He:=hid (Hend.out (.inr hX))
     clear hXo
     go_wp2_with (first | (refine wpList_load_row_w rfl 50 (.tmp 14) rfl w4.heap.size rfl _ fc _ _ HFr7.out Tryz.underlying50 rfl HFf.out ?_) | (refine wpList_store_row_w rfl 50 (.tmp 8) (.tmp 41) rfl (w.heap.size+1+1) rfl _ _ fc rfl Q27.out HFf.out (by rw [Hfz.out]; rfl) Hf1.out ?_))
     refine bodyPost_ret (v:=.tuple #[.agg fc,.int .i64 n]) (results_cell_tmp Tryz.results241 _ _ (w.heap.size+1+1) 50 fc (0,0) _ _ rfl rfl (setRow_at w7 _ _ _ fc Q27.out) Tryz.underlying50 rfl HFf.out) rfl ?_
     rw [He.out]
     refine ⟨A,c,by rw [<-Hfc.out]; rfl,hlc,hc63,?_,HNil.out,row_setRow Hfr.out (by omega) fc Qrow7.out,setRow_below (btail KB.out (by omega) Qb7.out) _ (by omega) _⟩
     rcases Hfr.out with h | ⟨g,h1,h2⟩
     ·exact .inl h
     ·exact .inr ⟨g,h1,by omega⟩
    ·obtain ⟨k,hk⟩:=Int.eq_ofNat_of_zero_le (show 0<=X by omega)
     subst hk
     have hk4:k < 4:=by omega
     obtain ⟨m,hm1,hm2⟩:=Hgo.out (by omega)
     have ho:=hXo (by omega)
     rw [Int.toNat_natCast] at hm2 ho
     have hs:=Hs.out
     obtain ⟨S,hS⟩:=list_get (k:=k) hs.1 hk4
     rw [bgt_get hS] at ho hm2
     have hsb:=hs.2 k hk4
     rw [bgt_get hS] at hsb
     have hss:=sumS_set hs hk4 (S+1)
     rw [bgt_get hS] at hss
     have hsi:=hs.inc hk4 (by rw [bgt_get hS]; exact ho.2)
     rw [bgt_get hS] at hsi
     have Hsi:=hid hsi
     have Hss:=hid hss
     have Hm2:=hid hm2
     have hk4i:(k:Int) < 4:=by omega
     have ce:w7.cell? ⟨w3.heap.size+1,k,none⟩=some (.int .i64 S):=by rw [Qs7.out.cell,List.getElem?_map,hS]; rfl
     have fz:=Qs7.out.frozen k
     have hwr:IntKind.i64.wrap (S+1)=S+1:=IntWalk.i64_in _ (by omega)
     clear hXo ho hs hss hsi hm2 hS
     go_wp2
     go_roundw
     case rel =>
      refine ⟨s.set k (S+1),n+1,m,Hsi.out,by have:=Hss.out; have:=Hsum.out; omega,by omega,Hm2.out.symm,by go_num,(Below.heap_setCell w7 _ _ _ (by simp)).trans Qm7.out,?_,Qb7.out.setCell (by simp) _⟩
      rw [List.map_set]
      exact Qs7.out.set_ k _
     case measure=>simp [intOf]; omega
end
section
theorem RightF.qbd {f:FrameV} (h:RightF f) {k:Nat} (hk:k < 16):-8388608<=bgt f.q k/\bgt f.q k < 8388608:=by
 have h1:=h.q k hk
 have h2:=h.width (k / 4) (by omega)
 exact widthZ_bd (k:=23) (by omega)
def exactZ (b:List Int):FrameV:=toldZ b zero4 zero4 []
theorem bits_low (b:List Int) (hb:b.length=16) (hr:BigB b):bitsZ (exactZ b)<=1073741824:=by
 have ht:TonesOk b []:=tones_ok hb hr false
 have hw:=told_width (g:=zero4) hb ht ScB.zero
 have hl:(exactZ b).width.length=4:=widthsTo_len _ _
 have h:∀ k,k < 4->bgt (exactZ b).width k<=1000:=by
  intro k hk
  obtain ⟨x,hx⟩:=list_get hl hk
  rw [bgt_get hx]
  exact (hw k x hx).2
 have:=h 0 (by omega)
 have:=h 1 (by omega)
 have:=h 2 (by omega)
 have:=h 3 (by omega)
 unfold bitsZ
 have e:(exactZ b).tones.length=0:=rfl
 rw [e]
 omega
theorem search_exact (b:List Int) (hb:b.length=16) (hr:BigB b):searchZ b zero4 1073741824 false=(exactZ b,0):=by
 have h:=bits_low b hb hr
 show searchFrom b zero4 1073741824 [] (maskZ (outT b [])) (91+1) zero4 0=_
 unfold searchFrom
 simp only
 rw [if_pos (.inl h)]
 rfl
end
section
open Go.RowKit
def slimI (x:Int):Bool:=decide (widthZ (absZ x)<=24)
end
section
open Go.RowKit
theorem frame_parts {w:World} {g:Nat} {f:FrameV} {tv:Value} (h:f.Len) (hg:w.heap[g]? = some (.cells (frameA f tv) 50 (0,0))) :
  (∀ j v,(f.gains.map (Value.int .i64))[j]? = some v->w.cell? ⟨g,0+j,none⟩=some v)/\w.cell? ⟨g,4,none⟩=some tv/\(∀ j v,(f.scale.map (Value.int .i64))[j]? = some v->w.cell? ⟨g,5+j,none⟩=some v) /\
  (∀ j v,(f.width.map (Value.int .i64))[j]? = some v->w.cell? ⟨g,9+j,none⟩=some v)/\∀ j v,(f.q.map (Value.int .i64))[j]? = some v->w.cell? ⟨g,13+j,none⟩=some v:=by
 have hc:∀ j,w.cell? ⟨g,j,none⟩=(frameA f tv)[j]?:=fun j=>cell_of_row w g j _ _ _ hg
 exact ⟨fun j v hv=>(hc _).trans (frameA_gain h tv hv),(hc 4).trans (frameA_tones h tv),fun j v hv=>(hc _).trans (frameA_scale h tv hv),fun j v hv=>(hc _).trans (frameA_width h tv hv),fun j v hv=>(hc _).trans (frameA_q h tv hv)⟩
theorem RightF.len {f:FrameV} (h:RightF f):f.Len:=⟨h.gains.1,h.scale.1,h.wlen,h.qlen⟩
end
section
open Go.RowKit
end
section
open Go.RowKit
end
section
open Go.Lib (hid)
open Go.RowKit
theorem slim_peak (b:List Int):b.all slimI=decide (widthZ (peakZ b)<=24):=by
 rw [Bool.eq_iff_iff,List.all_eq_true,decide_eq_true_eq]
 unfold slimI
 constructor
 ·intro h
  have:peakZ b<=8388607:=peakZ_le (by omega) b fun x hx=>by
   have:=widthZ_bd (k:=23) (of_decide_eq_true (h x hx))
   omega
  have:=peakZ_nn b
  exact widthZ_le (k:=23) (by omega) (by omega)
 ·intro h x hx
  have h1:=peakZ_ge b x hx
  have h2:=widthZ_mono (absZ_nn (v:=x)) h1
  exact decide_eq_true (by omega)
theorem exact_len {b:List Int}:(exactZ b).Len:=told_len rfl rfl
theorem Exact_any (b:List Int) (w:World) (hb:b.length=16) (hr:BigB b) :
  Calls Tryz.prog 240 #[blockV b] w fun e w'=>e=.returned (.agg (frameA (exactZ b) (.slice none 0 0)))/\Below w.heap.size w w':=by
 have HS:=hid (fun W=>Search_any b zero4 1073741824 false W hb hr rfl)
 rw [search_exact b hb hr] at HS
 have hbz:(b.map (Value.int .i64)).toArray.size=16:=by simp [hb]
 unfold blockV at *
 generalize (b.map (Value.int .i64)).toArray=bv at *
 have HFb:=hid (show (Tryz.prog.info? 48).map (·.size)=some bv.size by rw [hbz]; exact inf_block)
 have H2:=hid (heap2 w (.cells bv 48) (.cells zeroF 50))
 clear hbz hb hr
 go_enter Tryz.func240,Tryz.ntmps240
 go_wp2_with (first | (go_at_call 241; fail) | (refine wpList_load_row_w rfl 48 (.tmp 1) rfl w.heap.size rfl _ bv _ _ H2.out.1 Tryz.underlying48 rfl HFb.out ?_))
 refine (HS.out _).mono ?_
 rintro e w1 ⟨A,c,rfl,hlc,hc63,_,hnil,hrow,hb1⟩
 obtain ⟨rfl,rfl⟩:=hnil rfl
 simp only [show (exactZ b).tones.length=0 from rfl]
 have K2:=hid (hkeep H2.out.2.1 hb1)
 have KB:=hid (btail H2.out.2.2.2 (Nat.le_refl _) hb1)
 have hz:=Nat.le_trans (Nat.le_of_eq H2.out.2.2.1.symm) hb1.size
 have hfz:=frameA_size exact_len (.slice none 0 0) (f:=exactZ b)
 have hf1:=frameA_one (exactZ b) (tv:=.slice none 0 0) rfl
 obtain ⟨fc,hfc⟩:∃ fc,frameA (exactZ b) (.slice none 0 0)=fc:=⟨_,rfl⟩
 simp only [hfc] at hfz hf1 ⊢
 have HFf:=hid (show (Tryz.prog.info? 50).map (·.size)=some fc.size by rw [hfz]; exact inf_frame)
 have Hfz:=hid hfz
 have Hf1:=hid hf1
 have Hfc:=hid hfc
 have HN:=hid (heap_alloc_new w1 (.cells fc 50))
 have K2':=hid (hkeep K2.out (bnew w1 (.cells fc 50)))
 have KB':=hid (btail KB.out (by omega) (bnew w1 (.cells fc 50)))
 clear hrow hb1 hfz hf1 hfc H2 hlc hc63
 go_wp2_with (first | (refine wpList_store_row_w rfl 50 (.tmp 3) (.tmp 9) rfl w1.heap.size rfl _ _ fc rfl (heap_alloc_new w1 _) HFf.out (by rw [Hfz.out]; rfl) Hf1.out ?_; rw [World.setRow_alloc_new]) | (refine wpList_load_row_w rfl 50 (.tmp 3) rfl w1.heap.size rfl _ fc _ _ HN.out Tryz.underlying50 rfl HFf.out ?_) | (refine wpList_store_row_w rfl 50 (.tmp 2) (.tmp 11) rfl (w.heap.size+1) rfl _ _ fc rfl K2'.out HFf.out (by rw [Hfz.out]; rfl) Hf1.out ?_))
 refine bodyPost_ret (v:=.agg fc) (results_cell_row Tryz.results240 _ _ (w.heap.size+1) 50 fc (0,0) _ rfl (setRow_at _ _ _ _ fc K2'.out) Tryz.underlying50 rfl HFf.out) rfl ?_
 exact ⟨by rw [<-Hfc.out],setRow_below KB'.out _ (by omega) _⟩
def fitErr (b g:List Int) (size:Int):Int:=if size < 24\/96 < size then 12 else if (b.all slimI && gainOk g)=true then 0 else 5
def zeroFr:FrameV:=⟨zero4,[],zero4,zero4,zero16⟩
theorem zeroFr_A:frameA zeroFr (.slice none 0 0)=zeroF:=rfl
def fitF (b g:List Int) (size:Int):FrameV:=if fitErr b g size=0 then (if 55<=size then exactZ b else (searchZ b g (8*size) true).1) else zeroFr
def FitPost (W:World) (f:FrameV) (er:Int) (e:Ending) (w':World):Prop :=
 ∃ A c,e=.returned (.tuple #[.agg (frameA f (.slice A f.tones.length c)),.int .i64 er])/\f.tones.length<=c/\c<=9223372036854775807/\(f.tones=[]\/∃ g,A=some ⟨g,0,none⟩/\W.heap.size<=g)/\Row w' w'.heap.size A (toneCells f.tones)/\Below W.heap.size W w'
theorem searchZ_len {b g:List Int} {room:Int} {tones:Bool} (hg:g.length=4):(searchZ b g room tones).1.Len:=by
 obtain ⟨s,n,h,hs,_⟩:=search_ends b g room tones
 rw [h]
 exact told_len hg hs.1
theorem Frame_size (b g:List Int) (size:Int) (w:World) (h:size < 24\/96 < size) :
  Calls Tryz.prog 204 #[blockV b,blockV g,.int .i64 size] w (FitPost w zeroFr 12):=by
 unfold blockV
 generalize (b.map (Value.int .i64)).toArray=bv at *
 generalize (g.map (Value.int .i64)).toArray=gv at *
 obtain ⟨zc,hzc⟩:∃ zc,zeroF=zc:=⟨_,rfl⟩
 have HZb:=hid (show Tryz.prog.built 50 []=some zc by rw [<-hzc]; kernel_rfl)
 have HZf:=hid (show (Tryz.prog.info? 50).map (·.size)=some zc.size by rw [<-hzc]; exact inf_frame)
 have HZ1:=hid (show zc.all (·.oneCell')=true by rw [<-hzc,<-zeroFr_A]; exact frameA_one _ rfl)
 have HZs:=hid (show zeroF.size=zc.size by rw [hzc])
 have HZc:=hid hzc
 clear hzc
 have H3:=hid (heap3 w (.cells bv 48) (.cells gv 45) (.cells zeroF 50))
 by_cases h1:size < 24
 ·have t1:decide (size < 24)=true:=decide_eq_true h1
  clear h
  go_enter Tryz.func204,Tryz.ntmps204
  go_wp2_with (first | (refine wpList_built rfl 50 _ rfl zc (by simpa [Act.eval] using HZb.out) ?_) | (refine wpList_store_row_w rfl 50 (.tmp 6) (.tmp 16) rfl (w.heap.size+1+1) rfl _ _ zc rfl H3.out.2.2.1 HZf.out HZs.out HZ1.out ?_))
  refine bodyPost_ret (v:=.tuple #[.agg zc,.int .i64 12]) (results_cell_tmp Tryz.results204 _ _ (w.heap.size+1+1) 50 zc (0,0) _ _ rfl rfl (setRow_at _ _ _ _ zc H3.out.2.2.1) Tryz.underlying50 rfl HZf.out) rfl ?_
  exact ⟨none,0,by rw [<-HZc.out]; rfl,Nat.le_refl _,by omega,.inl rfl,Row.none_ _ _ _,setRow_below H3.out.2.2.2.2 _ (by omega) _⟩
 ·have t1:decide (size < 24)=false:=decide_eq_false h1
  have t2:decide (96 < size)=true:=decide_eq_true (by omega)
  clear h
  go_enter Tryz.func204,Tryz.ntmps204
  go_wp2_with (first | (refine wpList_built rfl 50 _ rfl zc (by simpa [Act.eval] using HZb.out) ?_) | (refine wpList_store_row_w rfl 50 (.tmp 6) (.tmp 16) rfl (w.heap.size+1+1) rfl _ _ zc rfl H3.out.2.2.1 HZf.out HZs.out HZ1.out ?_))
  refine bodyPost_ret (v:=.tuple #[.agg zc,.int .i64 12]) (results_cell_tmp Tryz.results204 _ _ (w.heap.size+1+1) 50 zc (0,0) _ _ rfl rfl (setRow_at _ _ _ _ zc H3.out.2.2.1) Tryz.underlying50 rfl HZf.out) rfl ?_
  exact ⟨none,0,by rw [<-HZc.out]; rfl,Nat.le_refl _,by omega,.inl rfl,Row.none_ _ _ _,setRow_below H3.out.2.2.2.2 _ (by omega) _⟩
theorem Frame_any (b g:List Int) (size:Int) (w:World) (hb:b.length=16) (hr:BigB b) (hg:g.length=4) :
  Calls Tryz.prog 204 #[blockV b,blockV g,.int .i64 size] w (FitPost w (fitF b g size) (fitErr b g size)):=by
 by_cases hsz:size < 24\/96 < size
 ·have e1:fitErr b g size=12:=if_pos hsz
  have e2:fitF b g size=zeroFr:=by unfold fitF; rw [e1]; rfl
  rw [e1,e2]
  exact Frame_size b g size w hsz
 have t1:decide (size < 24)=false:=decide_eq_false (by omega)
 have t2:decide (96 < size)=false:=decide_eq_false (by omega)
 have HP:=hid (show ∀ W:World,W.heap[w.heap.size]? = some (.cells (b.map (Value.int .i64)).toArray 48 (0,0))->Calls Tryz.prog 238 #[.slice (some ⟨w.heap.size,0,none⟩) 16 16] W fun e w'=>e=.returned (.int .i64 (peakZ b))/\W=w' from fun W hW=>by
  have:=Peak_any (some ⟨w.heap.size,0,none⟩) 16 b W (by omega) (fun i v hv=>⟨_,0,rfl,hlt hW,by rw [cell_of_row _ _ _ _ _ _ hW,Nat.zero_add]; simpa using hv⟩) (fun x hx=>by
   obtain ⟨k,hk,rfl⟩:=List.mem_iff_getElem.1 hx
   have:=hr k _ (List.getElem?_eq_getElem hk)
   omega)
  rw [hb] at this
  exact this)
 have hpk:0<=peakZ b/\peakZ b<=4611686018427387904:=big_peak hr (fun x hx=>hx)
 have HW:=hid (fun W=>Width_any (peakZ b) W (by omega) (by omega))
 have HG:=hid (fun W=>gainsRight_any g W hg)
 have HX:=hid (fun W=>Exact_any b W hb hr)
 have HS:=hid (fun W=>Search_any b g (8*size) true W hb hr hg)
 have hw8:IntKind.i64.wrap (8*size)=8*size:=IntWalk.i64_in _ (by omega)
 have hE:=slim_peak b
 have HFe:=hid (show fitErr b g size=if (b.all slimI && gainOk g)=true then 0 else 5 from if_neg hsz)
 have HFf:=hid (show fitF b g size=if fitErr b g size=0 then (if 55<=size then exactZ b else (searchZ b g (8*size) true).1) else zeroFr from rfl)
 have HLx:=hid (exact_len (b:=b))
 have HLs:=hid (searchZ_len (b:=b) (room:=8*size) (tones:=true) hg)
 generalize fitErr b g size=er at *
 generalize fitF b g size=F at *
 have HXt:=hid (show (exactZ b).tones=[] from rfl)
 generalize exactZ b=X at *
 generalize searchZ b g (8*size) true=S at *
 obtain ⟨S,sn⟩:=S
 generalize b.all slimI=SL at *
 generalize gainOk g=GO at *
 have hbz:(b.map (Value.int .i64)).toArray.size=16:=by simp [hb]
 have hgz:(g.map (Value.int .i64)).toArray.size=4:=by simp [hg]
 unfold blockV at *
 generalize (b.map (Value.int .i64)).toArray=bv at *
 generalize (g.map (Value.int .i64)).toArray=gv at *
 have HFb:=hid (show (Tryz.prog.info? 48).map (·.size)=some bv.size by rw [hbz]; exact inf_block)
 have HFg:=hid (show (Tryz.prog.info? 45).map (·.size)=some gv.size by rw [hgz]; exact inf_four)
 obtain ⟨zc,hzc⟩:∃ zc,zeroF=zc:=⟨_,rfl⟩
 have HZb:=hid (show Tryz.prog.built 50 []=some zc by rw [<-hzc]; kernel_rfl)
 have HZf:=hid (show (Tryz.prog.info? 50).map (·.size)=some zc.size by rw [<-hzc]; exact inf_frame)
 have HZ1:=hid (show zc.all (·.oneCell')=true by rw [<-hzc,<-zeroFr_A]; exact frameA_one _ rfl)
 have HZs:=hid (show zeroF.size=zc.size by rw [hzc])
 have HZc:=hid hzc
 clear hzc
 have H3:=hid (heap3 w (.cells bv 48) (.cells gv 45) (.cells zeroF 50))
 have HPk:=hid (HP.out _ H3.out.1)
 generalize peakZ b=pk at *
 generalize widthZ pk=wk at *
 have HE:=hid hE
 clear hbz hgz hb hr hg hE HP hpk
 by_cases hwk:24 < wk
 ·have t3:decide ((24:Int) < (wk:Int))=true:=decide_eq_true (by omega)
  have he:er=5:=by rw [HFe.out,HE.out,decide_eq_false (by omega)]; rfl
  have hF:F=zeroFr:=by rw [HFf.out,he]; rfl
  subst he hF
  clear HFe HFf hwk
  go_enter Tryz.func204,Tryz.ntmps204
  go_wp2_with (first | (go_at_call 238; refine HPk.out.mono ?_; rintro e w1 ⟨rfl,rfl⟩) | (go_at_call 237; refine (HW.out _).mono ?_; rintro e w1 ⟨rfl,rfl⟩) | (refine wpList_built rfl 50 _ rfl zc (by simpa [Act.eval] using HZb.out) ?_) | (refine wpList_store_row_w rfl 50 (.tmp 6) (.tmp 26) rfl (w.heap.size+1+1) rfl _ _ zc rfl H3.out.2.2.1 HZf.out HZs.out HZ1.out ?_))
  refine bodyPost_ret (v:=.tuple #[.agg zc,.int .i64 5]) (results_cell_tmp Tryz.results204 _ _ (w.heap.size+1+1) 50 zc (0,0) _ _ rfl rfl (setRow_at _ _ _ _ zc H3.out.2.2.1) Tryz.underlying50 rfl HZf.out) rfl ?_
  exact ⟨none,0,by rw [<-HZc.out]; rfl,Nat.le_refl _,by omega,.inl rfl,Row.none_ _ _ _,setRow_below H3.out.2.2.2.2 _ (by omega) _⟩
 have t3:decide ((24:Int) < (wk:Int))=false:=decide_eq_false (by omega)
 have hSL:SL=true:=by rw [HE.out]; exact decide_eq_true (by omega)
 subst hSL
 cases GO
 ·have he:er=5:=by rw [HFe.out]; rfl
  have hF:F=zeroFr:=by rw [HFf.out,he]; rfl
  subst he hF
  clear HFe HFf hwk
  go_enter Tryz.func204,Tryz.ntmps204
  go_wp2_with (first | (go_at_call 238; refine HPk.out.mono ?_; rintro e w1 ⟨rfl,rfl⟩) | (go_at_call 237; refine (HW.out _).mono ?_; rintro e w1 ⟨rfl,rfl⟩) | (go_at_call 239; fail) | (refine wpList_load_row_w rfl 45 (.tmp 4) rfl (w.heap.size+1) rfl _ gv _ _ H3.out.2.1 Tryz.underlying45 rfl HFg.out ?_))
  refine (HG.out _).mono ?_
  rintro e w1 ⟨rfl,hb1⟩
  have K2:=hid (hkeep H3.out.2.2.1 hb1)
  have KB:=hid (btail H3.out.2.2.2.2 (Nat.le_refl _) hb1)
  clear hb1
  go_wp2_with (first | (refine wpList_built rfl 50 _ rfl zc (by simpa [Act.eval] using HZb.out) ?_) | (refine wpList_store_row_w rfl 50 (.tmp 6) (.tmp 26) rfl (w.heap.size+1+1) rfl _ _ zc rfl K2.out HZf.out HZs.out HZ1.out ?_))
  refine bodyPost_ret (v:=.tuple #[.agg zc,.int .i64 5]) (results_cell_tmp Tryz.results204 _ _ (w.heap.size+1+1) 50 zc (0,0) _ _ rfl rfl (setRow_at _ _ _ _ zc K2.out) Tryz.underlying50 rfl HZf.out) rfl ?_
  exact ⟨none,0,by rw [<-HZc.out]; rfl,Nat.le_refl _,by omega,.inl rfl,Row.none_ _ _ _,setRow_below KB.out _ (by omega) _⟩
 have he:er=0:=by rw [HFe.out]; rfl
 subst he
 clear HFe hwk
 have hfz0:=fun tv=>frameA_size HLx.out tv
 have hfz1:=fun tv=>frameA_size HLs.out tv
 have Hfz0:=hid hfz0
 have Hfz1:=hid hfz1
 have Hf10:=hid (fun (F:FrameV) A n c=>frameA_one F (tv:=.slice A n c) rfl)
 clear hfz0 hfz1 HLx HLs
 by_cases h55:55<=size
 ·have hF:F=X:=by rw [HFf.out,if_pos rfl,if_pos h55]
  subst hF
  clear HFf
  go_enter Tryz.func204,Tryz.ntmps204
  go_wp2_with (first | (go_at_call 238; refine HPk.out.mono ?_; rintro e w1 ⟨rfl,rfl⟩) | (go_at_call 237; refine (HW.out _).mono ?_; rintro e w1 ⟨rfl,rfl⟩) | (go_at_call 239; fail) | (refine wpList_load_row_w rfl 45 (.tmp 4) rfl (w.heap.size+1) rfl _ gv _ _ H3.out.2.1 Tryz.underlying45 rfl HFg.out ?_))
  refine (HG.out _).mono ?_
  rintro e w1 ⟨rfl,hb1⟩
  have K0:=hid (hkeep H3.out.1 hb1)
  have K2:=hid (hkeep H3.out.2.2.1 hb1)
  have KB:=hid (btail H3.out.2.2.2.2 (Nat.le_refl _) hb1)
  have hz:=Nat.le_trans (Nat.le_of_eq H3.out.2.2.2.1.symm) hb1.size
  clear hb1
  go_wp2_with (first | (go_at_call 240; fail) | (refine wpList_load_row_w rfl 48 (.tmp 3) rfl w.heap.size rfl _ bv _ _ K0.out Tryz.underlying48 rfl HFb.out ?_))
  refine (HX.out _).mono ?_
  rintro e w2 ⟨rfl,hb2⟩
  have L2:=hid (hkeep K2.out hb2)
  have LB:=hid (btail KB.out (Nat.le_refl _) hb2)
  have Hfz:=hid (Hfz0.out (.slice none 0 0))
  have Hf1:=hid (Hf10.out F none 0 0)
  obtain ⟨fc,hfc⟩:∃ fc,frameA F (.slice none 0 0)=fc:=⟨_,rfl⟩
  rw [hfc] at Hfz Hf1 ⊢
  have Hfc:=hid hfc
  have HFf:=hid (show (Tryz.prog.info? 50).map (·.size)=some fc.size by rw [Hfz.out]; exact inf_frame)
  have hz2:=hb2.size
  clear hb2 hfc K0 K2 KB Hfz0 Hfz1 Hf10
  go_wp2_with (refine wpList_store_row_w rfl 50 (.tmp 6) (.tmp 30) rfl (w.heap.size+1+1) rfl _ _ fc rfl L2.out HFf.out (by rw [Hfz.out]; rfl) Hf1.out ?_)
  refine bodyPost_ret (v:=.tuple #[.agg fc,.int .i64 0]) (results_cell_tmp Tryz.results204 _ _ (w.heap.size+1+1) 50 fc (0,0) _ _ rfl rfl (setRow_at _ _ _ _ fc L2.out) Tryz.underlying50 rfl HFf.out) rfl ?_
  exact ⟨none,0,by rw [<-Hfc.out,HXt.out]; rfl,by rw [HXt.out]; exact Nat.le_refl _,by omega,.inl HXt.out,by rw [HXt.out]; exact Row.none_ _ _ _,setRow_below LB.out _ (by omega) _⟩
 ·have hF:F=S:=by rw [HFf.out,if_pos rfl,if_neg h55]
  subst hF
  clear HFf
  go_enter Tryz.func204,Tryz.ntmps204
  go_wp2_with (first | (go_at_call 238; refine HPk.out.mono ?_; rintro e w1 ⟨rfl,rfl⟩) | (go_at_call 237; refine (HW.out _).mono ?_; rintro e w1 ⟨rfl,rfl⟩) | (go_at_call 239; fail) | (refine wpList_load_row_w rfl 45 (.tmp 4) rfl (w.heap.size+1) rfl _ gv _ _ H3.out.2.1 Tryz.underlying45 rfl HFg.out ?_))
  refine (HG.out _).mono ?_
  rintro e w1 ⟨rfl,hb1⟩
  have K0:=hid (hkeep H3.out.1 hb1)
  have K1:=hid (hkeep H3.out.2.1 hb1)
  have K2:=hid (hkeep H3.out.2.2.1 hb1)
  have KB:=hid (btail H3.out.2.2.2.2 (Nat.le_refl _) hb1)
  have hz:=Nat.le_trans (Nat.le_of_eq H3.out.2.2.2.1.symm) hb1.size
  clear hb1
  go_wp2_with (first | (go_at_call 241; fail) | (refine wpList_load_row_w rfl 48 (.tmp 3) rfl w.heap.size rfl _ bv _ _ K0.out Tryz.underlying48 rfl HFb.out ?_) | (refine wpList_load_row_w rfl 45 (.tmp 4) rfl (w.heap.size+1) rfl _ gv _ _ K1.out Tryz.underlying45 rfl HFg.out ?_))
  refine (HS.out _).mono ?_
  rintro e w2 ⟨A,c,rfl,hlc,hc63,hfr,_,hrow,hb2⟩
  simp only at hlc hc63 hfr hrow ⊢
  have Hfz:=hid (Hfz1.out (.slice A F.tones.length c))
  have Hf1:=hid (Hf10.out F A F.tones.length c)
  obtain ⟨fc,hfc⟩:∃ fc,frameA F (.slice A F.tones.length c)=fc:=⟨_,rfl⟩
  rw [hfc] at Hfz Hf1 ⊢
  have Hfc:=hid hfc
  have HFf:=hid (show (Tryz.prog.info? 50).map (·.size)=some fc.size by rw [Hfz.out]; exact inf_frame)
  have HN:=hid (heap_alloc_new w2 (.cells fc 50))
  have hb3:=bnext hb2 (bnew w2 (.cells fc 50))
  have L2:=hid (hkeep K2.out hb3)
  have LB:=hid (btail KB.out (Nat.le_refl _) hb3)
  have Hrow:=hid (hrow.later (bnew w2 (.cells fc 50)))
  have Hfr:=hid hfr
  have hz2:=hb2.size
  clear hb2 hb3 hrow hfr hfc K0 K1 K2 KB Hfz0 Hfz1 Hf10
  go_wp2_with (first | (refine wpList_store_row_w rfl 50 (.tmp 8) (.tmp 37) rfl w2.heap.size rfl _ _ fc rfl (heap_alloc_new w2 _) HFf.out (by rw [Hfz.out]; rfl) Hf1.out ?_; rw [World.setRow_alloc_new]) | (refine wpList_load_row_w rfl 50 (.tmp 8) rfl w2.heap.size rfl _ fc _ _ HN.out Tryz.underlying50 rfl HFf.out ?_) | (refine wpList_store_row_w rfl 50 (.tmp 6) (.tmp 39) rfl (w.heap.size+1+1) rfl _ _ fc rfl L2.out HFf.out (by rw [Hfz.out]; rfl) Hf1.out ?_))
  refine bodyPost_ret (v:=.tuple #[.agg fc,.int .i64 0]) (results_cell_tmp Tryz.results204 _ _ (w.heap.size+1+1) 50 fc (0,0) _ _ rfl rfl (setRow_at _ _ _ _ fc L2.out) Tryz.underlying50 rfl HFf.out) rfl ?_
  refine ⟨A,c,by rw [<-Hfc.out],hlc,hc63,?_,row_setRow Hfr.out (by omega) fc Hrow.out,setRow_below LB.out _ (by omega) _⟩
  rcases Hfr.out with h | ⟨g,h1,h2⟩
  ·exact .inl h
  ·exact .inr ⟨g,h1,by omega⟩
end
section
open Go.RowKit
theorem low23 {b:List Int} (hb:b.length=16) (h:b.all slimI=true):Low23 b:=by
 intro k hk
 obtain ⟨x,hx⟩:=list_get (k:=k) hb hk
 have h1:=List.all_eq_true.1 h x (List.mem_of_getElem? hx)
 unfold slimI at h1
 have h2:=widthZ_bd (k:=23) (of_decide_eq_true h1)
 rw [bgt_get hx]
 unfold absZ at h2
 repeat' split at h2
 all_goals omega
theorem zero4_gain:zero4.length=4/\∀ i,i < 4->0<=bgt zero4 i/\bgt zero4 i<=3:=⟨rfl,fun i hi=>by
 match i,hi with
 | 0,_ | 1,_ | 2,_ | 3,_=>simp [bgt,zero4]⟩
theorem exact_right {b:List Int} (hb:b.length=16) (h:b.all slimI=true):RightF (exactZ b) :=
 told_right zero4_gain (by simp) (fun t ht=>by simp at ht) List.Pairwise.nil ScB.zero (low23 hb h)
end
section
open Go.RowKit
theorem gain_of {g:List Int} (hg:g.length=4) (h:gainOk g=true):g.length=4/\∀ i,i < 4->0<=bgt g i/\bgt g i<=3:=⟨hg,fun i hi=>by
 obtain ⟨x,hx⟩:=list_get (k:=i) hg hi
 have:=List.all_eq_true.1 h x (List.mem_of_getElem? hx)
 unfold inB at this
 rw [bgt_get hx]
 simpa using this⟩
theorem low_tones {b:List Int} (hb:b.length=16) (hl:Low23 b) (tones:Bool):(tonesFor b tones).length<=2/\(∀ t ∈ tonesFor b tones,0<=t.idx/\t.idx < 16/\-8388608<=t.val/\t.val < 8388608)/\((tonesFor b tones).Pairwise fun x y=>x.idx < y.idx)/\Low23 (outT b (tonesFor b tones)):=by
 have hbig:BigB b:=fun k x hx=>by
  have hk:k < 16:=by have:=(List.getElem?_eq_some_iff.1 hx).1; omega
  have:=hl k hk
  rw [bgt_get hx] at this
  omega
 cases tones
 ·exact ⟨by simp [tonesFor],fun t ht=>by simp [tonesFor] at ht,by simp [tonesFor],by simpa [tonesFor,outT] using hl⟩
 ·simp only [tonesFor,if_true]
  refine ⟨findT_len2 hb hbig,fun t ht=>?_,findT_inc b,fun i hi=>?_⟩
  ·rw [find_idxs] at ht
   obtain ⟨k,hk,rfl⟩:=List.mem_map.1 ht
   have h16:=idxs_lt b k hk
   have:=hl k h16
   unfold toneAt
   simp only
   omega
  ·rw [find_idxs,outT_get b i _ b hb (idxs_nodup b) (idxs_lt b)]
   have:=hl i hi
   split <;> omega
theorem search_right {b g:List Int} {room:Int} {tones:Bool} (hb:b.length=16) (hs:b.all slimI=true) (hg:g.length=4) (hgo:gainOk g=true):RightF (searchZ b g room tones).1:=by
 obtain ⟨s,n,h,hsc,_⟩:=search_ends b g room tones
 obtain ⟨h1,h2,h3,h4⟩:=low_tones hb (low23 hb hs) tones
 rw [h]
 exact told_right (gain_of hg hgo) h1 h2 h3 hsc h4
theorem search_room {b g:List Int} {room:Int} {tones:Bool} (hb:b.length=16) (hs:b.all slimI=true) (hr:192<=room):bitsZ (searchZ b g room tones).1<=room:=by
 obtain ⟨s,n,h,hsc,he⟩:=search_ends b g room tones
 obtain ⟨h1,_,_,h4⟩:=low_tones hb (low23 hb hs) tones
 rw [h]
 rcases he with he | he
 ·exact he
 ·have:=told_room h1 hsc h4 he
  show bitsZ (toldZ b g s (tonesFor b tones))<=room
  omega
theorem fit_right {b g:List Int} {size:Int} (hb:b.length=16) (hg:g.length=4) (he:fitErr b g size=0):RightF (fitF b g size)/\bitsZ (fitF b g size)<=8*size/\24<=size/\size<=96:=by
 have he2:=he
 unfold fitErr at he
 split at he
 ·cases he
 ·split at he
  ·rename_i h1 h2
   rw [Bool.and_eq_true] at h2
   unfold fitF
   rw [he2,if_pos rfl]
   split
   ·have hR:=exact_right hb h2.1
    refine ⟨hR,?_,by omega,by omega⟩
    have hw:=fun i hi=>hR.width i hi
    have w0:=hw 0 (by omega)
    have w1:=hw 1 (by omega)
    have w2:=hw 2 (by omega)
    have w3:=hw 3 (by omega)
    have ht:(exactZ b).tones.length=0:=rfl
    unfold bitsZ
    omega
   ·exact ⟨search_right hb h2.1 hg h2.2,search_room hb h2.1 (by omega),by omega,by omega⟩
  ·cases he
end
section
def twos (v:Int) (k:Nat):Nat:=(v % 2 ^ k).toNat
theorem twos_lt (v:Int) (k:Nat):twos v k < 2 ^ k:=by
 unfold twos
 have hp:(0:Int) < 2 ^ k:=Int.pow_pos (by decide)
 have h1:=Int.emod_nonneg v (b:=2 ^ k) (by omega)
 have h2:=Int.emod_lt_of_pos v hp
 have e:((2 ^ k:Nat):Int)=2 ^ k:=by rw [Int.natCast_pow]; rfl
 omega
def gainsB (l:List Int):List Nat:=(l.map fun g=>bitsOf g.toNat 2).flatten
def toneB (t:ToneV):List Nat:=bitsOf t.idx.toNat 4 ++ bitsOf (twos t.val 24) 24
def tonesB (l:List ToneV):List Nat:=(l.map toneB).flatten
def bandB (s w:List Int) (i:Nat):List Nat:=bitsOf (bgt s i).toNat 5 ++ bitsOf (bgt w i).toNat 5
def bandsB (s w:List Int) (m:Nat):List Nat:=((List.range m).map (bandB s w)).flatten
def stepB (w q:List Int) (i:Nat):List Nat:=bitsOf (twos (bgt q i) (bgt w (i / 4)).toNat) (bgt w (i / 4)).toNat
def stepsB (w q:List Int) (m:Nat):List Nat:=((List.range m).map (stepB w q)).flatten
def head1:List Nat:=bitsOf 1 2
def head2 (f:FrameV):List Nat:=head1 ++ gainsB f.gains
def head3 (f:FrameV):List Nat:=head2 f ++ bitsOf f.tones.length 2
def head4 (f:FrameV):List Nat:=head3 f ++ tonesB f.tones
def head5 (f:FrameV):List Nat:=head4 f ++ bandsB f.scale f.width 4
def frameB (f:FrameV):List Nat:=head5 f ++ stepsB f.width f.q 16
theorem gainsB_succ {l:List Int} {m:Nat} {x:Int} (h:l[m]? = some x):gainsB (l.take (m+1))=gainsB (l.take m) ++ bitsOf x.toNat 2:=by
 obtain ⟨hm,rfl⟩:=List.getElem?_eq_some_iff.1 h
 unfold gainsB
 rw [List.take_succ_eq_append_getElem hm,List.map_append,List.flatten_append]
 simp only [List.map_cons,List.map_nil,List.flatten_cons,List.flatten_nil,List.append_nil]
theorem tonesB_succ {l:List ToneV} {m:Nat} {t:ToneV} (h:l[m]? = some t):tonesB (l.take (m+1))=tonesB (l.take m) ++ toneB t:=by
 obtain ⟨hm,rfl⟩:=List.getElem?_eq_some_iff.1 h
 unfold tonesB
 rw [List.take_succ_eq_append_getElem hm,List.map_append,List.flatten_append]
 simp only [List.map_cons,List.map_nil,List.flatten_cons,List.flatten_nil,List.append_nil]
theorem bandsB_succ (s w:List Int) (m:Nat):bandsB s w (m+1)=bandsB s w m ++ bandB s w m:=by unfold bandsB; rw [List.range_succ]; simp
theorem stepsB_succ (w q:List Int) (m:Nat):stepsB w q (m+1)=stepsB w q m ++ stepB w q m:=by unfold stepsB; rw [List.range_succ]; simp
theorem gainsB_len:∀ (l:List Int),(gainsB l).length=2*l.length
 | []=>rfl
 | x :: r=>by
  have:=gainsB_len r
  unfold gainsB at this ⊢
  rw [List.map_cons,List.flatten_cons,List.length_append,this,bitsOf_len,List.length_cons]; omega
theorem tonesB_len:∀ (l:List ToneV),(tonesB l).length=28*l.length
 | []=>rfl
 | x :: r=>by
  have:=tonesB_len r
  unfold tonesB at this ⊢
  rw [List.map_cons,List.flatten_cons,List.length_append,this]
  unfold toneB
  rw [List.length_append,bitsOf_len,bitsOf_len,List.length_cons]; omega
theorem bandsB_len (s w:List Int):∀ m,(bandsB s w m).length=10*m
 | 0=>rfl
 | m+1=>by
  rw [bandsB_succ,List.length_append,bandsB_len s w m]
  unfold bandB
  rw [List.length_append,bitsOf_len,bitsOf_len]; omega
def widthSum (w:List Int):Nat->Nat
 | 0=>0
 | m+1=>widthSum w m+(bgt w (m / 4)).toNat
theorem stepsB_len (w q:List Int):∀ m,(stepsB w q m).length=widthSum w m
 | 0=>rfl
 | m+1=>by
  rw [stepsB_succ,List.length_append,stepsB_len w q m]
  unfold stepB
  rw [bitsOf_len]; rfl
theorem widthSum_succ (w:List Int) (m:Nat):widthSum w (m+1)=widthSum w m+(bgt w (m / 4)).toNat:=rfl
theorem widthSum_16 (w:List Int):widthSum w 16=4*((bgt w 0).toNat+(bgt w 1).toNat+(bgt w 2).toNat+(bgt w 3).toNat):=by
 simp [widthSum]
 omega
theorem widthSum_mono (w:List Int):∀ r m,widthSum w m<=widthSum w (m+r)
 | 0,_=>Nat.le_refl _
 | r+1,m=>by
  have:=widthSum_mono w r m
  rw [<-Nat.add_assoc,widthSum_succ]
  omega
theorem head2_len {f:FrameV} (h:RightF f):(head2 f).length=10:=by
 unfold head2 head1
 rw [List.length_append,gainsB_len,bitsOf_len,h.gains.1]
theorem head3_len {f:FrameV} (h:RightF f):(head3 f).length=12:=by
 unfold head3
 rw [List.length_append,head2_len h,bitsOf_len]
theorem head4_len {f:FrameV} (h:RightF f):(head4 f).length=12+28*f.tones.length:=by
 unfold head4
 rw [List.length_append,head3_len h,tonesB_len]
theorem head5_len {f:FrameV} (h:RightF f):(head5 f).length=52+28*f.tones.length:=by
 unfold head5
 rw [List.length_append,head4_len h,bandsB_len]; omega
theorem frameB_len {f:FrameV} (h:RightF f):((frameB f).length:Int)=bitsZ f:=by
 unfold frameB
 rw [List.length_append,head5_len h,stepsB_len,widthSum_16]
 have:=h.width 0 (by omega)
 have:=h.width 1 (by omega)
 have:=h.width 2 (by omega)
 have:=h.width 3 (by omega)
 unfold bitsZ
 omega
theorem frameB_most {f:FrameV} (h:RightF f):bitsZ f<=492:=by
 have:=h.width 0 (by omega)
 have:=h.width 1 (by omega)
 have:=h.width 2 (by omega)
 have:=h.width 3 (by omega)
 have:=h.tlen
 unfold bitsZ
 omega
theorem Bin.flatten {l:List (List Nat)} (h:∀ x ∈ l,Bin x):Bin l.flatten:=fun b hb=>by
 obtain ⟨x,hx,hbx⟩:=List.mem_flatten.1 hb
 exact h x hx b hbx
theorem frameB_bin (f:FrameV):Bin (frameB f):=by
 unfold frameB head5 head4 head3 head2 head1
 refine ((((((bitsOf_bin _ _).append ?_).append (bitsOf_bin _ _)).append ?_).append ?_).append ?_)
 ·exact Bin.flatten fun x hx=>by obtain ⟨g,_,rfl⟩:=List.mem_map.1 hx; exact bitsOf_bin _ _
 ·exact Bin.flatten fun x hx=>by obtain ⟨g,_,rfl⟩:=List.mem_map.1 hx; exact (bitsOf_bin _ _).append (bitsOf_bin _ _)
 ·exact Bin.flatten fun x hx=>by obtain ⟨g,_,rfl⟩:=List.mem_map.1 hx; exact (bitsOf_bin _ _).append (bitsOf_bin _ _)
 ·exact Bin.flatten fun x hx=>by obtain ⟨g,_,rfl⟩:=List.mem_map.1 hx; exact bitsOf_bin _ _
theorem twos_nn {v:Int} {k:Nat} (h1:0<=v) (h2:v < 2 ^ k):(twos v k:Int)=v:=by
 unfold twos
 rw [Int.emod_eq_of_lt h1 h2]; omega
theorem twos_neg {v:Int} {k:Nat} (h1:-(2 ^ k)<=v) (h2:v < 0):(twos v k:Int)=v+2 ^ k:=by
 unfold twos
 have:v % 2 ^ k=v+2 ^ k:=by
  rw [<-Int.add_emod_right]
  exact Int.emod_eq_of_lt (by omega) (by omega)
 rw [this]; omega
end
end Go.Proofs.YtnbbfblaipjcmaaGreatDoor
