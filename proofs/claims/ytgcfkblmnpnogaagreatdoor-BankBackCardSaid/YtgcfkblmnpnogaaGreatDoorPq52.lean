/- ParS, BackP, BackA, BackB, BackC, LawBack. Conditions: as each theorem states. -/
import Derived.Deep.RegionWith
import Derived.Test.YtgcfkblmnpnogaaGreatDoorPq04
import Derived.Test.YtgcfkblmnpnogaaGreatDoorPq31
import Derived.Test.YtgcfkblmnpnogaaGreatDoorPq40
import Derived.Test.YtgcfkblmnpnogaaGreatDoorPq25
import Derived.Test.YtgcfkblmnpnogaaGreatDoorPq50
import Derived.Test.YtgcfkblmnpnogaaGreatDoorPq51
set_option maxRecDepth 100000
set_option maxHeartbeats 16000000
namespace Go.Proofs.YtgcfkblmnpnogaaGreatDoor
section
open Go.RowKit Go.Lib
noncomputable def openE (D:List MetaV) (bs:List Nat) (i c b:Int) (B:List Nat):Int :=
 if whereE D i c b ≠ 0 then whereE D i c b else if crcZ B ≠ (whereSum D bs i c b:Nat) then 9 else if rdErr B ≠ 0 then 4 else 0
noncomputable def openF (D:List MetaV) (bs:List Nat) (i c b:Int) (B:List Nat):FrameV:=if openE D bs i c b B=0 then rdF B else zeroFr
theorem rdF_len' (B:List Nat):(rdF B).Len:=by
 unfold rdF
 split
 ·rename_i h
  have:RightF (frameR B):=by
   unfold rdErr at h
   split at h
   ·rename_i h1; exact absurd h h1
   ·split at h
    ·assumption
    ·cases h
  exact this.len
 ·exact ⟨rfl,rfl,rfl,rfl⟩
theorem post_zero (w W:World) (er:Int) (hb:Below w.heap.size w W):FitPost w zeroFr er (.returned (.tuple #[.agg zeroF,.int .i64 er])) W:=⟨none,0,rfl,Nat.le_refl _,by omega,.inl rfl,Row.none_ _ _ _,hb⟩
theorem Open_any (g size:Nat) (bs:List Nat) (D:List MetaV) (i c b:Int) (B:List Nat) (A:Option Addr) (cb:Nat) (w:World) (h:BankAt w g bs size D) (hf:FitB bs size D)
  (hn:B.length<=1000000) (hb:Byt B) (hr:Row w w.heap.size A (u8s B)) :
  Calls Tryz.prog 64 #[.pointer (some ⟨g,0,none⟩),.int .i64 i,.int .i64 c,.int .i64 b,.slice A B.length cb] w (FitPost w (openF D bs i c b B) (openE D bs i c b B)):=by
 have HFz:=hid (show (Tryz.prog.info? 72).map (·.size)=some zeroF.size from inf_frame)
 have Hz1:=hid (show zeroF.all (·.oneCell')=true by simp [zeroF,Value.oneCell'])
 obtain ⟨w1,hw1⟩:∃ w1,w.alloc (.cells zeroF 72)=w1:=⟨_,rfl⟩
 have B1:=hid (show Below w.heap.size w w1 by rw [<-hw1]; exact bnew w _)
 have S1:=hid (show w1.heap[w.heap.size]? = some (.cells zeroF 72 (0,0)) by rw [<-hw1]; exact heap_alloc_new w _)
 have HW:=hid (Where_any g size bs D i c b w1 (h.later B1.out) hf)
 unfold WherePost at HW
 have HCr:=hid (fun W (hW:Below w.heap.size w W)=>crcSum_any B A cb W (by omega) (hr.later hW))
 have HRd:=hid (fun W (hW:Below w.heap.size w W)=>FRead_gen B A cb W hn hb (hr.later hW))
 have HE:=hid (show openE D bs i c b B=if whereE D i c b ≠ 0 then whereE D i c b else if crcZ B ≠ (whereSum D bs i c b:Nat) then 9 else if rdErr B ≠ 0 then 4 else 0 from rfl)
 have HF:=hid (show openF D bs i c b B=if openE D bs i c b B=0 then rdF B else zeroFr from rfl)
 have HLn:=hid (rdF_len' B)
 have hw1':w.alloc (.cells #[.int .i64 0,.int .i64 0,.int .i64 0,.int .i64 0,.slice none 0 0,.int .i64 0,.int .i64 0,.int .i64 0,.int .i64 0,.int .i64 0,.int .i64 0,.int .i64 0,.int .i64 0,.int .i64 0,.int .i64 0,.int .i64 0,.int .i64 0,.int .i64 0,.int .i64 0,.int .i64 0,.int .i64 0,.int .i64 0,.int .i64 0,.int .i64 0,.int .i64 0,.int .i64 0,.int .i64 0,.int .i64 0,.int .i64 0] 72)=w1:=hw1
 clear hw1 h hf hb hr
 generalize openE D bs i c b B=OE at *
 generalize openF D bs i c b B=OF at *
 generalize whereE D i c b=E at *
 generalize whereAt D size i c b=AT at *
 generalize whereSum D bs i c b=V at *
 generalize crcZ B=C at *
 generalize rdErr B=ER at *
 generalize rdF B=RF at *
 generalize B.length=nb at *
 by_cases q1:E=0
 rotate_left
 ·have t1:(E != 0)=true:=by rw [bne_iff_ne]; exact q1
  have h1:OE=E:=by rw [HE.out,if_pos q1]
  have h2:OF=zeroFr:=by rw [HF.out,h1,if_neg q1]
  rw [h1,h2]
  clear h1 h2 HE HF q1
  go_enter Tryz.func64,Tryz.ntmps64
  go_wp2_with (go_at_call 56; fail)
  clear hw1'
  refine HW.out.mono ?_
  rintro e w2 ⟨rfl,hb2⟩
  have S2:=hid (hkeep S1.out hb2)
  have B2:=hid (bnext B1.out hb2)
  clear hb2
  go_wp2_with (refine wpList_store_row_w rfl 72 (.tmp 10) (.tmp 28) rfl w.heap.size rfl _ _ zeroF rfl S2.out HFz.out (by rfl) Hz1.out ?_)
  refine bodyPost_ret (v:=.tuple #[.agg zeroF,.int .i64 E]) (results_cell_tmp Tryz.results64 _ _ w.heap.size 72 zeroF (0,0) _ _ rfl rfl (setRow_heap _ _ _ _ _ _ S2.out) Tryz.underlying72 rfl HFz.out) rfl ?_
  exact post_zero w _ E (setRow_below B2.out _ (Nat.le_refl _) _)
 subst q1
 by_cases q2:C=(V:Int)
 rotate_left
 ·have t2:(C != (V:Int))=true:=by rw [bne_iff_ne]; exact q2
  have h1:OE=9:=by rw [HE.out,if_neg (by simp),if_pos q2]
  have h2:OF=zeroFr:=by rw [HF.out,h1]; rfl
  rw [h1,h2]
  clear h1 h2 HE HF q2
  go_enter Tryz.func64,Tryz.ntmps64
  go_wp2_with (go_at_call 56; fail)
  clear hw1'
  refine HW.out.mono ?_
  rintro e w2 ⟨rfl,hb2⟩
  have S2:=hid (hkeep S1.out hb2)
  have B2:=hid (bnext B1.out hb2)
  clear hb2
  go_wp2_with (first | (go_at_call 71; refine (HCr.out _ B2.out).mono ?_; rintro e w3 ⟨rfl,rfl⟩) | (refine wpList_store_row_w rfl 72 (.tmp 10) (.tmp 35) rfl w.heap.size rfl _ _ zeroF rfl S2.out HFz.out (by rfl) Hz1.out ?_))
  refine bodyPost_ret (v:=.tuple #[.agg zeroF,.int .i64 9]) (results_cell_tmp Tryz.results64 _ _ w.heap.size 72 zeroF (0,0) _ _ rfl rfl (setRow_heap _ _ _ _ _ _ S2.out) Tryz.underlying72 rfl HFz.out) rfl ?_
  exact post_zero w _ 9 (setRow_below B2.out _ (Nat.le_refl _) _)
 subst q2
 have t2:((V:Int) != (V:Int))=false:=by simp
 go_enter Tryz.func64,Tryz.ntmps64
 go_wp2_with (go_at_call 56; fail)
 clear hw1'
 refine HW.out.mono ?_
 rintro e w2 ⟨rfl,hb2⟩
 have S2:=hid (hkeep S1.out hb2)
 have B2:=hid (bnext B1.out hb2)
 clear hb2
 go_wp2_with (first | (go_at_call 71; refine (HCr.out _ B2.out).mono ?_; rintro e w3 ⟨rfl,rfl⟩) | (go_at_call 58; fail))
 refine (HRd.out _ B2.out).mono ?_
 rintro e w4 ⟨Af,cf,rfl,htl,hcf,hfr,hrow,hb4⟩
 have S4:=hid (hkeep S2.out hb4)
 have B4:=hid (bnext B2.out hb4)
 obtain ⟨p,hp⟩:∃ p:FrH × FrameV,(⟨⟨Af,cf⟩,RF⟩:FrH × FrameV)=p:=⟨_,rfl⟩
 have hpf:p.2=RF:=by rw [<-hp]
 have hpc:frameA RF (.slice Af RF.tones.length cf)=(frC p).toArray:=by rw [<-hp]; rfl
 rw [hpc]
 have HPc:=hid hpc
 have hpl:(frC p).length=29:=frC_len (by rw [hpf]; exact HLn.out)
 have Hp1:=hid (frC_one p)
 obtain ⟨fl,hfl⟩:∃ fl,frC p=fl:=⟨_,rfl⟩
 rw [hfl] at Hp1 hpl HPc ⊢
 have hfs:fl.toArray.size=29:=by rw [List.size_toArray,hpl]
 have Hfs:=hid hfs
 have HFf:=hid (show (Tryz.prog.info? 72).map (·.size)=some fl.toArray.size by rw [hfs]; exact inf_frame)
 have Hf1:=hid (show fl.toArray.all (·.oneCell')=true by
  rw [Array.all_eq_true_iff_forall_mem]
  intro v hv
  exact Hp1.out v (by simpa using hv))
 have HZ2:=hid (show zeroF.size=fl.toArray.size by rw [hfs]; rfl)
 have B5:=hid (bnext B4.out (bnew w4 (.cells fl.toArray 72)))
 have S5:=hid (show (w4.alloc (.cells fl.toArray 72)).heap[w.heap.size]? = some (.cells zeroF 72 (0,0)) from (heap_alloc_old _ _ (hlt S4.out)).trans S4.out)
 have F5:=hid (heap_alloc_new w4 (.cells fl.toArray 72))
 have Htl:=hid htl
 have Hcf:=hid hcf
 have HR5:=hid (show Row ((w4.alloc (.cells fl.toArray 72)).setRow w.heap.size fl.toArray) ((w4.alloc (.cells fl.toArray 72)).setRow w.heap.size fl.toArray).heap.size Af (toneCells RF.tones) from
  row_setRow (hfr.imp id fun ⟨g',h1,h2⟩=>⟨g',h1,h2⟩) (hlt S2.out) fl.toArray (hrow.later (bnew w4 _)))
 have Hfr:=hid (show RF.tones=[]\/∃ g',Af=some ⟨g',0,none⟩/\w.heap.size<=g' from hfr.imp id fun ⟨g',h1,h2⟩=>⟨g',h1,by have:=B2.out.size; omega⟩)
 clear htl hcf hfr hrow hb4 hp hpf hpc hpl hfl hfs
 by_cases q3:ER=0
 rotate_left
 ·have t3:(ER != 0)=true:=by rw [bne_iff_ne]; exact q3
  have h1:OE=4:=by rw [HE.out,if_neg (by simp),if_neg (by simp),if_pos q3]
  have h2:OF=zeroFr:=by rw [HF.out,h1]; rfl
  have H1:=hid h1
  have H2:=hid h2
  clear h1 h2 HE HF q3
  go_wp2_with (first | (refine wpList_store_row_w rfl 72 (.tmp 15) (.tmp 39) rfl w4.heap.size rfl _ _ fl.toArray rfl (heap_alloc_new w4 _) HFf.out (by rw [Hfs.out]; rfl) Hf1.out ?_; rw [World.setRow_alloc_new]) | (refine wpList_store_row_w rfl 72 (.tmp 10) (.tmp 43) rfl w.heap.size rfl _ _ zeroF rfl S5.out HFz.out (by rfl) Hz1.out ?_))
  refine bodyPost_ret (v:=.tuple #[.agg zeroF,.int .i64 4]) (results_cell_tmp Tryz.results64 _ _ w.heap.size 72 zeroF (0,0) _ _ rfl rfl (setRow_heap _ _ _ _ _ _ S5.out) Tryz.underlying72 rfl HFz.out) rfl ?_
  rw [H1.out,H2.out]
  exact post_zero w _ 4 (setRow_below B5.out _ (Nat.le_refl _) _)
 ·subst q3
  have h1:OE=0:=by rw [HE.out,if_neg (by simp),if_neg (by simp),if_neg (by simp)]
  have h2:OF=RF:=by rw [HF.out,h1,if_pos rfl]
  have H1:=hid h1
  have H2:=hid h2
  clear h1 h2 HE HF
  go_wp2_with (first | (refine wpList_store_row_w rfl 72 (.tmp 15) (.tmp 39) rfl w4.heap.size rfl _ _ fl.toArray rfl (heap_alloc_new w4 _) HFf.out (by rw [Hfs.out]; rfl) Hf1.out ?_; rw [World.setRow_alloc_new]) | (refine wpList_load_row_w rfl 72 (.tmp 15) rfl w4.heap.size rfl _ fl.toArray _ _ F5.out Tryz.underlying72 rfl HFf.out ?_) | (refine wpList_store_row_w rfl 72 (.tmp 10) (.tmp 44) rfl w.heap.size rfl _ _ fl.toArray rfl S5.out HFf.out HZ2.out Hf1.out ?_))
  refine bodyPost_ret (v:=.tuple #[.agg fl.toArray,.int .i64 0]) (results_cell_tmp Tryz.results64 _ _ w.heap.size 72 fl.toArray (0,0) _ _ rfl rfl (setRow_heap _ _ _ _ _ _ S5.out) Tryz.underlying72 rfl HFf.out) rfl ?_
  rw [H1.out,H2.out]
  exact ⟨Af,cf,by rw [HPc.out],Htl.out,Hcf.out,Hfr.out,HR5.out,setRow_below B5.out _ (Nat.le_refl _) _⟩
end
section
open Go.RowKit Go.Lib
section
variable {size : Nat} {SS : List SampV}
theorem packDir_at {m:Nat} {s:SampV} (hs:SS[m]? = some s):metaI (packDir size SS) m=plc size (SS.map metaOf) m (metaOf s)/\metaE (packDir size SS) m=0:=by
 have hm:=(List.getElem?_eq_some_iff.1 hs).1
 have hi:¬ ((m:Int) < 0\/((packDir size SS).length:Int)<=(m:Int)):=by rw [packDir_len]; omega
 constructor
 ·unfold metaI
  rw [if_neg hi,Int.toNat_natCast,List.getD_eq_getElem?_getD,packDir_get hs]
  rfl
 ·unfold metaE
  rw [if_neg hi]
theorem packDir_in {m:Nat} {s:SampV} (hs:SS[m]? = some s) {c b:Int}:whereE (packDir size SS) m c b=if c < 0\/(s.rows.length:Int)<=c\/b < 0\/(countN (len0 s.rows):Int)<=b then 5 else 0:=by
 obtain ⟨h1,h2⟩:=packDir_at (size:=size) hs
 unfold whereE
 rw [h1,h2,if_neg (by simp)]
 show (if c < 0\/(s.rows.length:Int)<=c\/b < 0\/countZ (len0 s.rows:Int)<=b then (5:Int) else 0)=_
 rw [countZ_N]
theorem CanP.opened (h:CanP size SS) {m k q:Nat} {s:SampV} {d:List Int} {x:FrameV} (hs:SS[m]? = some s) (hd:s.rows[k]? = some d) (hx:(framesZ d size)[q]? = some x) :
  whereE (packDir size SS) m k q=0/\subB (packZ size SS) (whereAt (packDir size SS) size m k q).toNat size=frameBytes x size/\openE (packDir size SS) (packZ size SS) m k q (frameBytes x size)=0/\openF (packDir size SS) (packZ size SS) m k q (frameBytes x size)=x:=by
 have hk:=(List.getElem?_eq_some_iff.1 hd).1
 have hq:=(List.getElem?_eq_some_iff.1 hx).1
 have hfine:=h.fine s (List.mem_of_getElem? hs)
 have hdm:=List.mem_of_getElem? hd
 rw [framesZ_len,hfine.same d hdm] at hq
 have hE:whereE (packDir size SS) m k q=0:=by rw [packDir_in hs,if_neg (by omega)]
 obtain ⟨m',s',d',x',e1,e2,e3,e4,e5,e6⟩:=h.asked hE
 have e1:m=m':=by omega
 subst e1
 rw [hs] at e2
 injection e2 with e2
 subst e2
 rw [Int.toNat_natCast,hd] at e3
 injection e3 with e3
 subst e3
 rw [Int.toNat_natCast,hx] at e4
 injection e4 with e4
 subst e4
 have hR:=framesZ_right (hfine.good.2 d hdm).2 (size:=(size:Int)) (by have:=h.lo; omega) (by have:=h.hi; omega) x (List.mem_of_getElem? hx)
 obtain ⟨r1,r2⟩:=read_frame hR.1 (size:=size) hR.2
 obtain ⟨r3,r4⟩:=rd_b r2 (by rw [r1]; exact hR.1)
 have hoe:openE (packDir size SS) (packZ size SS) m k q (frameBytes x size)=0:=by
  unfold openE
  rw [hE,if_neg (by simp),if_neg (by rw [e6]; simp),r3,if_neg (by simp)]
 refine ⟨hE,e5,hoe,?_⟩
 unfold openF
 rw [if_pos hoe,r4,r1]
end
end
section
open Go.RowKit Go.Lib
section
variable {size : Nat} {SS : List SampV}
theorem CanP.ch_bd (h:CanP size SS) {m:Nat} {s:SampV} (hs:SS[m]? = some s):1<=s.rows.length/\s.rows.length<=2/\1<=len0 s.rows/\len0 s.rows<=1048576:=by
 obtain ⟨⟨l1,l2⟩,_,⟨l3,l4⟩,_,_⟩:=right_bds (h.right s (List.mem_of_getElem? hs))
 have l1:(1:Int)<=(len0 s.rows:Nat):=l1
 have l2:((len0 s.rows:Nat):Int)<=1048576:=l2
 have l3:(1:Int)<=(s.rows.length:Nat):=l3
 have l4:((s.rows.length:Nat):Int)<=2:=l4
 omega
theorem frame_calls (h:CanP size SS) {m:Nat} {s:SampV} (hs:SS[m]? = some s) {q k:Nat} (hq:q < countN (len0 s.rows)) (hk:k < s.rows.length):∃ d x,s.rows[k]? = some d/\(framesZ d size)[q]? = some x/\(frameBytes x size).length=size/\x.Len /\
  (∀ g W,BankAt W g (packZ size SS) size (packDir size SS)->Calls Tryz.prog 21 #[.pointer (some ⟨g,0,none⟩),.int .i64 m,.int .i64 k,.int .i64 q] W fun e w'=>∃ A c',e=.returned (.tuple #[.slice A size c',.int .i64 0])/\Row w' w'.heap.size A (u8s (frameBytes x size))/\Below W.heap.size W w') /\
  (∀ g W A cb,BankAt W g (packZ size SS) size (packDir size SS)->Row W W.heap.size A (u8s (frameBytes x size))->Calls Tryz.prog 64 #[.pointer (some ⟨g,0,none⟩),.int .i64 m,.int .i64 k,.int .i64 q,.slice A size cb] W (FitPost W x 0)):=by
 obtain ⟨d,hd⟩:∃ d,s.rows[k]? = some d:=⟨_,List.getElem?_eq_getElem hk⟩
 have hsm:=(h.fine s (List.mem_of_getElem? hs)).same d (List.mem_of_getElem? hd)
 obtain ⟨x,hx⟩:∃ x,(framesZ d size)[q]? = some x:=⟨_,List.getElem?_eq_getElem (by rw [framesZ_len,hsm]; exact hq)⟩
 obtain ⟨hE,hsub,hoe,hof⟩:=h.opened hs hd hx
 have hfine:=h.fine s (List.mem_of_getElem? hs)
 have hR:=framesZ_right (hfine.good.2 d (List.mem_of_getElem? hd)).2 (size:=(size:Int)) (by have:=h.lo; omega) (by have:=h.hi; omega) x (List.mem_of_getElem? hx)
 have hlen:(frameBytes x size).length=size:=frameBytes_len hR.1 hR.2
 have hbyt:Byt (frameBytes x size):=by
  rw [<-hsub]
  intro y hy
  unfold subB at hy
  obtain ⟨j,_,rfl⟩:=List.mem_map.1 hy
  rw [List.getD_eq_getElem?_getD]
  cases hq:(packZ size SS)[(whereAt (packDir size SS) size m k q).toNat+j]? with
  | none=>show (0:Nat) < 256; omega
  | some z=>exact h.fit.byt z (List.mem_of_getElem? hq)
 refine ⟨d,x,hd,hx,hlen,hR.1.len,fun g W hB=>?_,fun g W A cb hB hr=>?_⟩
 ·refine (Bytes_any g size (packZ size SS) (packDir size SS) m k q W hB h.fit).mono ?_
  rintro e w' ⟨hb,⟨h4,_⟩ | ⟨_,A,c',he,_,_,_,hrow⟩⟩
  ·exact absurd hE h4
  ·rw [hsub] at hrow
   exact ⟨A,c',he,hrow,hb⟩
 ·have hO:=Open_any g size (packZ size SS) (packDir size SS) m k q (frameBytes x size) A cb W hB h.fit (by have:=h.hi; omega) hbyt hr
  rw [hoe,hof,hlen] at hO
  exact hO
theorem Bad_good (h:CanP size SS) (g:Nat) {m:Nat} {s:SampV} (hs:SS[m]? = some s) (w:World) (hB:BankAt w g (packZ size SS) size (packDir size SS)) :
  Calls Tryz.prog 54 #[.pointer (some ⟨g,0,none⟩),.int .i64 m] w fun e w'=>e=.returned (.slice none 0 0)/\Below w.heap.size w w':=by
 obtain ⟨e1,e2⟩:=packDir_at (size:=size) hs
 obtain ⟨c1,c2,c3,c4⟩:=h.ch_bd hs
 have hm64:m < 64:=by have:=h.many; have:=(List.getElem?_eq_some_iff.1 hs).1; omega
 have HMe:=hid (show Calls Tryz.prog 36 #[.pointer (some ⟨g,0,none⟩),.int .i64 m] w (fun e w'=>e=.returned (.tuple #[.agg (plc size (SS.map metaOf) m (metaOf s)).cells.toArray,.int .i64 0])/\Below w.heap.size w w') from by
  have hh:=BMeta_any g size (packZ size SS) (packDir size SS) m w hB (by have:=h.lo; omega) (by rw [packDir_len]; have:=h.many; omega)
  rwa [e1,e2] at hh)
 have HFr:=hid (fun W=>bankFrames_any (plc size (SS.map metaOf) m (metaOf s)) W ⟨show (0:Int)<=(len0 s.rows:Nat) by omega,show ((len0 s.rows:Nat):Int)<=1048576 by omega⟩ ⟨show (0:Int)<=(s.rows.length:Nat) by omega,show ((s.rows.length:Nat):Int)<=255 by omega⟩)
 have hfr:framesN (plc size (SS.map metaOf) m (metaOf s))=((countN (len0 s.rows)*s.rows.length:Nat):Int):=by
  show countZ (len0 s.rows:Int)*(s.rows.length:Int)=_
  rw [countZ_N]; push_cast; rfl
 rw [hfr] at HFr
 have HCl:=hid (fun (q k:Nat) (hq:q < countN (len0 s.rows)) (hk:k < s.rows.length)=>frame_calls h hs hq hk)
 have HB:=hid hB
 have hcn:countN (len0 s.rows)<=65537:=by unfold countN; omega
 obtain ⟨pm,hpm⟩:∃ pm,plc size (SS.map metaOf) m (metaOf s)=pm:=⟨_,rfl⟩
 obtain ⟨nm,len,rate,ch,lp,f,t,s0,f0⟩:=pm
 have hch:ch=((s.rows.length:Nat):Int):=(congrArg MetaV.channels hpm).symm
 subst hch
 rw [hpm] at HMe HFr
 simp only [MetaV.cells] at HMe HFr
 obtain ⟨ch,hchv⟩:∃ ch,s.rows.length=ch:=⟨_,rfl⟩
 obtain ⟨cz,hcz⟩:∃ cz,countN (len0 s.rows)=cz:=⟨_,rfl⟩
 rw [hcz] at HFr HCl hcn
 rw [hchv] at HMe HFr HCl c1 c2
 obtain ⟨T,hT⟩:∃ T,cz*ch=T:=⟨_,rfl⟩
 rw [hT] at HFr
 have hTb:T<=200000:=by
  have:=Nat.mul_le_mul hcn c2
  omega
 have HFm:=hid (show (Tryz.prog.info? 27).map (·.size)=some 9 by kernel_rfl)
 clear hB h hs e1 e2 hfr hpm hchv hcz
 go_enter Tryz.func54,Tryz.ntmps54
 go_wp2_with (go_at_call 36; fail)
 refine HMe.out.mono ?_
 rintro e w1 ⟨rfl,hb1⟩
 have B1:=hid hb1
 obtain ⟨w2,hw2⟩:∃ w2,w1.alloc (.cells #[.string nm,.int .i64 len,.int .i64 rate,.int .i64 ch,.bool lp,.int .i64 f,.int .i64 t,.int .i64 s0,.int .i64 f0] 27)=w2:=⟨_,rfl⟩
 have B2:=hid (show Below w.heap.size w w2 by rw [<-hw2]; exact bnext hb1 (bnew w1 _))
 have X2:=hid (show Blk w2 w1.heap.size 27 [.string nm,.int .i64 len,.int .i64 rate,.int .i64 ch,.bool lp,.int .i64 f,.int .i64 t,.int .i64 s0,.int .i64 f0] by rw [<-hw2]; exact Blk.new w1 _ _)
 have X2h:=hid (show w2.heap[w1.heap.size]? = some (.cells #[.string nm,.int .i64 len,.int .i64 rate,.int .i64 ch,.bool lp,.int .i64 f,.int .i64 t,.int .i64 s0,.int .i64 f0] 27 (0,0)) from X2.out)
 clear hb1 HMe
 go_wp2_with (first | (refine wpList_load_row_w rfl 27 (.tmp 5) rfl w1.heap.size rfl _ #[.string nm,.int .i64 len,.int .i64 rate,.int .i64 ch,.bool lp,.int .i64 f,.int .i64 t,.int .i64 s0,.int .i64 f0] _ _ X2h.out Tryz.underlying27 rfl HFm.out ?_) | (go_at_call 17; fail))
 refine (HFr.out _).mono ?_
 rintro e w3 ⟨rfl,hb3⟩
 have B3:=hid (bnext B2.out hb3)
 have X3:=hid (X2.out.below hb3 X2.out.lt)
 clear hb3 hw2 HFr
 go_wp2_with fail
 go_loopw [7,23] (fun o i wr=>∃ (n:Nat),n<=T/\i=.int .i64 n/\o=.slice none 0 0/\Below w3.heap.size w3 wr) (fun _ i _=>T - (intOf i).toNat)
 case atStart=>exact ⟨0,by omega,rfl,rfl,Below.refl _ _⟩
 case round =>
  obtain ⟨n,hn,rfl,rfl,hbel⟩:=hrel
  have Hbel:=hid hbel
  clear hbel
  obtain ⟨wa,rfl⟩:∃ wa,wa=wr:=⟨_,rfl⟩
  by_cases hlt':n < T
  ·have u0:(n:Int) < (T:Int):=by omega
   have hch0:0 < ch:=by omega
   obtain ⟨q,hq⟩:∃ q,n / ch=q:=⟨_,rfl⟩
   obtain ⟨c,hc⟩:∃ c,n % ch=c:=⟨_,rfl⟩
   have hcl:c < ch:=by rw [<-hc]; exact Nat.mod_lt _ hch0
   have hql:q < cz:=by
    rw [<-hq]
    exact Nat.div_lt_of_lt_mul (by rw [Nat.mul_comm,hT]; exact hlt')
   have hqn:q<=n:=by rw [<-hq]; exact Nat.div_le_self _ _
   have hrem:((n:Int)).tmod (ch:Int)=(c:Int):=by rw [<-hc]; rfl
   have hquo:((n:Int)).tdiv (ch:Int)=(q:Int):=by rw [<-hq]; rfl
   have hwq:IntKind.i64.wrap (q:Int)=(q:Int):=IntWalk.i64_in _ (by omega)
   have hwc:IntKind.i64.wrap (c:Int)=(c:Int):=IntWalk.i64_in _ (by omega)
   have u1:((ch:Int) == 0)=false:=beq_eq_false_iff_ne.2 (by omega)
   obtain ⟨d,x,-,-,hfl,hxl,hBy,hOp⟩:=HCl.out q c hql hcl
   have HBa:=hid (HB.out.later (bnext B3.out Hbel.out))
   have HBy:=hid (fun W (hW:Below wa.heap.size wa W)=>hBy g W (HBa.out.later hW))
   have HOp:=hid (fun W A cb (hW:Below wa.heap.size wa W) hr=>hOp g W A cb (HBa.out.later hW) hr)
   have Hfl:=hid hfl
   have Hxl:=hid hxl
   have Xa:=hid (X3.out.below Hbel.out X3.out.lt)
   have x3:=fun (z:GW wa)=>(show z.1.cell? ⟨w1.heap.size,3,none⟩=some (.int .i64 ch) from (z.2.cell (p:=⟨w1.heap.size,3,none⟩) Xa.out.lt).trans (Xa.out.cell 3))
   generalize frameBytes x size=FB at *
   clear hq hc hql hcl hqn hfl hxl hBy hOp
   go_wp2_with fail
   refine wp_region_calm_head 10 #[true,true,true,true,true,true,true,true,true,true,false,false,false,false,false,false] (by kernel_rfl) (by kernel_rfl) ?_
   simp only [List.take_succ_cons,List.take_zero]
   repeat (go_big_quiet_step (fail))
   refine wpQuiet_nil ?_
   intro w7 hw'
   have B7:=hid (gw_below hw')
   clear hw' x3
   change wpAny _ _ _ _ 6 _ _ _
   refine wpAny_ready (rs:=[10]) (by kernel_rfl) (by simp) ?_
   refine AllReady.cons rfl (fun K hK=>?_) AllReady.nil
   go_simp
   go_wp2_with (go_at_call 21; refine (HBy.out w7 B7.out).mono ?_; rintro e w8 ⟨Ab,cb,rfl,hrowb,hb8⟩)
   refine wpAny_take (i:=11) (v:=?_) rfl (by kernel_rfl) (by kernel_rfl) (by kernel_rfl) (fun _ _ _ h=>h) (Or.inl ⟨by rfl,?_⟩) ?_
   rotate_left
   ·intro w; go_simp; try (with_reducible rfl)
   simp only [Act.put,List.getElem_toArray,List.getElem_cons_succ,List.getElem_cons_zero,List.setIfInBounds_toArray,List.set_cons_succ,List.set_cons_zero]
   refine wpAny_take (i:=12) (v:=?_) rfl (by kernel_rfl) (by kernel_rfl) (by kernel_rfl) (fun _ _ _ h=>h) (Or.inl ⟨by rfl,?_⟩) ?_
   rotate_left
   ·intro w; go_simp; try (with_reducible rfl)
   simp only [Act.put,List.getElem_toArray,List.getElem_cons_succ,List.getElem_cons_zero,List.setIfInBounds_toArray,List.set_cons_succ,List.set_cons_zero]
   refine wpAny_take (i:=13) (v:=?_) rfl (by kernel_rfl) (by kernel_rfl) (by kernel_rfl) (fun _ _ _ h=>h) (Or.inl ⟨by rfl,?_⟩) ?_
   rotate_left
   ·intro w; go_simp; try (with_reducible rfl)
   simp only [Act.put,List.getElem_toArray,List.getElem_cons_succ,List.getElem_cons_zero,List.setIfInBounds_toArray,List.set_cons_succ,List.set_cons_zero]
   refine wpAny_take (i:=14) (v:=?_) rfl (by kernel_rfl) (by kernel_rfl) (by kernel_rfl) (fun _ _ _ h=>h) (Or.inl ⟨by rfl,?_⟩) ?_
   rotate_left
   ·intro w; go_simp; try (with_reducible rfl)
   simp only [Act.put,List.getElem_toArray,List.getElem_cons_succ,List.getElem_cons_zero,List.setIfInBounds_toArray,List.set_cons_succ,List.set_cons_zero]
   refine wpAny_take (i:=15) (v:=?_) rfl (by kernel_rfl) (by kernel_rfl) (by kernel_rfl) (fun _ _ _ h=>h) (Or.inl ⟨by rfl,?_⟩) ?_
   rotate_left
   ·intro w; go_simp; try (with_reducible rfl)
   simp only [Act.put,List.getElem_toArray,List.getElem_cons_succ,List.getElem_cons_zero,List.setIfInBounds_toArray,List.set_cons_succ,List.set_cons_zero]
   refine wpAny_done (by kernel_rfl) ?_ _
   have B8:=hid (bnext B7.out hb8)
   have RB:=hid hrowb
   have X8:=hid (Xa.out.below B8.out Xa.out.lt)
   have x8:=fun (z:GW w8)=>(show z.1.cell? ⟨w1.heap.size,3,none⟩=some (.int .i64 ch) from (z.2.cell (p:=⟨w1.heap.size,3,none⟩) X8.out.lt).trans (X8.out.cell 3))
   clear hb8 hrowb HBy
   go_wp2_with fail
   refine wp_region_float 11 (o:=.cells zeroF 72) (by kernel_rfl) rfl (by kernel_rfl) rfl rfl rfl rfl (fun _ _=>rfl) (fun c a' w' d v h=>by cases d <;> exact h) ?_
   simp only [List.take_succ_cons,List.take_zero]
   simp only [Act.put]
   repeat (go_big_quiet_step (fail))
   refine wpQuiet_nil ?_
   intro w9 hw'
   have B9:=hid (bnext B8.out (gw_below hw'))
   have R9:=hid (RB.out.later (gw_below hw'))
   clear hw' x8
   refine ⟨?A,?B⟩
   case' A =>
    have BA:=hid (bnext B9.out (bnew w9 (.cells zeroF 72)))
    have HO9:=hid (HOp.out (w9.alloc (.cells zeroF 72)) Ab cb BA.out (R9.out.later (bnew w9 _)))
    unfold FitPost at HO9
    clear HOp
    go_wp2_with (go_at_call 64; fail)
    refine HO9.out.mono ?_
    rintro e w10 ⟨Af,cf,rfl,-,-,-,-,hb10⟩
    obtain ⟨p,hp⟩:∃ p:FrH × FrameV,(⟨⟨Af,cf⟩,x⟩:FrH × FrameV)=p:=⟨_,rfl⟩
    have hpc:frameA x (.slice Af x.tones.length cf)=(frC p).toArray:=by rw [<-hp]; rfl
    rw [hpc]
    have hpl:(frC p).length=29:=frC_len (by rw [<-hp]; exact Hxl.out)
    have Hp1:=hid (frC_one p)
    generalize frC p=fl at *
    have hfs:fl.toArray.size=29:=by rw [List.size_toArray,hpl]
    have Hfs:=hid hfs
    have HFf:=hid (show (Tryz.prog.info? 72).map (·.size)=some fl.toArray.size by rw [hfs]; exact inf_frame)
    have Hf1:=hid (show fl.toArray.all (·.oneCell')=true by
     rw [Array.all_eq_true_iff_forall_mem]
     intro v hv
     exact Hp1.out v (by simpa using hv))
    have HZ6:=hid (hkeep (heap_alloc_new w9 (.cells zeroF 72)) hb10)
    have EV:=hid (show Below w3.heap.size w3 (w10.setRow w9.heap.size fl.toArray) from setRow_below (bnext Hbel.out (bnext BA.out hb10)) _ (by have:=(bnext Hbel.out B9.out).size; omega) _)
    clear hb10 hp hpc hpl hfs HO9
    go_wp2_with (refine wpList_store_row_w rfl 72 (.tmp 11) (.tmp 53) rfl w9.heap.size rfl _ _ fl.toArray rfl HZ6.out HFf.out (by rw [Hfs.out]; rfl) Hf1.out ?_)
    go_roundw
    case rel=>exact ⟨n+1,by omega,by go_num,rfl,EV.out⟩
    case measure=>first | (simp [intOf]; done) | (simp [intOf]; omega)
   case' B =>
    have HO9:=hid (HOp.out w9 Ab cb B9.out R9.out)
    unfold FitPost at HO9
    clear HOp
    go_wp2_with (go_at_call 64; fail)
    refine HO9.out.mono ?_
    rintro e w10 ⟨Af,cf,rfl,-,-,-,-,hb10⟩
    obtain ⟨p,hp⟩:∃ p:FrH × FrameV,(⟨⟨Af,cf⟩,x⟩:FrH × FrameV)=p:=⟨_,rfl⟩
    have hpc:frameA x (.slice Af x.tones.length cf)=(frC p).toArray:=by rw [<-hp]; rfl
    rw [hpc]
    have hpl:(frC p).length=29:=frC_len (by rw [<-hp]; exact Hxl.out)
    have Hp1:=hid (frC_one p)
    generalize frC p=fl at *
    have hfs:fl.toArray.size=29:=by rw [List.size_toArray,hpl]
    have Hfs:=hid hfs
    have HFf:=hid (show (Tryz.prog.info? 72).map (·.size)=some fl.toArray.size by rw [hfs]; exact inf_frame)
    have Hf1:=hid (show fl.toArray.all (·.oneCell')=true by
     rw [Array.all_eq_true_iff_forall_mem]
     intro v hv
     exact Hp1.out v (by simpa using hv))
    have EV:=hid (show Below w3.heap.size w3 (w10.alloc (.cells fl.toArray 72)) from bnext Hbel.out (bnext (bnext B9.out hb10) (bnew w10 _)))
    clear hb10 hp hpc hpl hfs HO9
    go_wp2_with (refine wpList_store_row_w rfl 72 (.tmp 11) (.tmp 53) rfl w10.heap.size rfl _ _ fl.toArray rfl (heap_alloc_new w10 _) HFf.out (by rw [Hfs.out]; rfl) Hf1.out ?_; rw [World.setRow_alloc_new])
    go_roundw
    case rel=>exact ⟨n+1,by omega,by go_num,rfl,EV.out⟩
    case measure=>first | (simp [intOf]; done) | (simp [intOf]; omega)
  ·have hnT:n=T:=by omega
   subst hnT
   have u0:¬ ((n:Int) < (n:Int)):=by omega
   go_wp2_with fail
   go_ret
   exact ⟨rfl,bnext B3.out Hbel.out⟩
end
end
section
open Go.RowKit Go.Lib
def WholeP (W:World) (xs:List Int) (e:Ending) (w':World):Prop:=∃ A c,e=.returned (.tuple #[.slice A xs.length c,.int .i64 0])/\xs.length<=c/\c<=9223372036854775807/\w'.ownsRow W.heap.size 3 1 (.slice A xs.length c) xs.length (xs.map (.int .i64))/\Below W.heap.size W w'
theorem Whole_good {size:Nat} {SS:List SampV} (h:CanP size SS) (g:Nat) {m k:Nat} {s:SampV} {d:List Int} (hs:SS[m]? = some s) (hd:s.rows[k]? = some d) (w:World) (hB:BankAt w g (packZ size SS) size (packDir size SS)) :
  Calls Tryz.prog 107 #[.pointer (some ⟨g,0,none⟩),.int .i64 m,.int .i64 k] w (WholeP w (sampsZ (framesZ d size) (len0 s.rows:Nat))):=by
 obtain ⟨i0,hi,⟨z0,hz0,hz0s⟩,hi1,hi2⟩:=frames_info
 obtain ⟨e1,e2⟩:=packDir_at (size:=size) hs
 obtain ⟨c1,c2,c3,c4⟩:=h.ch_bd hs
 have hk:=(List.getElem?_eq_some_iff.1 hd).1
 have hm64:m < 64:=by have:=h.many; have:=(List.getElem?_eq_some_iff.1 hs).1; omega
 have hlo:=h.lo
 have hhi:=h.hi
 have hsm:=(h.fine s (List.mem_of_getElem? hs)).same d (List.mem_of_getElem? hd)
 have hfine:=h.fine s (List.mem_of_getElem? hs)
 have hRr:=framesZ_right (hfine.good.2 d (List.mem_of_getElem? hd)).2 (size:=(size:Int)) (by omega) (by omega)
 have HMe:=hid (show Calls Tryz.prog 36 #[.pointer (some ⟨g,0,none⟩),.int .i64 m] w (fun e w'=>e=.returned (.tuple #[.agg (plc size (SS.map metaOf) m (metaOf s)).cells.toArray,.int .i64 0])/\Below w.heap.size w w') from by
  have hh:=BMeta_any g size (packZ size SS) (packDir size SS) m w hB (by omega) (by rw [packDir_len]; have:=h.many; omega)
  rwa [e1,e2] at hh)
 have hfl:(framesZ d size).length=countN (len0 s.rows):=by rw [framesZ_len,hsm]
 have HCl:=hid (fun (q:Nat) x (hx:(framesZ d size)[q]? = some x)=>(show x.Len/\(frameBytes x size).length=size/\
   (∀ g W,BankAt W g (packZ size SS) size (packDir size SS)->Calls Tryz.prog 21 #[.pointer (some ⟨g,0,none⟩),.int .i64 m,.int .i64 k,.int .i64 q] W fun e w'=>∃ A c',e=.returned (.tuple #[.slice A size c',.int .i64 0])/\Row w' w'.heap.size A (u8s (frameBytes x size))/\Below W.heap.size W w') /\
   (∀ g W A cb,BankAt W g (packZ size SS) size (packDir size SS)->Row W W.heap.size A (u8s (frameBytes x size))->Calls Tryz.prog 64 #[.pointer (some ⟨g,0,none⟩),.int .i64 m,.int .i64 k,.int .i64 q,.slice A size cb] W (FitPost W x 0)) from by
  have hq:=(List.getElem?_eq_some_iff.1 hx).1
  rw [hfl] at hq
  obtain ⟨d',x',h1,h2,h3,h4,h5,h6⟩:=frame_calls h hs hq hk
  rw [hd] at h1
  injection h1 with h1
  subst h1
  rw [hx] at h2
  injection h2 with h2
  subst h2
  exact ⟨h4,h3,h5,h6⟩))
 have HB:=hid hB
 have HCo:=hid (fun W=>codeNew_any (size:Int) W (by omega) (by omega))
 have HCn:=hid (fun W=>Count_any (len0 s.rows) W (by omega))
 have hcn:countN (len0 s.rows)<=65537:=by unfold countN; omega
 have HSp:=hid (fun gc L A cap W (hg:CoderAt W gc (size:Int)) (hL:List.map Prod.snd L=framesZ d size) (hA:FramesAt W A L)=>Samples_own gc size L A cap (len0 s.rows:Nat) W hg (by have:=congrArg List.length hL; rw [List.length_map,hfl] at this; omega) hA (fun p hp=>(hRr p.2 (by rw [<-hL]; exact List.mem_map.2 ⟨p,hp,rfl⟩)).1))
 unfold OwnPost at HSp
 have HTk:=hid (fun (q:Nat) x (hx:(framesZ d size)[q]? = some x)=>(show (framesZ d size).take (q+1)=(framesZ d size).take q ++ [x] from by rw [List.take_add_one,hx]; rfl))
 have HTn:=hid (show (framesZ d size).take (countN (len0 s.rows))=framesZ d size from List.take_of_length_le (by omega))
 have HG1:=hid (fun W (hW:Below w.heap.size w W)=>(show W.cell? ⟨g,1,none⟩=some (.int .i64 size) from by
  obtain ⟨Ai,ci,Ad,cd,h1,_⟩:=(hB.later hW).at_
  exact (cell_of_row _ _ _ _ _ _ h1).trans rfl))
 generalize hFS:framesZ d size=FS at *
 obtain ⟨len,hlen⟩:∃ len,len0 s.rows=len:=⟨_,rfl⟩
 obtain ⟨cz,hcz⟩:∃ cz,countN len=cz:=⟨_,rfl⟩
 rw [hlen] at HCn HSp HTn c3 c4 hcn hfl ⊢
 rw [hcz] at HCn HTn hcn hfl
 obtain ⟨pm,hpm⟩:∃ pm,plc size (SS.map metaOf) m (metaOf s)=pm:=⟨_,rfl⟩
 have hplen:pm.length=((len:Nat):Int):=by rw [<-hpm,<-hlen]; rfl
 obtain ⟨nm,ml,rate,ch,lp,f,t,s0,f0⟩:=pm
 simp only at hplen
 subst hplen
 rw [hpm] at HMe
 simp only [MetaV.cells] at HMe
 have Hfl:=hid hfl
 have HFm:=hid (show (Tryz.prog.info? 27).map (·.size)=some 9 by kernel_rfl)
 clear hB h hs hd hk hsm hfine hRr e1 e2 hpm hlen hcz hfl c1 c2 hFS
 generalize hXS:sampsZ FS (len:Nat)=XS at *
 have HXS:=hid hXS
 clear hXS
 go_enter Tryz.func107,Tryz.ntmps107
 go_wp2_with (go_at_call 36; fail)
 refine HMe.out.mono ?_
 rintro e w1 ⟨rfl,hb1⟩
 obtain ⟨w2,hw2⟩:∃ w2,w1.alloc (.cells #[.string nm,.int .i64 len,.int .i64 rate,.int .i64 ch,.bool lp,.int .i64 f,.int .i64 t,.int .i64 s0,.int .i64 f0] 27)=w2:=⟨_,rfl⟩
 have B2:=hid (show Below w.heap.size w w2 by rw [<-hw2]; exact bnext hb1 (bnew w1 _))
 have X2:=hid (show Blk w2 w1.heap.size 27 [.string nm,.int .i64 len,.int .i64 rate,.int .i64 ch,.bool lp,.int .i64 f,.int .i64 t,.int .i64 s0,.int .i64 f0] by rw [<-hw2]; exact Blk.new w1 _ _)
 have g1:=HG1.out w2 B2.out
 clear hb1 HMe
 go_wp2_with (go_at_call 100; fail)
 refine (HCo.out _).mono ?_
 rintro e w3 ⟨gc,rfl,hgc,hco,hb3⟩
 have B3:=hid (bnext B2.out hb3)
 have X3:=hid (X2.out.below hb3 X2.out.lt)
 have HC3:=hid hco
 have x1:w3.cell? ⟨w1.heap.size,1,none⟩=some (.int .i64 len):=X3.out.cell 1
 clear hb3 hco hgc hw2 HCo g1 X2
 go_wp2_with (go_at_call 68; refine (HCn.out _).mono ?_; rintro e w' ⟨rfl,rfl⟩)
 go_loopw [12,37] (fun o i wr=>∃ (n:Nat) (M:List (FrH × FrameV)) (A':Option Addr) (cc:Nat),n<=cz/\i=.int .i64 n/\M.length=n/\o=.slice A' n cc/\wr.ownsRow w3.heap.size 72 29 (.slice A' n cc) n (framesC M) /\
   (∀ p ∈ M,p.2.Len)/\(∀ p ∈ M,FrStands wr (Value.slice A' n cc).ownBlock p)/\M.map Prod.snd=FS.take n/\Below w3.heap.size w3 wr) (fun _ i _=>cz - (intOf i).toNat)
 case atStart=>exact ⟨0,[],none,0,by omega,rfl,rfl,rfl,World.ownsRow_nil _ _ _ _,nofun,nofun,rfl,Below.refl _ _⟩
 case round =>
  obtain ⟨n,M,A',cc,hn,rfl,hM,rfl,hown,hlens,hst,hmap,hbel⟩:=hrel
  have HM:=hid hM
  have Hown:=hid hown
  have Hlen:=hid hlens
  have Hst:=hid hst
  have Hmap:=hid hmap
  have Hbel:=hid hbel
  have Hge:=hid (own_block_ge hown)
  clear hM hown hlens hst hmap hbel
  obtain ⟨wa,rfl⟩:∃ wa,wa=wr:=⟨_,rfl⟩
  by_cases hlk:n < cz
  ·have u0:(n:Int) < (cz:Int):=by omega
   obtain ⟨x,hx⟩:∃ x,FS[n]? = some x:=⟨_,List.getElem?_eq_getElem (by rw [Hfl.out]; exact hlk)⟩
   obtain ⟨hxl,hfbl,hBy,hOp⟩:=HCl.out n x hx
   have HTs:=hid (HTk.out n x hx)
   have HBa:=hid (HB.out.later (bnext B3.out Hbel.out))
   have HBy:=hid (hBy g wa HBa.out)
   have HOp:=hid (fun W A cb (hW:Below wa.heap.size wa W) hr=>hOp g W A cb (HBa.out.later hW) hr)
   unfold FitPost at HOp
   have HL:=hid hxl
   generalize frameBytes x size=FB at *
   clear hx hxl hfbl hBy hOp HCl
   go_wp2_with (go_at_call 21; fail)
   refine HBy.out.mono ?_
   rintro e w5 ⟨Ab,cb,rfl,hrowb,hb5⟩
   have E5:=hid hb5
   have HO5:=hid (HOp.out w5 Ab cb hb5 hrowb)
   clear hrowb hb5 HBy HOp
   go_wp2_with (go_at_call 64; fail)
   refine HO5.out.mono ?_
   rintro e w6 ⟨Af,cf,rfl,htl,hcf,hfr,hrow,hb6⟩
   obtain ⟨p,hp⟩:∃ p:FrH × FrameV,(⟨⟨Af,cf⟩,x⟩:FrH × FrameV)=p:=⟨_,rfl⟩
   have hpf:p.2=x:=by rw [<-hp]
   have hpc:frameA x (.slice Af x.tones.length cf)=(frC p).toArray:=by rw [<-hp]; rfl
   rw [hpc]
   have Hlt:=own_row_lt Hown.out
   have hpl:(frC p).length=29:=frC_len (by rw [hpf]; exact HL.out)
   have hE6:=bnext E5.out hb6
   have HP:=hid (show FrStands w6 (Value.slice A' n cc).ownBlock p from by
    rw [<-hp]
    exact stands_new htl hcf hrow hfr (fun k hk=>Nat.lt_of_lt_of_le (Hlt k hk) E5.out.size))
   have HLp:=hid (show p.2.Len by rw [hpf]; exact HL.out)
   have Hpf:=hid hpf
   have Hst6:=hid (fun q hq=>(Hst.out q hq).below hE6)
   have Hown6:=hid (own_below Hown.out hE6)
   have E6:=hid (bnext Hbel.out hE6)
   have Hp1:=hid (frC_one p)
   obtain ⟨fl,hfl⟩:∃ fl,frC p=fl:=⟨_,rfl⟩
   have Hfl2:=hid hfl
   rw [hfl] at Hp1 hpl ⊢
   have Hpl:=hid hpl
   have hfs:fl.toArray.size=29:=by rw [List.size_toArray,hpl]
   have Hfs:=hid hfs
   have HFf:=hid (show (Tryz.prog.info? 72).map (·.size)=some fl.toArray.size by rw [hfs]; exact inf_frame)
   have Hf1:=hid (show fl.toArray.all (·.oneCell')=true by
    rw [Array.all_eq_true_iff_forall_mem]
    intro v hv
    exact Hp1.out v (by simpa using hv))
   clear htl hcf hfr hrow hb6 hp hpf hpc hpl hfl hfs Hlt hE6 HO5
   have HNV:=hid (heap_alloc_new w6 (.cells fl.toArray 72))
   have HownV:=hid (Hown6.out.alloc (.cells fl.toArray 72))
   have HstV:=hid (fun q hq=>(Hst6.out q hq).below (bnew w6 (.cells fl.toArray 72)))
   have HPV:=hid (HP.out.below (bnew w6 (.cells fl.toArray 72)))
   have EV:=hid (bnext E6.out (bnew w6 (.cells fl.toArray 72)))
   obtain ⟨V,hV⟩:∃ V,w6.alloc (.cells fl.toArray 72)=V:=⟨_,rfl⟩
   clear Hown6 Hst6 HP E6
   rw [hV] at HNV HownV HstV HPV EV
   have hzV:=EV.out.size
   have hn7:n+1<=65537:=by omega
   go_wp2_with (first | (refine wpList_store_row_w rfl 72 (.tmp 16) (.tmp 58) rfl w6.heap.size rfl _ _ fl.toArray rfl (heap_alloc_new w6 _) HFf.out (by rw [Hfs.out]; rfl) Hf1.out ?_; rw [World.setRow_alloc_new]; rw [hV]) | (refine wpList_load_row_w rfl 72 (.tmp 16) rfl w6.heap.size rfl _ fl.toArray _ _ HNV.out Tryz.underlying72 rfl HFf.out ?_) | (refine wpList_build_one rfl 212 72 (.tmp 64) rfl i0 z0 29 Tryz.underlying212 hi hz0 hi1 (by omega) (by omega) fl.toArray rfl Hfs.out ?_) | (at_builtin; refine wpList_app _ rfl (.tmp 63) (.tmp 65) 212 rfl w3.heap.size 72 i0 z0 29 248 Tryz.underlying212 hi hz0 hi1 hi2 hz0s (by omega) _ n (framesC M) rfl (HownV.out.alloc _) (V.heap.size+1) (some ⟨V.heap.size,0,none⟩) 1 1 fl rfl (by rw [Hpl.out]) (Row.new V _ fl) Hp1.out (by omega) (by omega) (by simp; omega) ?_; intro A2 c2 w7 hown7 hgrow hat hcc7))
   go_roundw
   case rel =>
    have hb7:Below w3.heap.size w3 w7:=(EV.out.alloc (by omega) _).grown hgrow (by simp; omega) (fun g h=>Hge.out g h)
    have hst2:∀ q,FrStands V (Value.slice A' n cc).ownBlock q->FrStands w7 (Value.slice A2 (n+1) c2).ownBlock q:=fun q hq=>(hq.below (bnew V _)).grown hgrow hat
    refine ⟨n+1,M ++ [p],A2,c2,by omega,by go_num,by simp [HM.out],rfl,?_,?_,?_,?_,hb7⟩
    ·rw [framesC_snoc,Hfl2.out]; exact hown7
    ·intro q hq
     rcases List.mem_append.1 hq with h | h
     ·exact Hlen.out q h
     ·rw [List.mem_singleton] at h; rw [h]; exact HLp.out
    ·intro q hq
     rcases List.mem_append.1 hq with h | h
     ·exact hst2 q (HstV.out q h)
     ·rw [List.mem_singleton] at h; rw [h]; exact hst2 p HPV.out
    ·rw [List.map_append,Hmap.out,HTs.out]
     simp only [List.map_cons,List.map_nil,Hpf.out]
   case measure=>first | (simp [intOf]; done) | (simp [intOf]; omega)
  ·have hnc:n=cz:=by omega
   subst hnc
   have u0:¬ ((n:Int) < (n:Int)):=by omega
   have hM2:=Hmap.out
   rw [HTn.out] at hM2
   have HFA:=hid (show FramesAt wa A' M from ⟨Row.of_own Hown.out,Hlen.out,fun p hp=>(Hst.out p hp).1⟩)
   have HSa:=hid (HSp.out gc M A' cc wa (hkeep HC3.out Hbel.out) hM2 HFA.out)
   rw [hM2,HXS.out,HM.out] at HSa
   have xa:wa.cell? ⟨w1.heap.size,1,none⟩=some (.int .i64 len):=(X3.out.below Hbel.out X3.out.lt).cell 1
   clear hM2 HCl
   go_wp2_with (go_at_call 136; fail)
   refine HSa.out.mono ?_
   rintro e w5 ⟨A5,c5,rfl,h1,h2,h3,hb5⟩
   have R5:=hid (own_more h3 (bnext B3.out Hbel.out).size)
   have E5:=hid (bnext (bnext B3.out Hbel.out) hb5)
   clear h3 hb5 HSa
   go_wp2
   refine bodyPost_ret (results_tmp2 Tryz.results107 _ _ _) rfl ?_
   exact ⟨A5,c5,rfl,h1,h2,R5.out,E5.out⟩
end
section
open Go.RowKit Go.Lib
theorem grownBy_fresh {a w w':World} {r row:Option Nat} (h:a.grownBy w r) (k:w.grownBy w' row) (hr:∀ j,row=some j->a.heap.size<=j):a.grownBy w' r :=
 ⟨k.os.trans h.os,k.tape.trans h.tape,k.output.trans h.output,Nat.le_trans h.size k.size,fun j hj hne=>(k.block j (by have:=h.size; omega) (fun e=>by have:=hr j e.symm; omega)).trans (h.block j hj hne)⟩
structure OwnRows (w:World) (base:Nat) (A:Option Addr) (c:Nat) (vs:List Value) (rows:List (List Int)):Prop where
 len:vs.length=rows.length
 own:w.ownsRow base 94 1 (.slice A rows.length c) rows.length vs
 each:∀ (j:Nat) v xs,vs[j]? = some v->rows[j]? = some xs->∃ a k,v=.slice a xs.length k/\xs.length<=k/\k<=9223372036854775807/\w.ownsRow 0 3 1 (.slice a xs.length k) xs.length (xs.map (.int .i64))
theorem OwnRows.nil (w:World) (base:Nat):OwnRows w base none 0 [] []:=⟨rfl,World.ownsRow_nil _ _ _ _,fun j v f h=>by simp at h⟩
theorem own_apart {w:World} {base base' size size' n n':Nat} {e e':TypeId} {v V:Value} {xs xs':List Value} (h:w.ownsRow base e size v n xs) (k:w.ownsRow base' e' size' V n' xs') (he:e ≠ e'):v.ownBlock=none\/v.ownBlock ≠ V.ownBlock:=by
 rcases h.2 with ⟨rfl,_⟩ | ⟨g,cap,cur,rfl,_,hg,_⟩
 ·exact .inl rfl
 ·right
  have:=own_ne k hg he
  exact this
theorem OwnRows.below {w w':World} {base:Nat} {A:Option Addr} {c:Nat} {vs:List Value} {rows:List (List Int)} (h:OwnRows w base A c vs rows) (hb:Below w.heap.size w w'):OwnRows w' base A c vs rows :=
 ⟨h.len,own_below h.own hb,fun j v f h1 h2=>by
  obtain ⟨a,k,e,h3,h4,h5⟩:=h.each j v f h1 h2
  exact ⟨a,k,e,h3,h4,own_below h5 hb⟩⟩
theorem OwnRows.blk {w w':World} {base g:Nat} {A:Option Addr} {c:Nat} {vs cs:List Value} {rows:List (List Int)} {T:TypeId} (h:OwnRows w base A c vs rows) (k:Blk w g T cs) (h1:T ≠ 94) (h2:T ≠ 3) (hg:w.grownBy w' (some g)):OwnRows w' base A c vs rows :=
 ⟨h.len,h.own.kept hg (.inr (own_ne h.own k h1).symm),fun j v f q1 q2=>by
  obtain ⟨a,k',e,h3,h4,h5⟩:=h.each j v f q1 q2
  exact ⟨a,k',e,h3,h4,h5.kept hg (.inr (own_ne h5 k h2).symm)⟩⟩
theorem OwnRows.push {w w':World} {base:Nat} {A:Option Addr} {c:Nat} {vs:List Value} {rows:List (List Int)} (h:OwnRows w base A c vs rows) {xs:List Int} {a:Option Addr} {k:Nat} (h1:xs.length<=k) (h2:k<=9223372036854775807) (hf:w.ownsRow 0 3 1 (.slice a xs.length k) xs.length (xs.map (.int .i64))) {A':Option Addr} {c':Nat}
  (hown:w'.ownsRow base 94 1 (.slice A' (rows.length+1) c') (rows.length+1) (vs ++ [.slice a xs.length k])) (hg:w.grownBy w' (Value.slice A rows.length c).ownBlock):OwnRows w' base A' c' (vs ++ [.slice a xs.length k]) (rows ++ [xs]):=by
 have hl:(rows ++ [xs]).length=rows.length+1:=by simp
 refine ⟨by rw [List.length_append,h.len,hl]; rfl,by rw [hl]; exact hown,fun j v g hj1 hj2=>?_⟩
 by_cases hj:j < rows.length
 ·rw [List.getElem?_append_left (by rw [h.len]; exact hj)] at hj1
  rw [List.getElem?_append_left hj] at hj2
  obtain ⟨a',k',e,h3,h4,h5⟩:=h.each j v g hj1 hj2
  exact ⟨a',k',e,h3,h4,h5.kept hg (own_apart h5 h.own (by decide))⟩
 ·have hj3:j=rows.length:=by
   have:=(List.getElem?_eq_some_iff.1 hj2).1
   rw [hl] at this
   omega
  subst hj3
  rw [List.getElem?_append_right (by rw [h.len]; exact Nat.le_refl _),h.len,Nat.sub_self] at hj1
  rw [List.getElem?_append_right (Nat.le_refl _),Nat.sub_self] at hj2
  injection hj1 with hj1
  injection hj2 with hj2
  subst hj1 hj2
  exact ⟨a,k,rfl,h1,h2,hf.kept hg (own_apart hf h.own (by decide))⟩
theorem OwnRows.at_ {w:World} {base:Nat} {A:Option Addr} {c:Nat} {vs:List Value} {rows:List (List Int)} (h:OwnRows w base A c vs rows):Row w w.heap.size A vs/\RowsAt w w.heap.size vs rows :=
 ⟨Row.of_own h.own,h.len,fun j v xs h1 h2=>by
  obtain ⟨a,k,e,h3,h4,h5⟩:=h.each j v xs h1 h2
  exact ⟨a,k,e,h3,h4,Row.of_own h5⟩⟩
noncomputable def backR (size:Nat) (s:SampV):List (List Int):=s.rows.map fun d=>sampsZ (framesZ d size) (len0 s.rows:Nat)
def UnpackP (W:World) (size:Nat) (s:SampV) (e:Ending) (w':World):Prop :=
 ∃ A c vs,e=.returned (.tuple #[.agg #[.string s.name,.int .i64 s.rate,.bool s.lp,.int .i64 s.f,.int .i64 s.t,.slice A s.rows.length c],.int .i64 0])/\s.rows.length<=c/\c<=9223372036854775807/\Row w' w'.heap.size A vs/\RowsAt w' w'.heap.size vs (backR size s)/\Below W.heap.size W w'
theorem Unpack_good {size:Nat} {SS:List SampV} (h:CanP size SS) (g:Nat) {m:Nat} {s:SampV} (hs:SS[m]? = some s) (w:World) (hB:BankAt w g (packZ size SS) size (packDir size SS)) :
  Calls Tryz.prog 55 #[.pointer (some ⟨g,0,none⟩),.int .i64 m] w (UnpackP w size s):=by
 obtain ⟨iR,hiR,hzR0,hzR1,hzR2⟩:=info_parts inf_rows
 obtain ⟨e1,e2⟩:=packDir_at (size:=size) hs
 obtain ⟨c1,c2,c3,c4⟩:=h.ch_bd hs
 have hm64:m < 64:=by have:=h.many; have:=(List.getElem?_eq_some_iff.1 hs).1; omega
 obtain ⟨w0,hw0⟩:∃ w0,w.alloc (.cells #[.string ⟨#[]⟩,.int .i64 0,.bool false,.int .i64 0,.int .i64 0,.slice none 0 0] 92)=w0:=⟨_,rfl⟩
 have B0:=hid (show Below w.heap.size w w0 by rw [<-hw0]; exact bnew w _)
 have X0:=hid (show Blk w0 w.heap.size 92 [.string ⟨#[]⟩,.int .i64 0,.bool false,.int .i64 0,.int .i64 0,.slice none 0 0] by rw [<-hw0]; exact Blk.new w _ _)
 have HMe:=hid (show Calls Tryz.prog 36 #[.pointer (some ⟨g,0,none⟩),.int .i64 m] w0 (fun e w'=>e=.returned (.tuple #[.agg (plc size (SS.map metaOf) m (metaOf s)).cells.toArray,.int .i64 0])/\Below w0.heap.size w0 w') from by
  have hh:=BMeta_any g size (packZ size SS) (packDir size SS) m w0 (hB.later B0.out) (by have:=h.lo; omega) (by rw [packDir_len]; have:=h.many; omega)
  rwa [e1,e2] at hh)
 have HWh:=hid (fun (k:Nat) d (hd:s.rows[k]? = some d) W (hW:Below w.heap.size w W)=>Whole_good h g hs hd W (hB.later hW))
 have hpl:plc size (SS.map metaOf) m (metaOf s)=⟨s.name,(len0 s.rows:Nat),s.rate,(s.rows.length:Nat),s.lp,s.f,s.t,(plc size (SS.map metaOf) m (metaOf s)).sums,(plc size (SS.map metaOf) m (metaOf s)).first⟩:=rfl
 rw [hpl] at HMe
 simp only [MetaV.cells] at HMe
 generalize (plc size (SS.map metaOf) m (metaOf s)).sums=s0 at *
 generalize (plc size (SS.map metaOf) m (metaOf s)).first=f0 at *
 have HUn:=hid (show ∀ e w',(∃ A c vs,e=.returned (.tuple #[.agg #[.string s.name,.int .i64 s.rate,.bool s.lp,.int .i64 s.f,.int .i64 s.t,.slice A s.rows.length c],.int .i64 0])/\s.rows.length<=c/\c<=9223372036854775807/\Row w' w'.heap.size A vs/\RowsAt w' w'.heap.size vs (backR size s)/\Below w.heap.size w w')->UnpackP w size s e w' from fun _ _ h=>h)
 unfold WholeP at HWh
 have hbl:(backR size s).length=s.rows.length:=List.length_map _
 have HTk:=hid (fun (k:Nat) d (hd:s.rows[k]? = some d)=>(show (backR size s).take (k+1)=(backR size s).take k ++ [sampsZ (framesZ d size) (len0 s.rows:Nat)] from by
  rw [List.take_add_one]
  unfold backR
  rw [List.getElem?_map,hd]
  rfl))
 have HTn:=hid (show (backR size s).take s.rows.length=backR size s from List.take_of_length_le (by omega))
 have HTl:=hid (fun k (hk:k<=s.rows.length)=>(show ((backR size s).take k).length=k by rw [List.length_take]; omega))
 generalize UnpackP w size s=UP at *
 generalize backR size s=BR at *
 generalize len0 s.rows=len at *
 obtain ⟨nm,rate,lp,f,t,rows⟩:=s
 simp only at c1 c2 HMe HWh HTk HTn HTl HUn
 obtain ⟨R,hR⟩:∃ R,rows.length=R:=⟨_,rfl⟩
 have HR:=hid hR
 rw [hR] at c1 c2 HMe HTn HTl HUn
 have HFm:=hid (show (Tryz.prog.info? 27).map (·.size)=some 9 by kernel_rfl)
 clear hB h hs e1 e2 hpl hbl hR c3 c4
 go_enter Tryz.func55,Tryz.ntmps55
 go_wp2_with (go_at_call 36; fail)
 clear hw0
 refine HMe.out.mono ?_
 rintro e w1 ⟨rfl,hb1⟩
 obtain ⟨w2,hw2⟩:∃ w2,w1.alloc (.cells #[.string nm,.int .i64 len,.int .i64 rate,.int .i64 R,.bool lp,.int .i64 f,.int .i64 t,.int .i64 s0,.int .i64 f0] 27)=w2:=⟨_,rfl⟩
 have B2:=hid (show Below w.heap.size w w2 by rw [<-hw2]; exact bnext (bnext B0.out hb1) (bnew w1 _))
 have X2:=hid (show Blk w2 w1.heap.size 27 [.string nm,.int .i64 len,.int .i64 rate,.int .i64 R,.bool lp,.int .i64 f,.int .i64 t,.int .i64 s0,.int .i64 f0] by rw [<-hw2]; exact Blk.new w1 _ _)
 have Z2:=hid (show Blk w2 w.heap.size 92 [.string ⟨#[]⟩,.int .i64 0,.bool false,.int .i64 0,.int .i64 0,.slice none 0 0] by rw [<-hw2]; exact (X0.out.below hb1 X0.out.lt).alloc _)
 have Hz1:=hid (show w.heap.size < w1.heap.size by have:=hb1.size; have:=X0.out.lt; omega)
 have Hz2:=hid (show w2.heap.size=w1.heap.size+1 by rw [<-hw2]; simp)
 have k0:=X2.out.cell 0
 have k2:=X2.out.cell 2
 have k3:=X2.out.cell 3
 have k4:=X2.out.cell 4
 have k5:=X2.out.cell 5
 have k6:=X2.out.cell 6
 obtain ⟨w3,hw3⟩:∃ w3,w2.alloc (.cells #[.string nm,.int .i64 rate,.bool lp,.int .i64 f,.int .i64 t,.slice none 0 0] 92)=w3:=⟨_,rfl⟩
 have B3:=hid (show Below w.heap.size w w3 by rw [<-hw3]; exact bnext B2.out (bnew w2 _))
 have X3:=hid (show Blk w3 w1.heap.size 27 [.string nm,.int .i64 len,.int .i64 rate,.int .i64 R,.bool lp,.int .i64 f,.int .i64 t,.int .i64 s0,.int .i64 f0] by rw [<-hw3]; exact X2.out.alloc _)
 have Z3:=hid (show Blk w3 w.heap.size 92 [.string ⟨#[]⟩,.int .i64 0,.bool false,.int .i64 0,.int .i64 0,.slice none 0 0] by rw [<-hw3]; exact Z2.out.alloc _)
 have Y3:=hid (show Blk w3 w2.heap.size 92 [.string nm,.int .i64 rate,.bool lp,.int .i64 f,.int .i64 t,.slice none 0 0] by rw [<-hw3]; exact Blk.new w2 _ _)
 have Hz3:=hid (show w3.heap.size=w2.heap.size+1 by rw [<-hw3]; simp)
 have j3:w3.cell? ⟨w1.heap.size,3,none⟩=some (.int .i64 R):=X3.out.cell 3
 have Hw3:=hid hw3
 rw [<-hw3] at j3
 clear hb1 HMe hw3
 go_wp2_with fail
 rw [Hw3.out]
 go_loopw [35] (fun i wr=>∃ (n:Nat) (A':Option Addr) (c':Nat) (vs:List Value),n<=R/\i=.int .i64 n/\Blk wr w2.heap.size 92 [.string nm,.int .i64 rate,.bool lp,.int .i64 f,.int .i64 t,.slice A' n c']/\OwnRows wr w3.heap.size A' c' vs (BR.take n) /\
   w3.grownBy wr (some w2.heap.size)) (fun i _=>R - (intOf i).toNat)
 case atStart=>exact ⟨0,none,0,[],by omega,rfl,Y3.out,OwnRows.nil _ _,World.grownBy.refl _ _⟩
 case round =>
  obtain ⟨n,A',c',vs,hn,rfl,hbk,hrs,hgr⟩:=hrel
  have HY:=hid hbk
  have HF:=hid hrs
  have HG:=hid hgr
  clear hbk hrs hgr
  obtain ⟨wa,rfl⟩:∃ wa,wa=wr:=⟨_,rfl⟩
  have HLn:=hid (HTl.out n hn)
  have Ba:=hid (show Below w.heap.size w wa from B3.out.grown HG.out (by have:=B3.out.size; omega) (fun k hk=>by injection hk with hk; have:=Hz1.out; have:=Hz2.out; omega))
  by_cases hlt':n < R
  ·have u0:(n:Int) < (R:Int):=by omega
   obtain ⟨d,hd⟩:∃ d,rows[n]? = some d:=⟨_,List.getElem?_eq_getElem (by rw [HR.out]; exact hlt')⟩
   have HW:=hid (HWh.out n d hd wa Ba.out)
   have HT:=hid (HTk.out n d hd)
   generalize sampsZ (framesZ d size) (len:Nat)=xs at *
   clear hd
   go_wp2_with (go_at_call 107; fail)
   refine HW.out.mono ?_
   rintro e w5 ⟨Ab,cb,rfl,hcb1,hcb2,hownb,hb5⟩
   have E5:=hid hb5
   have Y5:=hid (HY.out.below hb5 HY.out.lt)
   have F5:=hid (HF.out.below hb5)
   have G5:=hid (grownBy_below HG.out hb5)
   have O5:=hid (own_more hownb (Nat.zero_le _))
   have own5:=F5.out.own
   rw [HLn.out] at own5
   have Own5:=hid own5
   have y5:=Y5.out.cell 5
   have hs5:=hb5.size
   have hsG:=HG.out.size
   clear hownb hb5 own5 HW
   go_wp2_with (at_builtin; refine wpList_app _ rfl (.tmp 50) (.tmp 52) 90 rfl w3.heap.size 94 iR (.slice none 0 0) 1 24 Tryz.underlying90 hiR hzR0 hzR1 hzR2 rfl (by omega) (.slice A' n c') n vs rfl (Own5.out.alloc _) (w5.heap.size+1) (some ⟨w5.heap.size,0,none⟩) 1 1 [.slice Ab xs.length cb] rfl rfl (Row.new w5 _ [.slice Ab xs.length cb]) (fun u hu=>by rw [List.mem_singleton] at hu; rw [hu]; rfl) (by omega) (by omega) (by simp; omega) ?_; intro A9 c9 w9 hown9 hgr9 hat9 hcc9; have X9:=hid (Blk.grown (Y5.out.alloc (.cells #[.slice Ab xs.length cb] 94)) hgr9 (own_ne (Own5.out.alloc _) (Y5.out.alloc (.cells #[.slice Ab xs.length cb] 94)) (by decide))); have z9:=X9.out.cell 5; have f9:=blk_free X9.out 5)
   go_roundw
   case rel =>
    have h1:=F5.out.below (bnew w5 (.cells #[.slice Ab xs.length cb] 94))
    have h2:=h1.push hcb1 hcb2 (O5.out.alloc _) (A':=A9) (c':=c9) (by rw [HLn.out]; exact hown9) (by rw [HLn.out]; exact hgr9)
    rw [<-HT.out] at h2
    refine ⟨n+1,A9,c9,vs ++ [.slice Ab xs.length cb],by omega,by go_num,Blk.set_ X9.out 5 (.slice A9 (n+1) c9),h2.blk X9.out (by decide) (by decide) (grownBy_setB (World.grownBy.refl _ _) _ _),?_⟩
    exact grownBy_setB (grownBy_fresh (grownBy_allocR G5.out _) hgr9 (fun k hk=>own_block_ge Own5.out k hk)) _ _
   case measure=>first | (simp [intOf]; done) | (simp [intOf]; omega)
  ·have hnR:n=R:=by omega
   subst hnR
   have u0:¬ ((n:Int) < (n:Int)):=by omega
   have Za:=hid (Z3.out.grown HG.out (fun e=>by have e:=Option.some.inj e; have:=Hz1.out; have:=Hz2.out; omega))
   have hrs:=HF.out
   rw [HTn.out] at hrs
   have HFq:=hid (show (Tryz.prog.info? 92).map (·.size)=some (#[.string nm,.int .i64 rate,.bool lp,.int .i64 f,.int .i64 t,.slice A' n c']:Array Value).size by kernel_rfl)
   have HYh:=hid (show wa.heap[w2.heap.size]? = some (.cells #[.string nm,.int .i64 rate,.bool lp,.int .i64 f,.int .i64 t,.slice A' n c'] 92 (0,0)) from HY.out)
   have HZh:=hid (show wa.heap[w.heap.size]? = some (.cells #[.string ⟨#[]⟩,.int .i64 0,.bool false,.int .i64 0,.int .i64 0,.slice none 0 0] 92 (0,0)) from Za.out)
   have H1c:=hid (show (#[.string nm,.int .i64 rate,.bool lp,.int .i64 f,.int .i64 t,.slice A' n c']:Array Value).all (·.oneCell')=true by simp [Value.oneCell'])
   have hfin:=hrs.blk Za.out (by decide) (by decide) (grown_row2 (World.grownBy.refl wa (some w.heap.size)) #[.string nm,.int .i64 rate,.bool lp,.int .i64 f,.int .i64 t,.slice A' n c'])
   have Hfin:=hid hfin
   have Hlc:=hid (own_len hrs.own)
   have Hcm:=hid (own_cap hrs.own)
   have Hbl:=hid (show BR.length=n by rw [<-HLn.out,HTn.out])
   have Bz:=hid (setRow_below Ba.out w.heap.size (Nat.le_refl _) #[.string nm,.int .i64 rate,.bool lp,.int .i64 f,.int .i64 t,.slice A' n c'])
   clear hrs hfin
   go_wp2_with (first | (refine wpList_load_row_w rfl 92 (.tmp 8) rfl w2.heap.size rfl _ #[.string nm,.int .i64 rate,.bool lp,.int .i64 f,.int .i64 t,.slice A' n c'] _ _ HYh.out Tryz.underlying92 rfl HFq.out ?_) | (refine wpList_store_row_w rfl 92 (.tmp 4) (.tmp 56) rfl w.heap.size rfl _ _ #[.string nm,.int .i64 rate,.bool lp,.int .i64 f,.int .i64 t,.slice A' n c'] rfl HZh.out HFq.out (by rfl) H1c.out ?_))
   refine bodyPost_ret (v:=.tuple #[.agg #[.string nm,.int .i64 rate,.bool lp,.int .i64 f,.int .i64 t,.slice A' n c'],.int .i64 0]) (results_cell_tmp Tryz.results55 _ _ w.heap.size 92 #[.string nm,.int .i64 rate,.bool lp,.int .i64 f,.int .i64 t,.slice A' n c'] (0,0) _ _ rfl rfl (setRow_heap _ _ _ _ _ _ HZh.out) Tryz.underlying92 rfl HFq.out) rfl ?_
   refine HUn.out _ _ ⟨A',c',vs,rfl,by have:=Hlc.out; rw [Hbl.out] at this; exact this,Hcm.out,Hfin.out.at_.1,Hfin.out.at_.2,Bz.out⟩
end
section
open Go.RowKit Go.Lib
theorem share5 {Goal:Prop} {P:Nat->Nat->World->Prop} (G:Nat->Nat->World->Prop) (h2:(∀ a b c,P a b c->G a b c)->Goal) (h1:∀ a b c,P a b c->G a b c):Goal:=h2 h1
theorem find_at {D:List MetaV} (h:AscN D) {i:Nat} {x:MetaV} (hx:D[i]? = some x):findN D x.name=i/\findB D x.name=true:=by
 have hi:=(List.getElem?_eq_some_iff.1 hx).1
 have h1:findN D x.name=i:=findN_eq (by omega) (fun t y ht hy=>by
  have:=ascN_lt h hy (i - t - 1) x (by rw [show t+(i - t - 1)+1=i by omega]; exact hx)
  exact this) (fun t y ht hy=>by
  by_cases he:t=i
  ·subst he
   rw [hx] at hy
   injection hy with hy
   rw [<-hy]
   exact nameLt_irr _
  ·exact nameLt_asy (ascN_lt h hx (t - i - 1) y (by rw [show i+(t - i - 1)+1=t by omega]; exact hy)))
 refine ⟨h1,?_⟩
 unfold findB
 rw [h1,hx]
 exact decide_eq_true (cmpB_self _)
theorem CanP.ascN {size:Nat} {SS:List SampV} (h:CanP size SS):AscN (packDir size SS):=fun m x y hx hy=>by
 have hm:=(List.getElem?_eq_some_iff.1 hy).1
 rw [packDir_len] at hm
 obtain ⟨a,ha⟩:∃ a,SS[m]? = some a:=⟨_,List.getElem?_eq_getElem (by omega)⟩
 obtain ⟨b,hb⟩:∃ b,SS[m+1]? = some b:=⟨_,List.getElem?_eq_getElem hm⟩
 rw [packDir_get ha] at hx
 rw [packDir_get hb] at hy
 injection hx with hx
 injection hy with hy
 rw [<-hx,<-hy]
 exact h.asc m a b ha hb
theorem Parse_nil (w:World):Calls Tryz.prog 19 #[.slice none 0 0] w fun e w'=>e=.returned (.tuple #[.pointer none,.int .i64 2])/\Below w.heap.size w w':=by
 have hp:parseZ []=2:=if_pos (by show (0:Nat) < 20; omega)
 refine (Parse_any [] none 0 0 w rfl (Nat.le_refl _) (by omega) (by omega) (fun _=>rfl) (Row.none_ _ _ _) nofun).mono ?_
 rintro e w' (⟨_,he,hb⟩ | ⟨h,_⟩)
 ·rw [hp] at he
  exact ⟨he,hb⟩
 ·rw [hp] at h
  cases h
theorem back_row {size:Nat} {s:SampV} (h:Fine s) {k:Nat} {d:List Int} (hd:s.rows[k]? = some d):∃ y,(backR size s)[k]? = some y/\y.length=d.length/\(55<=size->size<=96->y=d):=by
 have hsm:=h.same d (List.mem_of_getElem? hd)
 refine ⟨sampsZ (framesZ d size) (len0 s.rows:Nat),?_,?_,fun h1 h2=>?_⟩
 ·unfold backR
  rw [List.getElem?_map,hd]
  rfl
 ·rw [<-hsm]
  exact samps_len2 size
 ·rw [<-hsm]
  exact samps_frames (h.good.2 d (List.mem_of_getElem? hd)).2 (by omega) (by omega)
theorem back_len0 {size:Nat} {s:SampV} (h:Fine s):(backR size s).length=s.rows.length/\len0 (backR size s)=len0 s.rows:=by
 refine ⟨List.length_map _,?_⟩
 obtain ⟨d,hd⟩:∃ d,s.rows[0]? = some d:=⟨_,List.getElem?_eq_getElem h.pos⟩
 obtain ⟨y,hy,hl,_⟩:=back_row (size:=size) h hd
 have e1:len0 s.rows=d.length:=by
  cases hr:s.rows with
  | nil=>rw [hr] at hd; cases hd
  | cons a r=>rw [hr] at hd; cases hd; rfl
 have e2:len0 (backR size s)=y.length:=by
  cases hr:backR size s with
  | nil=>rw [hr] at hy; cases hy
  | cons a r=>rw [hr] at hy; cases hy; rfl
 omega
theorem samp_lies {w:World} {B:Nat} {A:Option Addr} {M:List (HSamp × SampV)} (h:SampsAt w B A M) {m:Nat} {p:HSamp × SampV} (hp:M[m]? = some p):∃ b off vs,A=some ⟨b,off,none⟩/\b < B/\(∀ j v,([.string p.2.name,.int .i64 p.2.rate,.bool p.2.lp,.int .i64 p.2.f,.int .i64 p.2.t,.slice p.1.a p.2.rows.length p.1.cap]:List Value)[j]? = some v->w.cell? ⟨b,off+m*6+j,none⟩=some v)/\p.2.rows.length<=p.1.cap/\p.1.cap<=9223372036854775807/\Row w B p.1.a vs/\RowsAt w B vs p.2.rows:=by
 obtain ⟨⟨e1,e2,e3,e4,e5,e6⟩,h2,h3,vs,h4,h5⟩:=h.fits p (List.mem_of_getElem? hp)
 have hc:p.1.cells=[.string p.2.name,.int .i64 p.2.rate,.bool p.2.lp,.int .i64 p.2.f,.int .i64 p.2.t,.slice p.1.a p.2.rows.length p.1.cap]:=by
  unfold HSamp.cells
  rw [e1,e2,e3,e4,e5,e6]
 have h0:=head_get M hp 0 (by omega)
 obtain ⟨b,off,hA,hb,_⟩:=h.row (m*6+0) (.string p.2.name) (by rw [h0,hc]; rfl)
 refine ⟨b,off,vs,hA,hb,fun j v hv=>?_,h2,h3,h4,h5⟩
 have hj:j < 6:=(List.getElem?_eq_some_iff.1 hv).1
 have h1:=head_get M hp j hj
 rw [hc,hv] at h1
 obtain ⟨b',off',hA',_,hc'⟩:=h.row (m*6+j) v h1
 rw [hA] at hA'
 injection hA' with hA'
 injection hA' with e1 e2
 subst e1 e2
 rw [Nat.add_assoc]; exact hc'
theorem conv_row5 {w:World} {B b off n c:Nat} {xs:List Nat} (hn:xs.length=n) (h:Row w B (some ⟨b,off,none⟩) (u8s xs)):(convert 29 9 (.slice (some ⟨b,off,none⟩) n c)).run Tryz.prog w=.ok (.string (strOfNums (xs.map fun (x:Nat)=>(x:Int)))) w :=
 run_convert_bytes_arg (P:=Tryz.prog) w 29 5 Tryz.underlying29 Tryz.underlying5 b off n c (xs.map fun (x:Nat)=>(x:Int)) (by rw [List.length_map,hn]) (fun j hj=>by
  have h1:(u8s xs)[j]? = some (.int .u8 ((xs.getD j 0:Nat):Int)):=by
   rw [u8s_get (show xs[j]? = some (xs.getD j 0) by rw [List.getD_eq_getElem?_getD,List.getElem?_eq_getElem (by omega)]; rfl)]
  obtain ⟨b',o',hA,_,hc⟩:=h j _ h1
  injection hA with hA
  injection hA with e1 e2
  subst e1 e2
  have e:(xs.map fun (x:Nat)=>(x:Int)).getD j 0=((xs.getD j 0:Nat):Int):=by
   rw [List.getD_eq_getElem?_getD,List.getElem?_map,List.getElem?_eq_getElem (by omega),List.getD_eq_getElem?_getD,List.getElem?_eq_getElem (by omega)]
   rfl
  rw [hc,e]) 9 Tryz.underlying9
theorem below_drawn (w:World):Below w.heap.size w w.drew:=(Below.refl w.heap.size w).drew
theorem BankBack_walk (size:Int) (L0:List (HSamp × SampV)) (A0:Option Addr) (cap0:Nat) (w:World) (hs0:SampsAt w w.heap.size A0 L0) (hnm:∀ p ∈ L0,NameFits p) :
  Calls Tryz.prog 10 #[.int .i64 size,.slice A0 L0.length cap0] w fun e w'=>e=.returned (.bool true)/\Below w.heap.size w w':=by
 have HF:=hid (Few15_any L0 A0 cap0 w hs0 hnm)
 have HAw:=hid (fun W=>awake15_any W)
 generalize L0.length=n0 at *
 clear hs0 hnm
 go_enter Tryz.func10,Tryz.ntmps10
 go_wp2_with (go_at_call 48; fail)
 refine HF.out.mono ?_
 rintro e w1 ⟨A,cap,L,rfl,hl8,_,_,hnil,hs,hsm,hb1⟩
 have HPk:=hid (Pack_any size L A cap w1 hl8 hnil hs hsm)
 have HSo:=hid (fun W (hW:Below w1.heap.size w1 W)=>waveSort_any L A cap W (by omega) hnil (hs.later hW))
 unfold PackP at HPk
 unfold SortedPost at HSo
 obtain ⟨n,hn'⟩:∃ n,L.length=n:=⟨_,rfl⟩
 have hsl:(sortS (L.map (·.2))).length=n:=by rw [(sortS_perm _).length_eq,List.length_map,hn']
 rw [hn'] at HPk HSo ⊢
 generalize L.map (·.2)=ss at *
 generalize packE size ss=PE at *
 have B1:=hid hb1
 clear hn' hs hsm hb1 HF hnil hl8
 go_wp2_with (go_at_call 49; fail)
 refine HPk.out.mono ?_
 rintro e w2 ⟨hb2,⟨hne,rfl⟩ | ⟨rfl,sz,g,rfl,hcan,hg,hby,rfl⟩⟩
 ·have t1:(PE != 0)=true:=by rw [bne_iff_ne]; exact hne
  have B2:=hid (bnext B1.out hb2)
  have HPn:=hid (Parse_nil w2)
  clear hb2 hne HPk HSo hsl
  go_wp2_with (go_at_call 19; fail)
  refine HPn.out.mono ?_
  rintro e w3 ⟨rfl,hb3⟩
  have B3:=hid (bnext B2.out hb3)
  clear hb3 HPn
  go_wp2_with (go_at_call 15; refine (HAw.out _).mono ?_; rintro e w9 ⟨rfl,hb9⟩)
  go_ret
  exact ⟨rfl,bnext B3.out hb9⟩
 have B2:=hid (bnext B1.out hb2)
 have C2:=hid hb2
 have HPa:=hid (Parse_packed hcan g w2 hby)
 have hlen:=packZ_len hcan
 have hNb:=hcan.len_bd
 have Hcan:=hid hcan
 have Hby:=hid hby
 have hlo:=hcan.lo
 have hhi:=hcan.hi
 generalize sortS ss=SS at *
 obtain ⟨N,hNd⟩:∃ N,packLen sz SS=N:=⟨_,rfl⟩
 rw [hNd] at HPa hlen hNb ⊢
 have Hlen:=hid hlen
 have Hsl:=hid hsl
 have hn8:n<=8:=by have:=hcan.many; omega
 clear hcan hby hb2 HPk hg hNd hlen hsl
 go_wp2_with (go_at_call 19; fail)
 refine HPa.out.mono ?_
 rintro e w3 ⟨x,rfl,hx,hB,hb3⟩
 have D3:=hid hb3
 have C3:=hid (bnext C2.out hb3)
 have HB3:=hid hB
 have HS3:=hid (HSo.out w3 C3.out)
 clear hB hb3 hx HPa HSo
 go_wp2_with (go_at_call 50; fail)
 refine HS3.out.mono ?_
 rintro e w4 ⟨A3,c3,M,rfl,hM,_,_,_,hs4,hb4⟩
 have hMl:M.length=n:=by rw [<-Hsl.out,<-hM,List.length_map]
 have D4:=hid (bnext D3.out hb4)
 have HB4:=hid (HB3.out.later hb4)
 have HM:=hid hM
 have HMl:=hid hMl
 have HS4:=hid hs4
 have HD4:=hid (BDir_any HB4.out (by omega) (by rw [packDir_len,Hsl.out]; omega))
 unfold CopyP at HD4
 rw [packDir_len,Hsl.out] at HD4
 rw [hMl]
 clear hM hs4 hb4 hMl HS3
 go_wp2_with (go_at_call 24; fail)
 refine HD4.out.mono ?_
 rintro e w5 ⟨Ad,cd,rfl,_,_,_,hown,hb5⟩
 have D5:=hid (bnext D4.out hb5)
 have HB5:=hid (HB4.out.later hb5)
 have HS5:=hid (HS4.out.later hb5)
 have RD:=hid (Row.of_own hown)
 have Hy5:=hid (Hby.out.below D5.out Hby.out.lt)
 clear hown hb5 HD4 HS4 HB3 HB4
 obtain ⟨S,hS⟩:∃ S,strOfNums ((packZ sz SS).map fun (x:Nat)=>(x:Int))=S:=⟨_,rfl⟩
 have HS:=hid hS
 have CVb:=hid (fun W (hW:Below w5.heap.size w5 W)=>(show (convert 29 9 (.slice (some ⟨g,0,none⟩) N N)).run Tryz.prog W=.ok (.string S) W from by
  rw [<-HS.out]
  exact conv_row5 Hlen.out (bytes_at_row (Hy5.out.below hW Hy5.out.lt))))
 have cv0:=CVb.out w5.drew (below_drawn w5)
 have HSz:=hid (fun W (hW:Below w5.heap.size w5 W)=>BSize_any (HB5.out.later hW) (by omega))
 have HIm:=hid (show ∀ W,Below w5.heap.size w5 W->Calls Tryz.prog 52 #[.pointer (some ⟨x,0,none⟩)] W (fun e w'=>∃ (gy cy:Nat),e=.returned (.slice (some ⟨gy,0,none⟩) N cy)/\Row w' w'.heap.size (some ⟨gy,0,none⟩) (u8s (packZ sz SS))/\Below W.heap.size W w') from fun W hW=>by
  have h:=BImage_any (HB5.out.later hW) (by omega) (by rw [Hlen.out]; omega)
  rw [Hlen.out] at h
  refine h.mono ?_
  rintro e w' ⟨A,c,rfl,_,_,_,hown,hb⟩
  have hrow:=Row.of_own hown
  rcases hown.2 with ⟨_,h0⟩ | ⟨g',cap',_,hv0,_⟩
  ·omega
  ·injection hv0 with e1 _ e3
   subst e1 e3
   exact ⟨g',c,rfl,hrow,hb⟩)
 clear hS
 go_wp2_with fail
 refine share5 (P:=fun _ _ w6=>Below w5.heap.size w5 w6) ?G (fun KEY=>?main) ?rest
 case main =>
  refine wp_region_any (by kernel_rfl) ?_
  change wpAny _ _ _ _ _ _ _ (World.drew _)
  refine wpAny_take (i:=0) (v:=?_) rfl (by kernel_rfl) (by kernel_rfl) (by kernel_rfl) (fun _ _ _ h=>h) (Or.inl ⟨by rfl,?_⟩) ?_
  rotate_left
  ·intro w; go_simp; try (with_reducible rfl)
  simp only [Act.put,List.getElem_toArray,List.getElem_cons_zero,List.setIfInBounds_toArray,List.set_cons_succ,List.set_cons_zero]
  refine wpAny_take (i:=1) (v:=?_) rfl (by kernel_rfl) (by kernel_rfl) (by kernel_rfl) (fun _ _ _ h=>h) (Or.inl ⟨by rfl,?_⟩) ?_
  rotate_left
  ·intro w; go_simp; try (with_reducible rfl)
  simp only [Act.put,List.getElem_toArray,List.getElem_cons_succ,List.getElem_cons_zero,List.setIfInBounds_toArray,List.set_cons_succ,List.set_cons_zero]
  refine wpAny_take (i:=2) (v:=?_) rfl (by kernel_rfl) (by kernel_rfl) (by kernel_rfl) (fun _ _ _ h=>h) (Or.inl ⟨by rfl,?_⟩) ?_
  rotate_left
  ·intro w; go_simp; try (with_reducible rfl)
  simp only [Act.put,List.getElem_toArray,List.getElem_cons_succ,List.getElem_cons_zero,List.setIfInBounds_toArray,List.set_cons_succ,List.set_cons_zero]
  refine wpAny_take (i:=3) (v:=?_) rfl (by kernel_rfl) (by kernel_rfl) (by kernel_rfl) (fun _ _ _ h=>h) (Or.inl ⟨by rfl,?_⟩) ?_
  rotate_left
  ·intro w; go_simp; try (with_reducible rfl)
  simp only [Act.put,List.getElem_toArray,List.getElem_cons_succ,List.getElem_cons_zero,List.setIfInBounds_toArray,List.set_cons_succ,List.set_cons_zero]
  refine wpAny_take (i:=5) (v:=?_) rfl (by kernel_rfl) (by kernel_rfl) (by kernel_rfl) (fun _ _ _ h=>h) (Or.inl ⟨by rfl,?_⟩) ?_
  rotate_left
  ·intro w; go_simp; try (with_reducible rfl)
  simp only [Act.put,List.getElem_toArray,List.getElem_cons_succ,List.getElem_cons_zero,List.setIfInBounds_toArray,List.set_cons_succ,List.set_cons_zero]
  refine wpAny_ready (rs:=[4]) (by kernel_rfl) (by simp) ?_
  refine AllReady.cons rfl (fun K hK=>?_) AllReady.nil
  go_simp
  go_wp2_with (go_at_call 51; refine (HSz.out _ (below_drawn w5)).mono ?_; rintro e w' ⟨rfl,rfl⟩)
  refine wpAny_take (i:=6) (v:=?_) rfl (by kernel_rfl) (by kernel_rfl) (by kernel_rfl) (fun _ _ _ h=>h) (Or.inl ⟨by rfl,?_⟩) ?_
  rotate_left
  ·intro w; go_simp; try (with_reducible rfl)
  simp only [Act.put,List.getElem_toArray,List.getElem_cons_succ,List.getElem_cons_zero,List.setIfInBounds_toArray,List.set_cons_succ,List.set_cons_zero]
  refine wpAny_take (i:=7) (v:=?_) rfl (by kernel_rfl) (by kernel_rfl) (by kernel_rfl) (fun _ _ _ h=>h) (Or.inl ⟨by rfl,?_⟩) ?_
  rotate_left
  ·intro w; go_simp; try (with_reducible rfl)
  simp only [Act.put,List.getElem_toArray,List.getElem_cons_succ,List.getElem_cons_zero,List.setIfInBounds_toArray,List.set_cons_succ,List.set_cons_zero]
  refine wpAny_take (i:=8) (v:=?_) rfl (by kernel_rfl) (by kernel_rfl) (by kernel_rfl) (fun _ _ _ h=>h) (Or.inl ⟨by rfl,?_⟩) ?_
  rotate_left
  ·intro w; go_simp; try (with_reducible rfl)
  simp only [Act.put,List.getElem_toArray,List.getElem_cons_succ,List.getElem_cons_zero,List.setIfInBounds_toArray,List.set_cons_succ,List.set_cons_zero]
  refine wpAny_take (i:=9) (v:=?_) rfl (by kernel_rfl) (by kernel_rfl) (by kernel_rfl) (fun _ _ _ h=>h) (Or.inl ⟨by rfl,?_⟩) ?_
  rotate_left
  ·intro w; go_simp; try (with_reducible rfl)
  simp only [Act.put,List.getElem_toArray,List.getElem_cons_succ,List.getElem_cons_zero,List.setIfInBounds_toArray,List.set_cons_succ,List.set_cons_zero]
  refine wpAny_take (i:=10) (v:=?_) rfl (by kernel_rfl) (by kernel_rfl) (by kernel_rfl) (fun _ _ _ h=>h) (Or.inl ⟨by rfl,?_⟩) ?_
  rotate_left
  ·intro w; go_simp; try (with_reducible rfl)
  simp only [Act.put,List.getElem_toArray,List.getElem_cons_succ,List.getElem_cons_zero,List.setIfInBounds_toArray,List.set_cons_succ,List.set_cons_zero]
  refine wpAny_take (i:=11) (v:=?_) rfl (by kernel_rfl) (by kernel_rfl) (by kernel_rfl) (fun _ _ _ h=>h) (Or.inl ⟨by rfl,?_⟩) ?_
  rotate_left
  ·intro w; go_simp; try (with_reducible rfl)
  simp only [Act.put,List.getElem_toArray,List.getElem_cons_succ,List.getElem_cons_zero,List.setIfInBounds_toArray,List.set_cons_succ,List.set_cons_zero]
  refine wpAny_take (i:=12) (v:=?_) rfl (by kernel_rfl) (by kernel_rfl) (by kernel_rfl) (fun _ _ _ h=>h) (Or.inl ⟨by rfl,?_⟩) ?_
  rotate_left
  ·intro w; go_simp; try (with_reducible rfl)
  simp only [Act.put,List.getElem_toArray,List.getElem_cons_succ,List.getElem_cons_zero,List.setIfInBounds_toArray,List.set_cons_succ,List.set_cons_zero]
  refine wpAny_take (i:=13) (v:=?_) rfl (by kernel_rfl) (by kernel_rfl) (by kernel_rfl) (fun _ _ _ h=>h) (Or.inl ⟨by rfl,?_⟩) ?_
  rotate_left
  ·intro w; go_simp; try (with_reducible rfl)
  simp only [Act.put,List.getElem_toArray,List.getElem_cons_succ,List.getElem_cons_zero,List.setIfInBounds_toArray,List.set_cons_succ,List.set_cons_zero]
  refine wpAny_take (i:=14) (v:=?_) rfl (by kernel_rfl) (by kernel_rfl) (by kernel_rfl) (fun _ _ _ h=>h) (Or.inl ⟨by rfl,?_⟩) ?_
  rotate_left
  ·intro w; go_simp; try (with_reducible rfl)
  simp only [Act.put,List.getElem_toArray,List.getElem_cons_succ,List.getElem_cons_zero,List.setIfInBounds_toArray,List.set_cons_succ,List.set_cons_zero]
  refine wpAny_take (i:=15) (v:=?_) rfl (by kernel_rfl) (by kernel_rfl) (by kernel_rfl) (fun _ _ _ h=>h) (Or.inl ⟨by rfl,?_⟩) ?_
  rotate_left
  ·intro w; go_simp; try (with_reducible rfl)
  simp only [Act.put,List.getElem_toArray,List.getElem_cons_succ,List.getElem_cons_zero,List.setIfInBounds_toArray,List.set_cons_succ,List.set_cons_zero]
  refine wpAny_take (i:=16) (v:=?_) rfl (by kernel_rfl) (by kernel_rfl) (by kernel_rfl) (fun _ _ _ h=>h) (Or.inl ⟨by rfl,?_⟩) ?_
  rotate_left
  ·intro w; go_simp; try (with_reducible rfl)
  simp only [Act.put,List.getElem_toArray,List.getElem_cons_succ,List.getElem_cons_zero,List.setIfInBounds_toArray,List.set_cons_succ,List.set_cons_zero]
  refine wpAny_take (i:=19) (v:=?_) rfl (by kernel_rfl) (by kernel_rfl) (by kernel_rfl) (fun _ _ _ h=>h) (Or.inl ⟨by rfl,?_⟩) ?_
  rotate_left
  ·intro w; go_simp; try (with_reducible rfl)
  simp only [Act.put,List.getElem_toArray,List.getElem_cons_succ,List.getElem_cons_zero,List.setIfInBounds_toArray,List.set_cons_succ,List.set_cons_zero]
  refine wpAny_ready (rs:=[17,20]) (by kernel_rfl) (by simp) ?_
  refine AllReady.cons rfl (fun K hK=>?_) (AllReady.cons rfl (fun K hK=>?_) AllReady.nil)
  ·go_simp
   go_wp2_with (go_at_call 52; refine (HIm.out _ (below_drawn w5)).mono ?_; rintro e w6 ⟨gy,cy,rfl,hRy,hb6⟩; have E6:=hid (bnext (below_drawn w5) hb6); have cva:=conv_row5 (c:=cy) Hlen.out hRy; rw [HS.out] at cva; have cvb:=CVb.out w6 E6.out; clear hRy hb6)
   refine wpAny_ready (rs:=[18,20]) (by kernel_rfl) (by simp) ?_
   refine AllReady.cons rfl (fun K hK=>?_) (AllReady.cons rfl (fun K hK=>?_) AllReady.nil)
   ·go_simp
    refine hK _ _ ?_
    clear hK K
    refine wpAny_ready (rs:=[20]) (by kernel_rfl) (by simp) ?_
    refine AllReady.cons rfl (fun K hK=>?_) AllReady.nil
    go_simp
    refine hK _ _ ?_
    clear hK K
    refine wpAny_take (i:=21) (v:=?_) rfl (by kernel_rfl) (by kernel_rfl) (by kernel_rfl) (fun _ _ _ h=>h) (Or.inl ⟨by rfl,?_⟩) ?_
    rotate_left
    ·intro w; go_simp; try (with_reducible rfl)
    simp only [Act.put,List.getElem_toArray,List.getElem_cons_succ,List.getElem_cons_zero,List.setIfInBounds_toArray,List.set_cons_succ,List.set_cons_zero]
    refine wpAny_take (i:=22) (v:=?_) rfl (by kernel_rfl) (by kernel_rfl) (by kernel_rfl) (fun _ _ _ h=>h) (Or.inl ⟨by rfl,?_⟩) ?_
    rotate_left
    ·intro w; go_simp; try (with_reducible rfl)
    simp only [Act.put,List.getElem_toArray,List.getElem_cons_succ,List.getElem_cons_zero,List.setIfInBounds_toArray,List.set_cons_succ,List.set_cons_zero]
    refine wpAny_done (by kernel_rfl) ?_ _
    exact KEY gy cy w6 E6.out
   ·go_simp
    refine hK _ _ ?_
    clear hK K
    refine wpAny_ready (rs:=[18]) (by kernel_rfl) (by simp) ?_
    refine AllReady.cons rfl (fun K hK=>?_) AllReady.nil
    go_simp
    refine hK _ _ ?_
    clear hK K
    refine wpAny_take (i:=21) (v:=?_) rfl (by kernel_rfl) (by kernel_rfl) (by kernel_rfl) (fun _ _ _ h=>h) (Or.inl ⟨by rfl,?_⟩) ?_
    rotate_left
    ·intro w; go_simp; try (with_reducible rfl)
    simp only [Act.put,List.getElem_toArray,List.getElem_cons_succ,List.getElem_cons_zero,List.setIfInBounds_toArray,List.set_cons_succ,List.set_cons_zero]
    refine wpAny_take (i:=22) (v:=?_) rfl (by kernel_rfl) (by kernel_rfl) (by kernel_rfl) (fun _ _ _ h=>h) (Or.inl ⟨by rfl,?_⟩) ?_
    rotate_left
    ·intro w; go_simp; try (with_reducible rfl)
    simp only [Act.put,List.getElem_toArray,List.getElem_cons_succ,List.getElem_cons_zero,List.setIfInBounds_toArray,List.set_cons_succ,List.set_cons_zero]
    refine wpAny_done (by kernel_rfl) ?_ _
    exact KEY gy cy w6 E6.out
  ·go_simp
   refine hK _ _ ?_
   clear hK K
   refine wpAny_ready (rs:=[17]) (by kernel_rfl) (by simp) ?_
   refine AllReady.cons rfl (fun K hK=>?_) AllReady.nil
   go_simp
   go_wp2_with (go_at_call 52; refine (HIm.out _ (below_drawn w5)).mono ?_; rintro e w6 ⟨gy,cy,rfl,hRy,hb6⟩; have E6:=hid (bnext (below_drawn w5) hb6); have cva:=conv_row5 (c:=cy) Hlen.out hRy; rw [HS.out] at cva; have cvb:=CVb.out w6 E6.out; clear hRy hb6)
   refine wpAny_ready (rs:=[18]) (by kernel_rfl) (by simp) ?_
   refine AllReady.cons rfl (fun K hK=>?_) AllReady.nil
   go_simp
   refine hK _ _ ?_
   clear hK K
   refine wpAny_take (i:=21) (v:=?_) rfl (by kernel_rfl) (by kernel_rfl) (by kernel_rfl) (fun _ _ _ h=>h) (Or.inl ⟨by rfl,?_⟩) ?_
   rotate_left
   ·intro w; go_simp; try (with_reducible rfl)
   simp only [Act.put,List.getElem_toArray,List.getElem_cons_succ,List.getElem_cons_zero,List.setIfInBounds_toArray,List.set_cons_succ,List.set_cons_zero]
   refine wpAny_take (i:=22) (v:=?_) rfl (by kernel_rfl) (by kernel_rfl) (by kernel_rfl) (fun _ _ _ h=>h) (Or.inl ⟨by rfl,?_⟩) ?_
   rotate_left
   ·intro w; go_simp; try (with_reducible rfl)
   simp only [Act.put,List.getElem_toArray,List.getElem_cons_succ,List.getElem_cons_zero,List.setIfInBounds_toArray,List.set_cons_succ,List.set_cons_zero]
   refine wpAny_done (by kernel_rfl) ?_ _
   exact KEY gy cy w6 E6.out
 case rest =>
  intro gy cy w6 e6
  have E6:=hid e6
  clear e6
  have D6:=hid (bnext D5.out E6.out)
  have B6:=hid (bnext B2.out D6.out)
  have HB6:=hid (HB5.out.later E6.out)
  have HS6:=hid (HS5.out.later E6.out)
  have RD6:=hid (RD.out.later E6.out)
  clear cv0 CVb HIm HS5 RD Hy5 Hby HS HSz HB5
  go_wp2_with fail
  go_loopw [11] (fun i wr=>∃ (m:Nat),m<=n/\i=.int .i64 m/\Below w6.heap.size w6 wr) (fun i _=>n - (intOf i).toNat)
  case atStart=>exact ⟨0,by omega,rfl,Below.refl _ _⟩
  case round =>
   obtain ⟨m,hm,rfl,hbel⟩:=hrel
   have Hbel:=hid hbel
   clear hbel
   obtain ⟨wa,rfl⟩:∃ wa,wa=wr:=⟨_,rfl⟩
   by_cases hmlt:m < n
   ·have t1:(m:Int) < (n:Int):=by omega
    have t2:(0:Int)<=(m:Int):=by omega
    obtain ⟨s,hs⟩:=list_get (k:=m) Hsl.out hmlt
    obtain ⟨p,hp⟩:=list_get (k:=m) HMl.out hmlt
    have hps:p.2=s:=by
     have h1:(M.map (·.2))[m]? = some p.2:=by rw [List.getElem?_map,hp]; rfl
     rw [HM.out,hs] at h1
     exact (Option.some.inj h1).symm
    have hfine:=Hcan.out.fine s (List.mem_of_getElem? hs)
    obtain ⟨c1,c2,c3',c4⟩:=Hcan.out.ch_bd hs
    obtain ⟨bD,oD,rfl,hbD,hcD⟩:=meta_at RD6.out (packDir_get hs)
    obtain ⟨bS,oS,vs,rfl,hbS,hcS,hl1,hl2,hrS,hmS⟩:=samp_lies HS6.out hp
    rw [hps] at hcS hl1 hmS
    have Hfd:=hid (find_at Hcan.out.ascN (packDir_get (size:=sz) hs))
    have HFi:=hid (fun W (hW:Below w6.heap.size w6 W)=>(show Calls Tryz.prog 33 #[.pointer (some ⟨x,0,none⟩),.string s.name] W (fun e w'=>e=.returned (.tuple #[.int .i64 (m:Nat),.bool true])/\Below W.heap.size W w') from by
     have h:=Find_any x sz (packZ sz SS) (packDir sz SS) s.name W (HB6.out.later hW) (by omega) (by rw [packDir_len,Hsl.out]; omega) Hcan.out.ascN
     have h2:=Hfd.out
     rw [show (plc sz (SS.map metaOf) m (metaOf s)).name=s.name from rfl] at h2
     rwa [h2.1,h2.2] at h))
    have HBd:=hid (fun W (hW:Below w6.heap.size w6 W)=>Bad_good Hcan.out x hs W (HB6.out.later hW))
    have HUp:=hid (fun W (hW:Below w6.heap.size w6 W)=>Unpack_good Hcan.out x hs W (HB6.out.later hW))
    have HFr:=hid (fun W=>bankFrames_any (plc sz (SS.map metaOf) m (metaOf s)) W ⟨show (0:Int)<=(len0 s.rows:Nat) by omega,show ((len0 s.rows:Nat):Int)<=1048576 by omega⟩ ⟨show (0:Int)<=(s.rows.length:Nat) by omega,show ((s.rows.length:Nat):Int)<=255 by omega⟩)
    have hfr:framesN (plc sz (SS.map metaOf) m (metaOf s))=((countN (len0 s.rows)*s.rows.length:Nat):Int):=by
     show countZ (len0 s.rows:Int)*(s.rows.length:Int)=_
     rw [countZ_N]; push_cast; rfl
    rw [hfr] at HFr
    have HBr:=hid (fun (k:Nat) d (hd:s.rows[k]? = some d)=>back_row (size:=sz) hfine hd)
    have HBl:=hid (back_len0 (size:=sz) hfine)
    have Hsame:=hid (fun (k:Nat) d (hd:s.rows[k]? = some d)=>hfine.same d (List.mem_of_getElem? hd))
    unfold UnpackP at HUp
    have hpl:plc sz (SS.map metaOf) m (metaOf s)=⟨s.name,(len0 s.rows:Nat),s.rate,(s.rows.length:Nat),s.lp,s.f,s.t,(plc sz (SS.map metaOf) m (metaOf s)).sums,(plc sz (SS.map metaOf) m (metaOf s)).first⟩:=rfl
    rw [hpl] at hcD HFr
    simp only [MetaV.cells] at hcD HFr
    generalize (plc sz (SS.map metaOf) m (metaOf s)).sums=s0 at *
    generalize (plc sz (SS.map metaOf) m (metaOf s)).first=f0 at *
    have HMt:=hid (fun W (hW:Below w6.heap.size w6 W)=>(show Calls Tryz.prog 53 #[.agg #[.string s.name,.int .i64 s.rate,.bool s.lp,.int .i64 s.f,.int .i64 s.t,.slice p.1.a s.rows.length p.1.cap]] W (fun e w'=>e=.returned (.agg #[.string s.name,.int .i64 (len0 s.rows:Nat),.int .i64 s.rate,.int .i64 (s.rows.length:Nat),.bool s.lp,.int .i64 s.f,.int .i64 s.t,.int .i64 0,.int .i64 0])/\Below W.heap.size W w') from
     Meta_any s.name s.rate s.lp s.f s.t p.1.a p.1.cap vs s.rows W s.rows.length rfl (hrS.later hW) (hmS.later hW)))
    have HMy:=hid (fun W A c vy (hrow:Row W W.heap.size A vy) (hrows:RowsAt W W.heap.size vy (backR sz s))=>(show Calls Tryz.prog 53 #[.agg #[.string s.name,.int .i64 s.rate,.bool s.lp,.int .i64 s.f,.int .i64 s.t,.slice A s.rows.length c]] W (fun e w'=>e=.returned (.agg #[.string s.name,.int .i64 (len0 s.rows:Nat),.int .i64 s.rate,.int .i64 (s.rows.length:Nat),.bool s.lp,.int .i64 s.f,.int .i64 s.t,.int .i64 0,.int .i64 0])/\Below W.heap.size W w') from by
     have h:=Meta_any s.name s.rate s.lp s.f s.t A c vy (backR sz s) W s.rows.length HBl.out.1 hrow hrows
     rw [HBl.out.2] at h
     exact h))
    have HXD:=hid (fun W (hW:Below w6.heap.size w6 W) j v (hv:([.string s.name,.int .i64 (len0 s.rows:Nat),.int .i64 s.rate,.int .i64 (s.rows.length:Nat),.bool s.lp,.int .i64 s.f,.int .i64 s.t,.int .i64 s0,.int .i64 f0]:List Value)[j]? = some v)=>(show W.cell? ⟨bD,oD+m*9+j,none⟩=some v from (hW.cell (p:=⟨bD,oD+m*9+j,none⟩) hbD).trans (hcD j v hv)))
    have HXS:=hid (fun W (hW:Below w6.heap.size w6 W) j v (hv:([.string s.name,.int .i64 s.rate,.bool s.lp,.int .i64 s.f,.int .i64 s.t,.slice p.1.a s.rows.length p.1.cap]:List Value)[j]? = some v)=>(show W.cell? ⟨bS,oS+m*6+j,none⟩=some v from (hW.cell (p:=⟨bS,oS+m*6+j,none⟩) hbS).trans (hcS j v hv)))
    have HrS:=hid hrS
    have HmS:=hid hmS
    generalize backR sz s=BR at *
    obtain ⟨nm,rate,lp,f,t,rows⟩:=s
    simp only at c1 c2 c3' c4 hl1 HFi HUp HFr HBr HBl Hsame HMt HMy HXD HXS HmS
    obtain ⟨a3,hpa⟩:∃ a3,p.1.a=a3:=⟨_,rfl⟩
    obtain ⟨k3,hpk⟩:∃ k3,p.1.cap=k3:=⟨_,rfl⟩
    rw [hpa] at HMt HXS HrS
    rw [hpk] at HMt HXS hl1 hl2
    obtain ⟨R,hR⟩:∃ R,rows.length=R:=⟨_,rfl⟩
    obtain ⟨len,hlen⟩:∃ len,len0 rows=len:=⟨_,rfl⟩
    have HR:=hid hR
    have HBl1:=hid (show BR.length=R by rw [<-hR]; exact HBl.out.1)
    rw [hR] at c1 c2 HUp HFr HMt HMy HXD HXS hl1
    rw [hlen] at c3' c4 HFr HMt HMy HXD Hsame
    obtain ⟨cz,hcz⟩:∃ cz,countN len=cz:=⟨_,rfl⟩
    rw [hcz] at HFr
    have hczb:cz<=65537:=by rw [<-hcz]; unfold countN; omega
    have hcq:(((len:Int)+15).tdiv 16)=(cz:Int):=by
     rw [Int.tdiv_eq_ediv_of_nonneg (by omega),<-hcz]
     unfold countN
     push_cast; omega
    obtain ⟨T,hT⟩:∃ T,cz*R=T:=⟨_,rfl⟩
    rw [hT] at HFr
    have hTb:T<=65537*2:=by rw [<-hT]; exact Nat.mul_le_mul hczb c2
    have hwl:IntKind.i64.wrap ((len:Int)+15)=(len:Int)+15:=IntWalk.i64_in _ (by omega)
    have hwq:IntKind.i64.wrap (((len:Int)+15).tdiv 16)=(cz:Int):=by rw [hcq]; exact IntWalk.i64_in _ (by omega)
    have hmq:(cz:Int)*(R:Int)=(T:Int):=by rw [<-hT]; push_cast; rfl
    have hwm:IntKind.i64.wrap (T:Int)=(T:Int):=IntWalk.i64_in _ (by omega)
    have HFm:=hid (show (Tryz.prog.info? 27).map (·.size)=some 9 by kernel_rfl)
    have HFq:=hid (show (Tryz.prog.info? 92).map (·.size)=some 6 by kernel_rfl)
    have HXa:=hid (fun j v hv=>HXD.out wa Hbel.out j v hv)
    have B7:=hid (show Below w6.heap.size w6 (wa.alloc (.cells #[.string nm,.int .i64 len,.int .i64 rate,.int .i64 R,.bool lp,.int .i64 f,.int .i64 t,.int .i64 0,.int .i64 0] 27)) from bnext Hbel.out (bnew wa _))
    have k0:(wa.alloc (.cells #[.string nm,.int .i64 len,.int .i64 rate,.int .i64 R,.bool lp,.int .i64 f,.int .i64 t,.int .i64 0,.int .i64 0] 27)).cell? ⟨bS,oS+m*6,none⟩=some (.string nm):=HXS.out _ B7.out 0 _ rfl
    have X7:=hid (heap_alloc_new wa (.cells #[.string nm,.int .i64 len,.int .i64 rate,.int .i64 R,.bool lp,.int .i64 f,.int .i64 t,.int .i64 0,.int .i64 0] 27))
    have HF7:=hid (HFi.out _ B7.out)
    clear hs hp hps hfine hbD hcD hbS hcS hrS hmS hpa hpk hR hlen hcz hcq hT hfr hpl HFi HBl Hfd
    go_wp2_with (first | (refine wpList_load_part_w rfl 27 (.tmp 78) rfl bD (oD+m*9) rfl [.string nm,.int .i64 len,.int .i64 rate,.int .i64 R,.bool lp,.int .i64 f,.int .i64 t,.int .i64 s0,.int .i64 f0] _ HXa.out Tryz.underlying27 rfl HFm.out ?_) | (go_at_call 33; fail))
    refine HF7.out.mono ?_
    rintro e w8 ⟨rfl,hb8⟩
    have E8:=hid (bnext B7.out hb8)
    have X8:=hid (hkeep X7.out hb8)
    have xm:∀ (z:GW w8),z.1.heap[wa.heap.size]? = some (.cells #[.string nm,.int .i64 len,.int .i64 rate,.int .i64 R,.bool lp,.int .i64 f,.int .i64 t,.int .i64 0,.int .i64 0] 27 (0,0)):=fun z=>hkeep X8.out z.2
    have x1:=fun (z:GW w8)=>(show z.1.cell? ⟨wa.heap.size,1,none⟩=some (.int .i64 len) from (cell_of_row _ _ _ _ _ _ (xm z)).trans rfl)
    have x3:=fun (z:GW w8)=>(show z.1.cell? ⟨wa.heap.size,3,none⟩=some (.int .i64 R) from (cell_of_row _ _ _ _ _ _ (xm z)).trans rfl)
    have ys:=hid (fun W (hW:∃ z:GW w8,W=z.1)=>HXS.out W (bnext E8.out (gw_below hW)))
    have yd:=hid (fun W (hW:∃ z:GW w8,W=z.1)=>HXD.out W (bnext E8.out (gw_below hW)))
    clear hb8 k0 HF7 X7
    go_wp2_with fail
    refine wp_region_calm (by kernel_rfl) (by kernel_rfl) ?_
    repeat (first | (go_big_quiet_want; refine quiet_load_row 27 (.tmp 12) rfl wa.heap.size rfl _ #[.string nm,.int .i64 len,.int .i64 rate,.int .i64 R,.bool lp,.int .i64 f,.int .i64 t,.int .i64 0,.int .i64 0] _ _ (by rintro _ ⟨z,rfl⟩; exact xm z) Tryz.underlying27 rfl HFm.out ?_; go_simp; go_big_quiet_on) | (go_big_quiet_want; refine quiet_load_part 92 (.tmp 95) rfl bS (oS+m*6) rfl [.string nm,.int .i64 rate,.bool lp,.int .i64 f,.int .i64 t,.slice a3 R k3] _ ys.out Tryz.underlying92 rfl HFq.out ?_; go_simp; go_big_quiet_on) | (go_big_quiet_want; refine quiet_load_part 27 (.tmp 118) rfl bD (oD+m*9) rfl [.string nm,.int .i64 len,.int .i64 rate,.int .i64 R,.bool lp,.int .i64 f,.int .i64 t,.int .i64 s0,.int .i64 f0] _ yd.out Tryz.underlying27 rfl HFm.out ?_; go_simp; go_big_quiet_on) | go_big_quiet_step ((first | (go_at_call 53; rename_i z; exact calm_call (HMt.out z.1 (bnext E8.out z.2))) | (go_at_call 54; rename_i z; exact calm_call (HBd.out z.1 (bnext E8.out z.2))) | (go_at_call 17; exact calm_call (HFr.out _)))))
    refine wpQuiet_nil ?_
    intro w9 hw'
    have E9:=hid (bnext E8.out (gw_below hw'))
    have HU9:=hid (HUp.out w9 E9.out)
    clear hw' xm x1 x3 ys yd X8 HUp HBd HFr
    go_wp2_with (go_at_call 55; fail)
    refine HU9.out.mono ?_
    rintro e w10 ⟨Ay,cy2,vy,rfl,hy1,hy2,hry,hmy,hb10⟩
    have HRy:=hid hry
    have HMry:=hid hmy
    obtain ⟨w11,hw11⟩:∃ w11,w10.alloc (.cells #[.string nm,.int .i64 rate,.bool lp,.int .i64 f,.int .i64 t,.slice Ay R cy2] 92)=w11:=⟨_,rfl⟩
    have F11:=hid (show Below w10.heap.size w10 w11 by rw [<-hw11]; exact bnew w10 _)
    have E11:=hid (bnext E9.out (bnext hb10 F11.out))
    have X11:=hid (show w11.heap[w10.heap.size]? = some (.cells #[.string nm,.int .i64 rate,.bool lp,.int .i64 f,.int .i64 t,.slice Ay R cy2] 92 (0,0)) by rw [<-hw11]; exact heap_alloc_new w10 _)
    have xs:∀ (z:GW w11),z.1.heap[w10.heap.size]? = some (.cells #[.string nm,.int .i64 rate,.bool lp,.int .i64 f,.int .i64 t,.slice Ay R cy2] 92 (0,0)):=fun z=>hkeep X11.out z.2
    have x5:=fun (z:GW w11)=>(show z.1.cell? ⟨w10.heap.size,5,none⟩=some (.slice Ay R cy2) from (cell_of_row _ _ _ _ _ _ (xs z)).trans rfl)
    have s5:=fun (z:GW w11)=>(show z.1.cell? ⟨bS,oS+m*6+5,none⟩=some (.slice a3 R k3) from HXS.out z.1 (bnext E11.out z.2) 5 _ rfl)
    have ys:=hid (fun W (hW:∃ z:GW w11,W=z.1)=>HXS.out W (bnext E11.out (gw_below hW)))
    have HMy11:=hid (fun (z:GW w11)=>HMy.out z.1 Ay cy2 vy ((HRy.out.later F11.out).later z.2) ((HMry.out.later F11.out).later z.2))
    clear hry hmy hb10 HU9 HMy
    go_wp2_with fail
    refine wp_region_calm (by kernel_rfl) (by kernel_rfl) ?_
    repeat (first | (go_big_quiet_want; refine quiet_load_row 92 (.tmp 15) rfl w10.heap.size rfl _ #[.string nm,.int .i64 rate,.bool lp,.int .i64 f,.int .i64 t,.slice Ay R cy2] _ _ (by rintro _ ⟨z,rfl⟩; exact xs z) Tryz.underlying92 rfl HFq.out ?_; go_simp; go_big_quiet_on) | (go_big_quiet_want; refine quiet_load_part 92 (.tmp 143) rfl bS (oS+m*6) rfl [.string nm,.int .i64 rate,.bool lp,.int .i64 f,.int .i64 t,.slice a3 R k3] _ ys.out Tryz.underlying92 rfl HFq.out ?_; go_simp; go_big_quiet_on) | go_big_quiet_step ((first | (go_at_call_of 53 (Value.agg #[.string nm,.int .i64 rate,.bool lp,.int .i64 f,.int .i64 t,.slice Ay R cy2]); rename_i z; exact calm_call (HMy11.out z)) | (go_at_call_of 53 (Value.agg #[.string nm,.int .i64 rate,.bool lp,.int .i64 f,.int .i64 t,.slice a3 R k3]); rename_i z; exact calm_call (HMt.out z.1 (bnext E11.out z.2))))))
    refine wpQuiet_nil ?_
    intro w12 hw'
    have F12:=hid (bnext F11.out (gw_below hw'))
    have E12:=hid (bnext E11.out (gw_below hw'))
    have X12:=hid (hkeep X11.out (gw_below hw'))
    clear hw' xs x5 s5 ys HMy11 HMt X11 F11
    go_wp2_with fail
    go_loopw [17] (fun i wr=>∃ (k:Nat),k<=R/\i=.int .i64 k/\Below w12.heap.size w12 wr) (fun i _=>R - (intOf i).toNat)
    case atStart=>exact ⟨0,by omega,rfl,Below.refl _ _⟩
    case round =>
     obtain ⟨k,hk,rfl,hbelk⟩:=hrel
     have Hbk:=hid hbelk
     clear hbelk
     obtain ⟨wb,rfl⟩:∃ wb,wb=wr:=⟨_,rfl⟩
     have x5:wb.cell? ⟨w10.heap.size,5,none⟩=some (.slice Ay R cy2):=(cell_of_row _ _ _ _ _ _ (hkeep X12.out Hbk.out)).trans rfl
     by_cases hlk:k < R
     ·have u1:(k:Int) < (R:Int):=by omega
      have u2:(0:Int)<=(k:Int):=by omega
      obtain ⟨d,hd⟩:=list_get (k:=k) HR.out hlk
      obtain ⟨y,hy,hyl,hy55⟩:=HBr.out k d hd
      have hdl:=Hsame.out k d hd
      have hyl2:y.length=len:=by omega
      obtain ⟨bY,oY,a1,k1,rfl,hbY,hcY,-,-,hrY⟩:=first_row HRy.out HMry.out hy
      obtain ⟨bZ,oZ,a2,k2,rfl,hbZ,hcZ,-,-,hrZ⟩:=first_row HrS.out HmS.out hd
      rw [hyl2] at hcY
      rw [hdl] at hcZ
      have HcY:=hid (fun W (hW:Below w12.heap.size w12 W)=>(show W.cell? ⟨bY,oY+k,none⟩=some (.slice a1 len k1) from ((bnext F12.out hW).cell (p:=⟨bY,oY+k,none⟩) hbY).trans hcY))
      have HcZ:=hid (fun W (hW:Below w12.heap.size w12 W)=>(show W.cell? ⟨bZ,oZ+k,none⟩=some (.slice a2 len k2) from ((bnext E12.out hW).cell (p:=⟨bZ,oZ+k,none⟩) hbZ).trans hcZ))
      have HrY:=hid (fun W (hW:Below w12.heap.size w12 W)=>hrY.later (bnext F12.out hW))
      have HrZ:=hid (fun W (hW:Below w12.heap.size w12 W)=>hrZ.later (bnext E12.out hW))
      have Hyl:=hid hyl2
      have Hdl:=hid hdl
      have Hy55:=hid hy55
      clear hd hy hyl hyl2 hdl hy55 hbY hcY hrY hbZ hcZ hrZ
      go_wp2_with fail
      go_loopw [18] (fun i wr=>∃ (j:Nat),j<=len/\i=.int .i64 j/\Below w12.heap.size w12 wr) (fun i _=>len - (intOf i).toNat)
      case atStart=>exact ⟨0,by omega,rfl,Hbk.out⟩
      case round =>
       obtain ⟨j,hj,rfl,hbelj⟩:=hrel
       have Hbj:=hid hbelj
       clear hbelj x5
       obtain ⟨wc,rfl⟩:∃ wc,wc=wr:=⟨_,rfl⟩
       have v5:wc.cell? ⟨w10.heap.size,5,none⟩=some (.slice (some ⟨bY,oY,none⟩) R cy2):=(cell_of_row _ _ _ _ _ _ (hkeep X12.out Hbj.out)).trans rfl
       have z5:wc.cell? ⟨bS,oS+m*6+5,none⟩=some (.slice (some ⟨bZ,oZ,none⟩) R k3):=HXS.out wc (bnext E12.out Hbj.out) 5 _ rfl
       have vY:=HcY.out wc Hbj.out
       have vZ:=HcZ.out wc Hbj.out
       by_cases hlj:j < len
       ·have q1:(j:Int) < (len:Int):=by omega
        have q2:(0:Int)<=(j:Int):=by omega
        obtain ⟨yv,hyv⟩:=list_get (k:=j) Hyl.out hlj
        obtain ⟨dv,hdv⟩:=list_get (k:=j) Hdl.out hlj
        obtain ⟨bA,oA,rfl,hbA,hcA⟩:=HrY.out wc Hbj.out j (.int .i64 yv) (by rw [List.getElem?_map,hyv]; rfl)
        obtain ⟨bB,oB,rfl,hbB,hcB⟩:=HrZ.out wc Hbj.out j (.int .i64 dv) (by rw [List.getElem?_map,hdv]; rfl)
        have g5:=fun (z:GW wc)=>(show z.1.cell? ⟨w10.heap.size,5,none⟩=some (.slice (some ⟨bY,oY,none⟩) R cy2) from (z.2.cell (p:=⟨w10.heap.size,5,none⟩) (hlt (hkeep X12.out Hbj.out))).trans v5)
        have h5:=fun (z:GW wc)=>(show z.1.cell? ⟨bS,oS+m*6+5,none⟩=some (.slice (some ⟨bZ,oZ,none⟩) R k3) from HXS.out z.1 (bnext E12.out (bnext Hbj.out z.2)) 5 _ rfl)
        have gY:=fun (z:GW wc)=>HcY.out z.1 (bnext Hbj.out z.2)
        have gZ:=fun (z:GW wc)=>HcZ.out z.1 (bnext Hbj.out z.2)
        have gA:=fun (z:GW wc)=>(show z.1.cell? ⟨bA,oA+j,none⟩=some (.int .i64 yv) from (z.2.cell (p:=⟨bA,oA+j,none⟩) hbA).trans hcA)
        have gB:=fun (z:GW wc)=>(show z.1.cell? ⟨bB,oB+j,none⟩=some (.int .i64 dv) from (z.2.cell (p:=⟨bB,oB+j,none⟩) hbB).trans hcB)
        clear hbA hcA hbB hcB
        by_cases h55:55<=sz
        ·have hyd:yv=dv:=by
          have e:=Hy55.out h55 hhi
          rw [e,hdv] at hyv
          exact (Option.some.inj hyv).symm
         subst hyd
         have d55:decide ((55:Int)<=(sz:Int))=true:=decide_eq_true (by omega)
         clear hyv hdv
         go_wp2_with fail
         refine wp_region_calm (by kernel_rfl) (by kernel_rfl) ?_
         repeat (go_big_quiet_step (fail))
         refine wpQuiet_nil ?_
         intro wd hw'
         have Bd:=hid (bnext Hbj.out (gw_below hw'))
         clear hw' g5 h5 gY gZ gA gB
         go_wp2_with fail
         go_roundw
         case rel=>exact ⟨j+1,by omega,by go_num,Bd.out⟩
         case measure=>first | (simp [intOf]; done) | (simp [intOf]; omega)
        ·have d55:decide ((55:Int)<=(sz:Int))=false:=decide_eq_false (by omega)
         clear hyv hdv
         go_wp2_with fail
         refine wp_region_calm (by kernel_rfl) (by kernel_rfl) ?_
         repeat (go_big_quiet_step (fail))
         refine wpQuiet_nil ?_
         intro wd hw'
         have Bd:=hid (bnext Hbj.out (gw_below hw'))
         clear hw' g5 h5 gY gZ gA gB
         go_wp2_with fail
         go_roundw
         case rel=>exact ⟨j+1,by omega,by go_num,Bd.out⟩
         case measure=>first | (simp [intOf]; done) | (simp [intOf]; omega)
       ·have hjl:j=len:=by omega
        subst hjl
        have q1:¬ ((j:Int) < (j:Int)):=by omega
        go_wp2_with fail
        go_roundw
        case rel=>exact ⟨k+1,by omega,by go_num,Hbj.out⟩
        case measure=>first | (simp [intOf]; done) | (simp [intOf]; omega)
     ·have hkR:k=R:=by omega
      subst hkR
      have u1:¬ ((k:Int) < (k:Int)):=by omega
      go_wp2_with fail
      go_roundw
      case rel=>exact ⟨m+1,by omega,by go_num,bnext E12.out Hbk.out⟩
      case measure=>first | (simp [intOf]; done) | (simp [intOf]; omega)
   ·have hmn:m=n:=by omega
    subst hmn
    have t1:¬ ((m:Int) < (m:Int)):=by omega
    go_wp2_with (go_at_call 15; refine (HAw.out _).mono ?_; rintro e w9 ⟨rfl,hb9⟩)
    go_ret
    exact ⟨rfl,bnext (bnext B6.out Hbel.out) hb9⟩
theorem BankBack_law (W:World) (v0 v1:Value) (a0:Arg W (.int .i64) v0) (a1:Arg W (.slice 6 sampTy) v1) :
  Calls Tryz.prog 10 #[v0,v1] W fun e w'=>e=.returned (.bool true)/\Below W.heap.size W w':=by
 obtain ⟨size,h0,_,_⟩:=a0
 obtain rfl:v0=.int .i64 size:=by simpa using h0
 obtain ⟨L,A,cap,rfl,_,_,_,hs,hn⟩:=samps_arg a1
 exact BankBack_walk size L A cap W hs hn
end
end Go.Proofs.YtgcfkblmnpnogaaGreatDoor
