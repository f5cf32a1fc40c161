/- ParS, BackP. Conditions: as each theorem states. -/
import Derived.Test.YtnbbfblaipjcmaaGreatDoorPv48
import Derived.Test.YtnbbfblaipjcmaaGreatDoorPv49
namespace Go.Proofs.YtnbbfblaipjcmaaGreatDoor
section
open Go.RowKit Go.Lib
noncomputable def gQ (D:List MetaV) (bs:List Nat) (i c b:Int) (B:List Nat):Int :=
 if bW D i c b ≠ 0 then bW D i c b else if lD B ≠ (fB D bs i c b:Nat) then 9 else if n7 B ≠ 0 then 4 else 0
noncomputable def kZ (D:List MetaV) (bs:List Nat) (i c b:Int) (B:List Nat):FrameV:=if gQ D bs i c b B=0 then rdF B else eR
theorem wP (B:List Nat):(rdF B).Len:=by
 unfold rdF
 split
 ·rename_i h
  have:RightF (eQ B):=by
   unfold n7 at h
   split at h
   ·rename_i h1; exact absurd h h1
   ·split at h
    ·assumption
    ·cases h
  exact this.len
 ·exact ⟨rfl,rfl,rfl,rfl⟩
theorem yI (w W:World) (er:Int) (hb:Below w.heap.size w W):mJ w eR er (.returned (.tuple #[.agg bK,.int .i64 er])) W:=⟨none,0,rfl,Nat.le_refl _,by omega,.inl rfl,Row.none_ _ _ _,hb⟩
set_option maxRecDepth 100000 in
set_option maxHeartbeats 16000000 in
theorem aAV (g size:Nat) (bs:List Nat) (D:List MetaV) (i c b:Int) (B:List Nat) (A:Option Addr) (cb:Nat) (w:World) (h:BankAt w g bs size D) (hf:FitB bs size D)
  (hn:B.length<=1000000) (hb:Byt B) (hr:Row w w.heap.size A (u8s B)) :
  Calls Tryz.prog 34 #[.pointer (some ⟨g,0,none⟩),.int .i64 i,.int .i64 c,.int .i64 b,.slice A B.length cb] w (mJ w (kZ D bs i c b B) (gQ D bs i c b B)):=by
 have HFz:=hid (show (Tryz.prog.info? 50).map (·.size)=some bK.size from bX)
 have Hz1:=hid (show bK.all (·.oneCell')=true by simp [bK,Value.oneCell'])
 obtain ⟨w1,hw1⟩:∃ w1,w.alloc (.cells bK 50)=w1:=⟨_,rfl⟩
 have B1:=hid (show Below w.heap.size w w1 by rw [<-hw1]; exact aL w _)
 have S1:=hid (show w1.heap[w.heap.size]? = some (.cells bK 50 (0,0)) by rw [<-hw1]; exact heap_alloc_new w _)
 have HW:=hid (IL g size bs D i c b w1 (h.later B1.out) hf)
 unfold sG at HW
 have HCr:=hid (fun W (hW:Below w.heap.size w W)=>pZ B A cb W (by omega) (hr.later hW))
 have HRd:=hid (fun W (hW:Below w.heap.size w W)=>XS B A cb W hn hb (hr.later hW))
 have HE:=hid (show gQ D bs i c b B=if bW D i c b ≠ 0 then bW D i c b else if lD B ≠ (fB D bs i c b:Nat) then 9 else if n7 B ≠ 0 then 4 else 0 from rfl)
 have HF:=hid (show kZ D bs i c b B=if gQ D bs i c b B=0 then rdF B else eR from rfl)
 have HLn:=hid (wP B)
 have hw1':w.alloc (.cells #[.int .i64 0,.int .i64 0,.int .i64 0,.int .i64 0,.slice none 0 0,.int .i64 0,.int .i64 0,.int .i64 0,.int .i64 0,.int .i64 0,.int .i64 0,.int .i64 0,.int .i64 0,.int .i64 0,.int .i64 0,.int .i64 0,.int .i64 0,.int .i64 0,.int .i64 0,.int .i64 0,.int .i64 0,.int .i64 0,.int .i64 0,.int .i64 0,.int .i64 0,.int .i64 0,.int .i64 0,.int .i64 0,.int .i64 0] 50)=w1:=hw1
 clear hw1 h hf hb hr
 generalize gQ D bs i c b B=OE at *
 generalize kZ D bs i c b B=OF at *
 generalize bW D i c b=E at *
 generalize bN D size i c b=AT at *
 generalize fB D bs i c b=V at *
 generalize lD B=C at *
 generalize n7 B=ER at *
 generalize rdF B=RF at *
 generalize B.length=nb at *
 by_cases q1:E=0
 rotate_left
 ·have t1:(E != 0)=true:=by rw [bne_iff_ne]; exact q1
  have h1:OE=E:=by rw [HE.out,if_pos q1]
  have h2:OF=eR:=by rw [HF.out,h1,if_neg q1]
  rw [h1,h2]
  clear h1 h2 HE HF q1
  go_enter Tryz.func34,Tryz.ntmps34
  go_wp2_with (go_at_call 35; fail)
  clear hw1'
  refine HW.out.mono ?_
  rintro e w2 ⟨rfl,hb2⟩
  have S2:=hid (aF S1.out hb2)
  have B2:=hid (aC B1.out hb2)
  clear hb2
  go_wp2_with (refine aA rfl 50 (.tmp 10) (.tmp 28) rfl w.heap.size rfl _ _ bK rfl S2.out HFz.out (by rfl) Hz1.out ?_)
  refine bodyPost_ret (v:=.tuple #[.agg bK,.int .i64 E]) (aU Tryz.results34 _ _ w.heap.size 50 bK (0,0) _ _ rfl rfl (setRow_heap _ _ _ _ _ _ S2.out) Tryz.underlying50 rfl HFz.out) rfl ?_
  exact yI w _ E (aO B2.out _ (Nat.le_refl _) _)
 subst q1
 by_cases q2:C=(V:Int)
 rotate_left
 ·have t2:(C != (V:Int))=true:=by rw [bne_iff_ne]; exact q2
  have h1:OE=9:=by rw [HE.out,if_neg (by simp),if_pos q2]
  have h2:OF=eR:=by rw [HF.out,h1]; rfl
  rw [h1,h2]
  clear h1 h2 HE HF q2
  go_enter Tryz.func34,Tryz.ntmps34
  go_wp2_with (go_at_call 35; fail)
  clear hw1'
  refine HW.out.mono ?_
  rintro e w2 ⟨rfl,hb2⟩
  have S2:=hid (aF S1.out hb2)
  have B2:=hid (aC B1.out hb2)
  clear hb2
  go_wp2_with (first | (go_at_call 92; refine (HCr.out _ B2.out).mono ?_; rintro e w3 ⟨rfl,rfl⟩) | (refine aA rfl 50 (.tmp 10) (.tmp 35) rfl w.heap.size rfl _ _ bK rfl S2.out HFz.out (by rfl) Hz1.out ?_))
  refine bodyPost_ret (v:=.tuple #[.agg bK,.int .i64 9]) (aU Tryz.results34 _ _ w.heap.size 50 bK (0,0) _ _ rfl rfl (setRow_heap _ _ _ _ _ _ S2.out) Tryz.underlying50 rfl HFz.out) rfl ?_
  exact yI w _ 9 (aO B2.out _ (Nat.le_refl _) _)
 subst q2
 have t2:((V:Int) != (V:Int))=false:=by simp
 go_enter Tryz.func34,Tryz.ntmps34
 go_wp2_with (go_at_call 35; fail)
 clear hw1'
 refine HW.out.mono ?_
 rintro e w2 ⟨rfl,hb2⟩
 have S2:=hid (aF S1.out hb2)
 have B2:=hid (aC B1.out hb2)
 clear hb2
 go_wp2_with (first | (go_at_call 92; refine (HCr.out _ B2.out).mono ?_; rintro e w3 ⟨rfl,rfl⟩) | (go_at_call 37; fail))
 refine (HRd.out _ B2.out).mono ?_
 rintro e w4 ⟨Af,cf,rfl,htl,hcf,hfr,hrow,hb4⟩
 have S4:=hid (aF S2.out hb4)
 have B4:=hid (aC B2.out hb4)
 obtain ⟨p,hp⟩:∃ p:FrH × FrameV,(⟨⟨Af,cf⟩,RF⟩:FrH × FrameV)=p:=⟨_,rfl⟩
 have hpf:p.2=RF:=by rw [<-hp]
 have hpc:aY RF (.slice Af RF.tones.length cf)=(frC p).toArray:=by rw [<-hp]; rfl
 rw [hpc]
 have HPc:=hid hpc
 have hpl:(frC p).length=29:=kI (by rw [hpf]; exact HLn.out)
 have Hp1:=hid (mL p)
 obtain ⟨fl,hfl⟩:∃ fl,frC p=fl:=⟨_,rfl⟩
 rw [hfl] at Hp1 hpl HPc ⊢
 have hfs:fl.toArray.size=29:=by rw [List.size_toArray,hpl]
 have Hfs:=hid hfs
 have HFf:=hid (show (Tryz.prog.info? 50).map (·.size)=some fl.toArray.size by rw [hfs]; exact bX)
 have Hf1:=hid (show fl.toArray.all (·.oneCell')=true by
  rw [Array.all_eq_true_iff_forall_mem]
  intro v hv
  exact Hp1.out v (by simpa using hv))
 have HZ2:=hid (show bK.size=fl.toArray.size by rw [hfs]; rfl)
 have B5:=hid (aC B4.out (aL w4 (.cells fl.toArray 50)))
 have S5:=hid (show (w4.alloc (.cells fl.toArray 50)).heap[w.heap.size]? = some (.cells bK 50 (0,0)) from (heap_alloc_old _ _ (hlt S4.out)).trans S4.out)
 have F5:=hid (heap_alloc_new w4 (.cells fl.toArray 50))
 have Htl:=hid htl
 have Hcf:=hid hcf
 have HR5:=hid (show Row ((w4.alloc (.cells fl.toArray 50)).setRow w.heap.size fl.toArray) ((w4.alloc (.cells fl.toArray 50)).setRow w.heap.size fl.toArray).heap.size Af (aW RF.tones) from
  lQ (hfr.imp id fun ⟨g',h1,h2⟩=>⟨g',h1,h2⟩) (hlt S2.out) fl.toArray (hrow.later (aL w4 _)))
 have Hfr:=hid (show RF.tones=[]\/∃ g',Af=some ⟨g',0,none⟩/\w.heap.size<=g' from hfr.imp id fun ⟨g',h1,h2⟩=>⟨g',h1,by have:=B2.out.size; omega⟩)
 clear htl hcf hfr hrow hb4 hp hpf hpc hpl hfl hfs
 by_cases q3:ER=0
 rotate_left
 ·have t3:(ER != 0)=true:=by rw [bne_iff_ne]; exact q3
  have h1:OE=4:=by rw [HE.out,if_neg (by simp),if_neg (by simp),if_pos q3]
  have h2:OF=eR:=by rw [HF.out,h1]; rfl
  have H1:=hid h1
  have H2:=hid h2
  clear h1 h2 HE HF q3
  go_wp2_with (first | (refine aA rfl 50 (.tmp 15) (.tmp 39) rfl w4.heap.size rfl _ _ fl.toArray rfl (heap_alloc_new w4 _) HFf.out (by rw [Hfs.out]; rfl) Hf1.out ?_; rw [World.setRow_alloc_new]) | (refine aA rfl 50 (.tmp 10) (.tmp 43) rfl w.heap.size rfl _ _ bK rfl S5.out HFz.out (by rfl) Hz1.out ?_))
  refine bodyPost_ret (v:=.tuple #[.agg bK,.int .i64 4]) (aU Tryz.results34 _ _ w.heap.size 50 bK (0,0) _ _ rfl rfl (setRow_heap _ _ _ _ _ _ S5.out) Tryz.underlying50 rfl HFz.out) rfl ?_
  rw [H1.out,H2.out]
  exact yI w _ 4 (aO B5.out _ (Nat.le_refl _) _)
 ·subst q3
  have h1:OE=0:=by rw [HE.out,if_neg (by simp),if_neg (by simp),if_neg (by simp)]
  have h2:OF=RF:=by rw [HF.out,h1,if_pos rfl]
  have H1:=hid h1
  have H2:=hid h2
  clear h1 h2 HE HF
  go_wp2_with (first | (refine aA rfl 50 (.tmp 15) (.tmp 39) rfl w4.heap.size rfl _ _ fl.toArray rfl (heap_alloc_new w4 _) HFf.out (by rw [Hfs.out]; rfl) Hf1.out ?_; rw [World.setRow_alloc_new]) | (refine aB rfl 50 (.tmp 15) rfl w4.heap.size rfl _ fl.toArray _ _ F5.out Tryz.underlying50 rfl HFf.out ?_) | (refine aA rfl 50 (.tmp 10) (.tmp 44) rfl w.heap.size rfl _ _ fl.toArray rfl S5.out HFf.out HZ2.out Hf1.out ?_))
  refine bodyPost_ret (v:=.tuple #[.agg fl.toArray,.int .i64 0]) (aU Tryz.results34 _ _ w.heap.size 50 fl.toArray (0,0) _ _ rfl rfl (setRow_heap _ _ _ _ _ _ S5.out) Tryz.underlying50 rfl HFf.out) rfl ?_
  rw [H1.out,H2.out]
  exact ⟨Af,cf,by rw [HPc.out],Htl.out,Hcf.out,Hfr.out,HR5.out,aO B5.out _ (Nat.le_refl _) _⟩
end
section
open Go.RowKit Go.Lib
section
variable {size : Nat} {SS : List SampV}
theorem ES {m:Nat} {s:SampV} (hs:SS[m]? = some s):fK (aH size SS) m=plc size (SS.map aM) m (aM s)/\jJ (aH size SS) m=0:=by
 have hm:=(List.getElem?_eq_some_iff.1 hs).1
 have hi:¬ ((m:Int) < 0\/((aH size SS).length:Int)<=(m:Int)):=by rw [fO]; omega
 constructor
 ·unfold fK
  rw [if_neg hi,Int.toNat_natCast,List.getD_eq_getElem?_getD,fM hs]
  rfl
 ·unfold jJ
  rw [if_neg hi]
theorem VD {m:Nat} {s:SampV} (hs:SS[m]? = some s) {c b:Int}:bW (aH size SS) m c b=if c < 0\/(s.rows.length:Int)<=c\/b < 0\/(aV (dV s.rows):Int)<=b then 5 else 0:=by
 obtain ⟨h1,h2⟩:=ES (size:=size) hs
 unfold bW
 rw [h1,h2,if_neg (by simp)]
 show (if c < 0\/(s.rows.length:Int)<=c\/b < 0\/dL (dV s.rows:Int)<=b then (5:Int) else 0)=_
 rw [C0]
theorem CanP.opened (h:CanP size SS) {m k q:Nat} {s:SampV} {d:List Int} {x:FrameV} (hs:SS[m]? = some s) (hd:s.rows[k]? = some d) (hx:(cO d size)[q]? = some x) :
  bW (aH size SS) m k q=0/\cA (bG size SS) (bN (aH size SS) size m k q).toNat size=aP x size/\gQ (aH size SS) (bG size SS) m k q (aP x size)=0/\kZ (aH size SS) (bG size SS) m k q (aP x size)=x:=by
 have hk:=(List.getElem?_eq_some_iff.1 hd).1
 have hq:=(List.getElem?_eq_some_iff.1 hx).1
 have hfine:=h.fine s (List.mem_of_getElem? hs)
 have hdm:=List.mem_of_getElem? hd
 rw [f7,hfine.same d hdm] at hq
 have hE:bW (aH size SS) m k q=0:=by rw [VD hs,if_neg (by omega)]
 obtain ⟨m',s',d',x',e1,e2,e3,e4,e5,e6⟩:=h.asked hE
 have e1:m=m':=by omega
 subst e1
 rw [hs] at e2
 injection e2 with e2
 subst e2
 rw [Int.toNat_natCast,hd] at e3
 injection e3 with e3
 subst e3
 rw [Int.toNat_natCast,hx] at e4
 injection e4 with e4
 subst e4
 have hR:=eS (hfine.good.2 d hdm).2 (size:=(size:Int)) (by have:=h.lo; omega) (by have:=h.hi; omega) x (List.mem_of_getElem? hx)
 obtain ⟨r1,r2⟩:=VL hR.1 (size:=size) hR.2
 obtain ⟨r3,r4⟩:=aDU r2 (by rw [r1]; exact hR.1)
 have hoe:gQ (aH size SS) (bG size SS) m k q (aP x size)=0:=by
  unfold gQ
  rw [hE,if_neg (by simp),if_neg (by rw [e6]; simp),r3,if_neg (by simp)]
 refine ⟨hE,e5,hoe,?_⟩
 unfold kZ
 rw [if_pos hoe,r4,r1]
end
end
end Go.Proofs.YtnbbfblaipjcmaaGreatDoor
