/- FetA, FetB, FetC, FetD, FetX, FetY, LawFC. Conditions: as each theorem states. -/
import Derived.Test.YtnbbfblaipjcmaaGreatDoorPt50
import Derived.Test.YtnbbfblaipjcmaaGreatDoorPt51
import Derived.Test.YtnbbfblaipjcmaaGreatDoorPt20
import Derived.Test.YtnbbfblaipjcmaaGreatDoorPt48
import Derived.Test.YtnbbfblaipjcmaaGreatDoorPt38
set_option maxRecDepth 100000
set_option maxHeartbeats 64000000
namespace Go.Proofs.YtnbbfblaipjcmaaGreatDoor
section
open Go.RowKit Go.Lib
theorem OnlyIn.below {S:List Nat} {w w':World} {B:Nat} (h:OnlyIn S w w') (hS:∀ x ∈ S,B<=x) (hB:B<=w.heap.size):Below B w w' :=
 ⟨h.os,h.tape,h.output,h.size,fun j hj=>h.block j (by omega) (fun hm=>by have:=hS j hm; omega)⟩
def FrmPost (w:World) (f:FrameV) (er:Int) (e:Ending) (w':World):Prop :=
 ∃ A c,e=.returned (.tuple #[.agg (frameA f (.slice A f.tones.length c)),.int .i64 er])/\f.tones.length<=c/\c<=9223372036854775807/\(f.tones=[]\/∃ g,A=some ⟨g,0,none⟩/\w.heap.size<=g)/\Row w' w'.heap.size A (toneCells f.tones)
theorem FrmPost.zero (w w':World) (er:Int):FrmPost w zeroFr er (.returned (.tuple #[.agg zeroF,.int .i64 er])) w':=⟨none,0,rfl,Nat.le_refl _,by omega,.inl rfl,Row.none_ _ _ _⟩
theorem subB_byt {bs:List Nat} (h:Byt bs) (o n:Nat):Byt (subB bs o n):=fun x hx=>by
 unfold subB at hx
 obtain ⟨j,_,rfl⟩:=List.mem_map.1 hx
 rw [List.getD_eq_getElem?_getD]
 cases hq:bs[o+j]? with
 | none=>show (0:Nat) < 256; omega
 | some z=>exact h z (List.mem_of_getElem? hq)
theorem openF_len (D:List MetaV) (bs:List Nat) (i c b:Int) (B:List Nat):(openF D bs i c b B).Len:=by
 unfold openF
 split
 ·exact rdF_len' B
 ·exact ⟨rfl,rfl,rfl,rfl⟩
structure FetchOk (wB w:World) (bs:List Nat) (size:Nat) (D:List MetaV) (gx gc gd gs gf:Nat) (Ai:Option Addr) (gm K:Nat) (rd:Int) (v:CacheV) (fr lo:Int):Prop where
 bank:BankAt wB gx bs size D
 fit:FitB bs size D
 even:bs.length % 64=0
 old:Below wB.heap.size wB w
 cN:wB.heap.size<=gc
 sN:wB.heap.size<=gs
 dN:wB.heap.size<=gd
 fN:wB.heap.size<=gf
 img:∀ ad,Ai=some ad->ad.block ≠ gf
 head:Blk w gf 44 [.pointer (some ⟨gc,0,none⟩),.pointer (some ⟨gx,0,none⟩),.int .i64 fr,.int .i64 lo]
 cache:CacheOk w bs gc gd gs Ai gm K rd v
 cnt:(0<=fr/\fr<=K)/\(0<=lo/\lo<=K)
theorem FetchOk.later {wB w w':World} {bs:List Nat} {size:Nat} {D:List MetaV} {gx gc gd gs gf:Nat} {Ai:Option Addr} {gm K:Nat} {rd:Int} {v:CacheV} {fr lo:Int} (h:FetchOk wB w bs size D gx gc gd gs gf Ai gm K rd v fr lo) (hb:Below w.heap.size w w'):FetchOk wB w' bs size D gx gc gd gs gf Ai gm K rd v fr lo :=
 ⟨h.bank,h.fit,h.even,bnext h.old hb,h.cN,h.sN,h.dN,h.fN,h.img,h.head.below hb h.head.lt,h.cache.later hb,h.cnt⟩
theorem FetchOk.bankAt {wB w:World} {bs:List Nat} {size:Nat} {D:List MetaV} {gx gc gd gs gf:Nat} {Ai:Option Addr} {gm K:Nat} {rd:Int} {v:CacheV} {fr lo:Int} (h:FetchOk wB w bs size D gx gc gd gs gf Ai gm K rd v fr lo):BankAt w gx bs size D:=h.bank.later h.old
theorem CacheOk.lts {w:World} {bs:List Nat} {gc gd gs:Nat} {Ai:Option Addr} {gm K:Nat} {rd:Int} {v:CacheV} (h:CacheOk w bs gc gd gs Ai gm K rd v):gc < w.heap.size/\gs < w.heap.size/\gd < w.heap.size/\gm < w.heap.size:=by
 obtain ⟨cd,hd⟩:=h.disk.blk
 exact ⟨h.cache.head.lt,h.cache.slots.lt,hd.lt,hlt h.disk.2.2⟩
theorem CacheOk.img_lt {w:World} {bs:List Nat} {gc gd gs:Nat} {Ai:Option Addr} {gm K:Nat} {rd:Int} {v:CacheV} (h:CacheOk w bs gc gd gs Ai gm K rd v) (h0:0 < bs.length):∀ ad,Ai=some ad->ad.block < w.heap.size:=fun ad had=>by
 obtain ⟨b0,hb0⟩:∃ b0,bs[0]? = some b0:=⟨_,List.getElem?_eq_getElem h0⟩
 obtain ⟨bi,oi,hA,hbi,_⟩:=h.disk.2.1 0 _ (u8s_get hb0)
 rw [hA] at had
 injection had with had
 rw [<-had]; exact hbi
theorem fetchNone_any {w:World} {gf gc gx:Nat} {fr lo:Int} (h:Blk w gf 44 [.pointer (some ⟨gc,0,none⟩),.pointer (some ⟨gx,0,none⟩),.int .i64 fr,.int .i64 lo]):Calls Tryz.prog 87 #[.pointer (some ⟨gf,0,none⟩)] w fun e w'=>e=.returned (.bool false)/\w=w':=by
 have c1:w.cell? ⟨gf,1,none⟩=some (.pointer (some ⟨gx,0,none⟩)):=(h.cell 1).trans rfl
 clear h
 go_enter Tryz.func87,Tryz.ntmps87
 go_wp2
 go_ret
 exact ⟨rfl,rfl⟩
def FopenP (w:World) (bs:List Nat) (size:Nat) (D:List MetaV) (gc gd gs:Nat) (Ai:Option Addr) (gm K:Nat) (i c b:Int) (e:Ending) (w':World):Prop :=
 FrmPost w (openF D bs i c b (subB bs (whereAt D size i c b).toNat size)) (openE D bs i c b (subB bs (whereAt D size i c b).toNat size)) e w'/\OnlyIn [gc,gs,gd] w w'/\∃ rd' v',CacheOk w' bs gc gd gs Ai gm (K+size) rd' v'
theorem fetchOpen_any {wB w:World} {bs:List Nat} {size:Nat} {D:List MetaV} {gx gc gd gs gf:Nat} {Ai:Option Addr} {gm K:Nat} {rd:Int} {v:CacheV} {fr lo:Int} (h:FetchOk wB w bs size D gx gc gd gs gf Ai gm K rd v fr lo) (i c b:Int) (hK:K+96<=1000000) (hE:whereE D i c b=0) :
  Calls Tryz.prog 88 #[.pointer (some ⟨gf,0,none⟩),.int .i64 i,.int .i64 c,.int .i64 b,.int .i64 (whereAt D size i c b)] w (FopenP w bs size D gc gd gs Ai gm K i c b):=by
 have HFin:=hid (show ∀ e w',(FrmPost w (openF D bs i c b (subB bs (whereAt D size i c b).toNat size)) (openE D bs i c b (subB bs (whereAt D size i c b).toNat size)) e w'/\OnlyIn [gc,gs,gd] w w'/\∃ rd' v',CacheOk w' bs gc gd gs Ai gm (K+size) rd' v')->FopenP w bs size D gc gd gs Ai gm K i c b e w' from fun _ _ h=>h)
 obtain ⟨o,ho,hob⟩:∃ o:Nat,whereAt D size i c b=(o:Int)/\o+size<=bs.length:=by
  obtain ⟨x,hxD,hxe,chN,cn,bn,S,F,q,P,e1,rfl,rfl,e2,e3,hm1,hq,hP,hm2,l1,l2,_,b0,b1,hbc⟩:=where_lies h.fit hE
  refine ⟨F+P,?_,l2⟩
  unfold whereAt frameNo
  rw [if_pos hE,hxe,e1,e3,hm1,<-Int.natCast_add,hq,hm2]
  push_cast; rfl
 rw [ho,Int.toNat_natCast] at HFin
 rw [ho]
 have hlo:=h.fit.lo
 have hhi:=h.fit.hi
 have HFz:=hid (show (Tryz.prog.info? 50).map (·.size)=some zeroF.size from inf_frame)
 have Hz1:=hid (show zeroF.all (·.oneCell')=true by simp [zeroF,Value.oneCell'])
 obtain ⟨w1,hw1⟩:∃ w1,w.alloc (.cells zeroF 50)=w1:=⟨_,rfl⟩
 have B1:=hid (show Below w.heap.size w w1 by rw [<-hw1]; exact bnew w _)
 have S1:=hid (show Blk w1 w.heap.size 50 zeroF.toList by rw [<-hw1]; exact Blk.new w _ _)
 have hw1':w.alloc (.cells #[.int .i64 0,.int .i64 0,.int .i64 0,.int .i64 0,.slice none 0 0,.int .i64 0,.int .i64 0,.int .i64 0,.int .i64 0,.int .i64 0,.int .i64 0,.int .i64 0,.int .i64 0,.int .i64 0,.int .i64 0,.int .i64 0,.int .i64 0,.int .i64 0,.int .i64 0,.int .i64 0,.int .i64 0,.int .i64 0,.int .i64 0,.int .i64 0,.int .i64 0,.int .i64 0,.int .i64 0,.int .i64 0,.int .i64 0] 50)=w1:=hw1
 have H1:=hid (h.later B1.out)
 have HSz:=hid (fun (W:World) (hW:Below w1.heap.size w1 W)=>BSize_any ((H1.out.later hW).bankAt) (by omega))
 have HSp:=hid (fun (W:World) (hW:Below w1.heap.size w1 W)=>(show Calls Tryz.prog 39 #[.pointer (some ⟨gc,0,none⟩),.int .i64 o,.int .i64 size] W (SpanP W bs gc gd gs Ai gm K v o size) from cacheSpan_any W bs gc gd gs Ai gm K rd v o size ((H1.out.later hW).cache) (by omega) (by have:=h.fit.long; omega) h.even hob (by omega) h.fit.byt))
 have HOp:=hid (fun (W:World) A cap (hW:Below wB.heap.size wB W) (hr:Row W W.heap.size A (u8s (subB bs o size)))=>(show Calls Tryz.prog 34 #[.pointer (some ⟨gx,0,none⟩),.int .i64 i,.int .i64 c,.int .i64 b,.slice A size cap] W (FitPost W (openF D bs i c b (subB bs o size)) (openE D bs i c b (subB bs o size))) from by
  have:=Open_any gx size bs D i c b (subB bs o size) A cap W (h.bank.later hW) h.fit (by rw [subB_len]; omega) (subB_byt h.fit.byt _ _) hr
  rw [subB_len] at this
  exact this))
 have HL:=hid (openF_len D bs i c b (subB bs o size))
 have H:=hid h
 unfold SpanP at HSp
 unfold FitPost at HOp
 have x0:=fun (z:GW w1)=>(show z.1.cell? ⟨gf,0,none⟩=some (.pointer (some ⟨gc,0,none⟩)) from (z.2.cell (p:=⟨gf,0,none⟩) H1.out.head.lt).trans (H1.out.head.cell 0))
 have x1:=fun (z:GW w1)=>(show z.1.cell? ⟨gf,1,none⟩=some (.pointer (some ⟨gx,0,none⟩)) from (z.2.cell (p:=⟨gf,1,none⟩) H1.out.head.lt).trans (H1.out.head.cell 1))
 clear hw1 h hE ho
 generalize openF D bs i c b (subB bs o size)=OF at *
 generalize openE D bs i c b (subB bs o size)=OE at *
 generalize FopenP w bs size D gc gd gs Ai gm K i c b=FP at *
 go_enter Tryz.func88,Tryz.ntmps88
 go_wp2_with fail
 refine wp_region_calm_head 10 #[true,true,true,true,true,true,true,true,true,true,false,false,false,false,false,false] (by kernel_rfl) (by kernel_rfl) ?_
 simp only [List.take_succ_cons,List.take_zero]
 repeat (go_big_quiet_step ((go_at_call 85; rename_i z; exact calm_same (HSz.out z.1 z.2))))
 refine wpQuiet_nil ?_
 intro w5 hw'
 have B5:=hid (gw_below hw')
 have HS5:=hid (HSp.out w5 B5.out)
 clear hw' x0 x1 hw1'
 change wpAny _ _ _ _ 6 _ _ _
 refine wpAny_ready (rs:=[10]) (by kernel_rfl) (by simp) ?_
 refine AllReady.cons rfl (fun K hK=>?_) AllReady.nil
 go_simp
 go_wp2_with (go_at_call 39; refine HS5.out.mono ?_; rintro e w6 ⟨A,cap,rd',v',rfl,hown,hC,hO,hfr6⟩)
 refine wpAny_take (i:=11) (v:=?_) rfl (by kernel_rfl) (by kernel_rfl) (by kernel_rfl) (fun _ _ _ h=>h) (Or.inl ⟨by rfl,?_⟩) ?_
 rotate_left
 ·intro w; go_simp; try (with_reducible rfl)
 simp only [Act.put,List.getElem_toArray,List.getElem_cons_succ,List.getElem_cons_zero,List.setIfInBounds_toArray,List.set_cons_succ,List.set_cons_zero]
 refine wpAny_take (i:=12) (v:=?_) rfl (by kernel_rfl) (by kernel_rfl) (by kernel_rfl) (fun _ _ _ h=>h) (Or.inl ⟨by rfl,?_⟩) ?_
 rotate_left
 ·intro w; go_simp; try (with_reducible rfl)
 simp only [Act.put,List.getElem_toArray,List.getElem_cons_succ,List.getElem_cons_zero,List.setIfInBounds_toArray,List.set_cons_succ,List.set_cons_zero]
 refine wpAny_take (i:=13) (v:=?_) rfl (by kernel_rfl) (by kernel_rfl) (by kernel_rfl) (fun _ _ _ h=>h) (Or.inl ⟨by rfl,?_⟩) ?_
 rotate_left
 ·intro w; go_simp; try (with_reducible rfl)
 simp only [Act.put,List.getElem_toArray,List.getElem_cons_succ,List.getElem_cons_zero,List.setIfInBounds_toArray,List.set_cons_succ,List.set_cons_zero]
 refine wpAny_take (i:=14) (v:=?_) rfl (by kernel_rfl) (by kernel_rfl) (by kernel_rfl) (fun _ _ _ h=>h) (Or.inl ⟨by rfl,?_⟩) ?_
 rotate_left
 ·intro w; go_simp; try (with_reducible rfl)
 simp only [Act.put,List.getElem_toArray,List.getElem_cons_succ,List.getElem_cons_zero,List.setIfInBounds_toArray,List.set_cons_succ,List.set_cons_zero]
 refine wpAny_take (i:=15) (v:=?_) rfl (by kernel_rfl) (by kernel_rfl) (by kernel_rfl) (fun _ _ _ h=>h) (Or.inl ⟨by rfl,?_⟩) ?_
 rotate_left
 ·intro w; go_simp; try (with_reducible rfl)
 simp only [Act.put,List.getElem_toArray,List.getElem_cons_succ,List.getElem_cons_zero,List.setIfInBounds_toArray,List.set_cons_succ,List.set_cons_zero]
 refine wpAny_done (by kernel_rfl) ?_ _
 have C5:=hid ((H1.out.later B5.out).cache)
 have hlts:=H.out.cache.lts
 have B6:=hid (hO.below (B:=wB.heap.size) (fun x hx=>by
  have:=H.out.cN
  have:=H.out.sN
  have:=H.out.dN
  simp only [List.mem_cons,List.not_mem_nil,or_false] at hx
  omega) (by have:=H.out.old.size; have:=B1.out.size; have:=B5.out.size; omega))
 have HO6:=hid (HOp.out w6 A cap ((bnext H.out.old (bnext B1.out B5.out)).trans B6.out) (Row.of_own hown))
 have S6:=hid (hO.heap (S1.out.below B5.out S1.out.lt) (by
  simp only [List.mem_cons,List.not_mem_nil,or_false]
  omega))
 have O6:=hid ((OnlyIn.of_below [gc,gs,gd] (bnext B1.out B5.out)).trans hO)
 have C6:=hid hC
 have x1:w6.cell? ⟨gf,1,none⟩=some (.pointer (some ⟨gx,0,none⟩)):=by
  have hne:gf ∉ [gc,gs,gd]:=by
   obtain ⟨cd,hd⟩:=H.out.cache.disk.blk
   have n1:=blk_ne H.out.head H.out.cache.cache.head (by decide)
   have n2:=blk_ne H.out.head H.out.cache.cache.slots (by decide)
   have n3:=blk_ne H.out.head hd (by decide)
   simp only [List.mem_cons,List.not_mem_nil,or_false]
   omega
  have hB5:=(H1.out.later B5.out).head
  exact (blk_cells (hO.heap hB5 hne) 1).trans rfl
 clear hown hC hO hfr6 HS5 hlts HSz HSp HOp
 go_wp2_with (go_at_call 34; fail)
 refine HO6.out.mono ?_
 rintro e w7 ⟨Af,cf,rfl,htl,hcf,hfr,hrow,hb7⟩
 obtain ⟨p,hp⟩:∃ p:FrH × FrameV,(⟨⟨Af,cf⟩,OF⟩:FrH × FrameV)=p:=⟨_,rfl⟩
 have hpc:frameA OF (.slice Af OF.tones.length cf)=(frC p).toArray:=by rw [<-hp]; rfl
 rw [hpc]
 have HPc:=hid hpc
 have hpl:(frC p).length=29:=frC_len (by rw [<-hp]; exact HL.out)
 have Hp1:=hid (frC_one p)
 obtain ⟨fl,hfl⟩:∃ fl,frC p=fl:=⟨_,rfl⟩
 rw [hfl] at Hp1 hpl HPc ⊢
 have hfs:fl.toArray.size=29:=by rw [List.size_toArray,hpl]
 have HFf:=hid (show (Tryz.prog.info? 50).map (·.size)=some fl.toArray.size by rw [hfs]; exact inf_frame)
 have Hf1:=hid (show fl.toArray.all (·.oneCell')=true by
  rw [Array.all_eq_true_iff_forall_mem]
  intro v hv
  exact Hp1.out v (by simpa using hv))
 have HZ2:=hid (show zeroF.size=fl.toArray.size by rw [hfs]; rfl)
 have S7:=hid (show w7.heap[w.heap.size]? = some (.cells zeroF 50 (0,0)) from hkeep S6.out hb7)
 have HE:=hid (HFin.out (.returned (.tuple #[.agg fl.toArray,.int .i64 OE])) (w7.setRow w.heap.size fl.toArray) ⟨⟨Af,cf,by rw [HPc.out],htl,hcf,hfr.imp id fun ⟨g',h1,h2⟩=>⟨g',h1,by have:=O6.out.size; omega⟩,row_setRow (hfr.imp id fun ⟨g',h1,h2⟩=>⟨g',h1,h2⟩) (hlt S6.out) fl.toArray hrow⟩,?_,?_⟩)
 rotate_left
 ·exact (O6.out.trans (OnlyIn.of_below _ hb7)).grown (grown_row2 (World.grownBy.refl w7 (some w.heap.size)) _) (fun k hk=>by rw [<-Option.some.inj hk]; exact Nat.le_refl _)
 ·have C7:=C6.out.later hb7
  have hS7:Blk w7 w.heap.size 50 zeroF.toList:=S7.out
  have hl:=H.out.cache.lts
  have hA:=H.out.cache.img_lt (by omega)
  have hO7:=OnlyIn.of_own (grown_row2 (World.grownBy.refl w7 (some w.heap.size)) fl.toArray)
  refine ⟨rd',v',C7.only hO7 ?_ ?_ ?_ ?_ ?_ ?_⟩
  ·simp only [Option.toList_some,List.mem_singleton]; omega
  ·simp only [Option.toList_some,List.mem_singleton]; omega
  ·simp only [Option.toList_some,List.mem_singleton]; omega
  ·simp only [Option.toList_some,List.mem_singleton]; omega
  ·intro ad had
   have:=hA ad had
   simp only [Option.toList_some,List.mem_singleton]; omega
  ·intro s hs hf g' hg' hm
   simp only [Option.toList_some,List.mem_singleton] at hm
   obtain ⟨p',gb',_,_,h3,_,_,h6⟩:=C7.full s hs hf
   rw [hg'] at h3
   injection h3 with h3
   injection h3 with h3
   rw [<-h3,hm] at h6
   exact blk_ne h6 hS7 (by decide) rfl
 clear htl hcf hfr hrow hb7 hp hpc hpl hfl hfs
 go_wp2_with (refine wpList_store_row_w rfl 50 (.tmp 10) (.tmp 41) rfl w.heap.size rfl _ _ fl.toArray rfl S7.out HFf.out HZ2.out Hf1.out ?_)
 refine bodyPost_ret (v:=.tuple #[.agg fl.toArray,.int .i64 OE]) (results_cell_tmp Tryz.results88 _ _ w.heap.size 50 fl.toArray (0,0) _ _ rfl rfl (setRow_heap _ _ _ _ _ _ S7.out) Tryz.underlying50 rfl HFf.out) rfl ?_
 exact HE.out
end
section
open Go.RowKit Go.Lib
theorem CacheOk.typed {w w':World} {bs:List Nat} {gc gd gs:Nat} {Ai:Option Addr} {gm K:Nat} {rd:Int} {v:CacheV} (h:CacheOk w bs gc gd gs Ai gm K rd v) {r:Nat} {T:TypeId} {xs:List Value} (hr:Blk w r T xs) (h1:188 ≠ T) (h2:247 ≠ T) (h3:232 ≠ T) (h4:5 ≠ T)
  (hA:∀ ad,Ai=some ad->ad.block ≠ r) (hO:OnlyIn [r] w w'):CacheOk w' bs gc gd gs Ai gm K rd v:=by
 obtain ⟨cd,hd⟩:=h.disk.blk
 refine h.only hO ?_ ?_ ?_ ?_ ?_ ?_
 ·simpa using blk_ne h.cache.head hr h1
 ·simpa using blk_ne h.cache.slots hr h2
 ·simpa using blk_ne hd hr h3
 ·simpa using blk_map hr h.disk.2.2
 ·intro ad had
  simpa using hA ad had
 ·intro s hs hf g' hg' hm
  have hm:g'=r:=by simpa using hm
  obtain ⟨p',gb',_,_,e3,_,_,e6⟩:=h.full s hs hf
  rw [hg'] at e3
  injection e3 with e3
  injection e3 with e3
  rw [<-e3,hm] at e6
  exact blk_ne e6 hr h4 rfl
theorem FetchOk.step {wB w w':World} {bs:List Nat} {size:Nat} {D:List MetaV} {gx gc gd gs gf:Nat} {Ai:Option Addr} {gm K K':Nat} {rd rd':Int} {v v':CacheV} {fr lo:Int} (h:FetchOk wB w bs size D gx gc gd gs gf Ai gm K rd v fr lo) (hO:OnlyIn [gc,gs,gd] w w') (hC:CacheOk w' bs gc gd gs Ai gm K' rd' v') (hK:K<=K'):FetchOk wB w' bs size D gx gc gd gs gf Ai gm K' rd' v' fr lo:=by
 obtain ⟨cd,hd⟩:=h.cache.disk.blk
 have n1:=blk_ne h.head h.cache.cache.head (by decide)
 have n2:=blk_ne h.head h.cache.cache.slots (by decide)
 have n3:=blk_ne h.head hd (by decide)
 have a1:=h.cN
 have a2:=h.sN
 have a3:=h.dN
 refine ⟨h.bank,h.fit,h.even,h.old.trans (hO.below (fun x hx=>?_) h.old.size),h.cN,h.sN,h.dN,h.fN,h.img,hO.heap h.head ?_,hC,by have:=h.cnt; omega⟩
 ·simp only [List.mem_cons,List.not_mem_nil,or_false] at hx
  omega
 ·simp only [List.mem_cons,List.not_mem_nil,or_false]
  omega
theorem FetchOk.more {wB w:World} {bs:List Nat} {size:Nat} {D:List MetaV} {gx gc gd gs gf:Nat} {Ai:Option Addr} {gm K K':Nat} {rd:Int} {v:CacheV} {fr lo:Int} (h:FetchOk wB w bs size D gx gc gd gs gf Ai gm K rd v fr lo) (hK:K<=K'):FetchOk wB w bs size D gx gc gd gs gf Ai gm K' rd v fr lo :=
 h.step (OnlyIn.refl _ _) (h.cache.more hK) hK
theorem FetchOk.count {wB w w':World} {bs:List Nat} {size:Nat} {D:List MetaV} {gx gc gd gs gf:Nat} {Ai:Option Addr} {gm K:Nat} {rd:Int} {v:CacheV} {fr lo fr' lo':Int} (h:FetchOk wB w bs size D gx gc gd gs gf Ai gm K rd v fr lo) (hO:OnlyIn [gf] w w') (hh:Blk w' gf 44 [.pointer (some ⟨gc,0,none⟩),.pointer (some ⟨gx,0,none⟩),.int .i64 fr',.int .i64 lo']) (hc:(0<=fr'/\fr'<=K)/\(0<=lo'/\lo'<=K)):FetchOk wB w' bs size D gx gc gd gs gf Ai gm K rd v fr' lo' :=
 ⟨h.bank,h.fit,h.even,h.old.trans (hO.below (fun x hx=>by rw [List.mem_singleton.1 hx]; exact h.fN) h.old.size),h.cN,h.sN,h.dN,h.fN,h.img,hh,h.cache.typed h.head (by decide) (by decide) (by decide) (by decide) h.img hO,hc⟩
theorem FetchOk.other {wB w w':World} {bs:List Nat} {size:Nat} {D:List MetaV} {gx gc gd gs gf:Nat} {Ai:Option Addr} {gm K:Nat} {rd:Int} {v:CacheV} {fr lo:Int} (h:FetchOk wB w bs size D gx gc gd gs gf Ai gm K rd v fr lo) {r:Nat} {xs:List Value} (hr:Blk w r 50 xs) (hN:wB.heap.size<=r) (hA:∀ ad,Ai=some ad->ad.block ≠ r) (hO:OnlyIn [r] w w'):FetchOk wB w' bs size D gx gc gd gs gf Ai gm K rd v fr lo :=
 ⟨h.bank,h.fit,h.even,h.old.trans (hO.below (fun x hx=>by rw [List.mem_singleton.1 hx]; exact hN) h.old.size),h.cN,h.sN,h.dN,h.fN,h.img,hO.heap h.head (by simpa using blk_ne h.head hr (by decide)),h.cache.typed hr (by decide) (by decide) (by decide) (by decide) hA hO,h.cnt⟩
theorem OnlyIn.cellSet (w:World) (g j:Nat) (x:Value):OnlyIn [g] w (w.setCell ⟨g,j,none⟩ x):=OnlyIn.of_grown (grownBy_setB (World.grownBy.refl _ _) _ _) (List.mem_singleton.2 rfl)
theorem OnlyIn.rowSet (w:World) (g:Nat) (xs:Array Value):OnlyIn [g] w (w.setRow g xs):=OnlyIn.of_grown (grown_row2 (World.grownBy.refl w (some g)) _) (List.mem_singleton.2 rfl)
def FrameP (wB w:World) (bs:List Nat) (size:Nat) (D:List MetaV) (gx gc gd gs gf:Nat) (Ai:Option Addr) (gm K:Nat) (fr lo:Int) (i c b:Int) (e:Ending) (w':World):Prop :=
 FrmPost w (openF D bs i c b (subB bs (whereAt D size i c b).toNat size)) (openE D bs i c b (subB bs (whereAt D size i c b).toNat size)) e w'/\OnlyIn [gc,gs,gd,gf] w w' /\
  ∃ rd' v',FetchOk wB w' bs size D gx gc gd gs gf Ai gm (K+97) rd' v' (if whereE D i c b=0 then fr+1 else fr) (if whereE D i c b=0/\openE D bs i c b (subB bs (whereAt D size i c b).toNat size) ≠ 0 then lo+1 else lo)
theorem openE_where {D:List MetaV} {bs:List Nat} {i c b:Int} {B:List Nat} (h:whereE D i c b ≠ 0):openE D bs i c b B=whereE D i c b/\openF D bs i c b B=zeroFr:=by
 have e:openE D bs i c b B=whereE D i c b:=by unfold openE; rw [if_pos h]
 exact ⟨e,by unfold openF; rw [e,if_neg h]⟩
theorem fetchFrame_any {wB w:World} {bs:List Nat} {size:Nat} {D:List MetaV} {gx gc gd gs gf:Nat} {Ai:Option Addr} {gm K:Nat} {rd:Int} {v:CacheV} {fr lo:Int} (h:FetchOk wB w bs size D gx gc gd gs gf Ai gm K rd v fr lo) (i c b:Int) (hK:K+97<=1000000) (h0:0 < bs.length) :
  Calls Tryz.prog 22 #[.pointer (some ⟨gf,0,none⟩),.int .i64 i,.int .i64 c,.int .i64 b] w (FrameP wB w bs size D gx gc gd gs gf Ai gm K fr lo i c b):=by
 have HFin:=hid (show ∀ e w',(FrmPost w (openF D bs i c b (subB bs (whereAt D size i c b).toNat size)) (openE D bs i c b (subB bs (whereAt D size i c b).toNat size)) e w'/\OnlyIn [gc,gs,gd,gf] w w' /\
  ∃ rd' v',FetchOk wB w' bs size D gx gc gd gs gf Ai gm (K+97) rd' v' (if whereE D i c b=0 then fr+1 else fr) (if whereE D i c b=0/\openE D bs i c b (subB bs (whereAt D size i c b).toNat size) ≠ 0 then lo+1 else lo))->FrameP wB w bs size D gx gc gd gs gf Ai gm K fr lo i c b e w' from fun _ _ h=>h)
 have HFz:=hid (show (Tryz.prog.info? 50).map (·.size)=some zeroF.size from inf_frame)
 have Hz1:=hid (show zeroF.all (·.oneCell')=true by simp [zeroF,Value.oneCell'])
 obtain ⟨w1,hw1⟩:∃ w1,w.alloc (.cells zeroF 50)=w1:=⟨_,rfl⟩
 have B1:=hid (show Below w.heap.size w w1 by rw [<-hw1]; exact bnew w _)
 have S1:=hid (show Blk w1 w.heap.size 50 zeroF.toList by rw [<-hw1]; exact Blk.new w _ _)
 have hw1':w.alloc (.cells #[.int .i64 0,.int .i64 0,.int .i64 0,.int .i64 0,.slice none 0 0,.int .i64 0,.int .i64 0,.int .i64 0,.int .i64 0,.int .i64 0,.int .i64 0,.int .i64 0,.int .i64 0,.int .i64 0,.int .i64 0,.int .i64 0,.int .i64 0,.int .i64 0,.int .i64 0,.int .i64 0,.int .i64 0,.int .i64 0,.int .i64 0,.int .i64 0,.int .i64 0,.int .i64 0,.int .i64 0,.int .i64 0,.int .i64 0] 50)=w1:=hw1
 have H1:=hid (h.later B1.out)
 have HN:=hid (fetchNone_any H1.out.head)
 have HW:=hid (Where_any gx size bs D i c b w1 H1.out.bankAt h.fit)
 unfold WherePost at HW
 have c1:w1.cell? ⟨gf,1,none⟩=some (.pointer (some ⟨gx,0,none⟩)):=H1.out.head.cell 1
 have H:=hid h
 have HAi:=hid (h.cache.img_lt h0)
 by_cases hE:whereE D i c b=0
 rotate_left
 ·obtain ⟨e1,e2⟩:=openE_where (bs:=bs) (B:=subB bs (whereAt D size i c b).toNat size) hE
  rw [e1,e2] at HFin
  have t1:(whereE D i c b != 0)=true:=by rw [bne_iff_ne]; exact hE
  have HX:=hid (fun W (hW:FetchOk wB W bs size D gx gc gd gs gf Ai gm K rd v fr lo)=>(show FetchOk wB W bs size D gx gc gd gs gf Ai gm (K+97) rd v (if whereE D i c b=0 then fr+1 else fr) (if whereE D i c b=0/\whereE D i c b ≠ 0 then lo+1 else lo) by
   rw [if_neg hE,if_neg (by omega)]
   exact hW.more (by omega)))
  clear hw1 h hE e1 e2
  generalize FrameP wB w bs size D gx gc gd gs gf Ai gm K fr lo i c b=FP at *
  generalize whereE D i c b=E at *
  generalize whereAt D size i c b=AT at *
  generalize whereSum D bs i c b=V at *
  go_enter Tryz.func22,Tryz.ntmps22
  go_wp2_with (first | (go_at_call 87; refine HN.out.mono ?_; rintro e w' ⟨rfl,rfl⟩) | (go_at_call 35; fail))
  clear hw1'
  refine HW.out.mono ?_
  rintro e w2 ⟨rfl,hb2⟩
  have S2:=hid (hkeep S1.out hb2)
  have B2:=hid (bnext B1.out hb2)
  have H2:=hid (H1.out.later hb2)
  clear hb2
  go_wp2_with (refine wpList_store_row_w rfl 50 (.tmp 8) (.tmp 31) rfl w.heap.size rfl _ _ zeroF rfl S2.out HFz.out (by rfl) Hz1.out ?_)
  refine bodyPost_ret (v:=.tuple #[.agg zeroF,.int .i64 E]) (results_cell_tmp Tryz.results22 _ _ w.heap.size 50 zeroF (0,0) _ _ rfl rfl (setRow_heap _ _ _ _ _ _ S2.out) Tryz.underlying50 rfl HFz.out) rfl ?_
  refine HFin.out _ _ ⟨FrmPost.zero _ _ _,(OnlyIn.of_below _ B2.out).grown (grown_row2 (World.grownBy.refl w2 (some w.heap.size)) _) (fun k hk=>by rw [<-Option.some.inj hk]; exact Nat.le_refl _),rd,v,HX.out _ (H2.out.other (r:=w.heap.size) S2.out (H.out.old.size) (fun ad had=>by have:=HAi.out ad had; omega) (OnlyIn.rowSet _ _ _))⟩
 ·have HEw:=hid hE
  have t1:((0:Int) != 0)=false:=rfl
  obtain ⟨OF,hOF⟩:∃ OF,openF D bs i c b (subB bs (whereAt D size i c b).toNat size)=OF:=⟨_,rfl⟩
  obtain ⟨OE,hOE⟩:∃ OE,openE D bs i c b (subB bs (whereAt D size i c b).toNat size)=OE:=⟨_,rfl⟩
  have HL:=hid (show OF.Len by rw [<-hOF]; exact openF_len D bs i c b _)
  have HOp:=hid (fun (W:World) rd v fr (hW:FetchOk wB W bs size D gx gc gd gs gf Ai gm (K+1) rd v fr lo)=>fetchOpen_any hW i c b (by omega) hE)
  unfold FopenP at HOp
  rw [hOF,hOE] at HOp HFin
  have hcn:=h.cnt
  have hlts:=h.cache.lts
  have hgf:=h.head.lt
  have hwf:IntKind.i64.wrap (fr+1)=fr+1:=IntWalk.i64_in _ (by omega)
  have hwl:IntKind.i64.wrap (lo+1)=lo+1:=IntWalk.i64_in _ (by omega)
  have hhi:=h.fit.hi
  have hold:=h.old.size
  rw [if_pos hE] at HFin
  have HX:=hid (show (whereE D i c b=0/\OE ≠ 0 ↔ OE ≠ 0) from ⟨fun h=>h.2,fun h=>⟨hE,h⟩⟩)
  simp only [HX.out] at HFin
  rw [hE] at HW
  have Hlts:=hid hlts
  have Hgf:=hid hgf
  have Hcn:=hid hcn
  have Hhi:=hid hhi
  have Hold:=hid hold
  clear hw1 h hE hOF hOE hcn hlts hgf hhi hold HX
  generalize FrameP wB w bs size D gx gc gd gs gf Ai gm K fr lo i c b=FP at *
  generalize whereAt D size i c b=AT at *
  generalize whereSum D bs i c b=V at *
  go_enter Tryz.func22,Tryz.ntmps22
  go_wp2_with (first | (go_at_call 87; refine HN.out.mono ?_; rintro e w' ⟨rfl,rfl⟩) | (go_at_call 35; fail))
  clear hw1'
  refine HW.out.mono ?_
  rintro e w2 ⟨rfl,hb2⟩
  have S2:=hid (S1.out.below hb2 S1.out.lt)
  have B2:=hid (bnext B1.out hb2)
  have H2:=hid (H1.out.later hb2)
  clear hb2 HW
  have c2:w2.cell? ⟨gf,2,none⟩=some (.int .i64 fr):=H2.out.head.cell 2
  have f2:=H2.out.head.frozen 2
  obtain ⟨w3,hw3⟩:∃ w3,w2.setCell ⟨gf,2,none⟩ (.int .i64 (fr+1))=w3:=⟨_,rfl⟩
  have O3:=hid (show OnlyIn [gf] w2 w3 by rw [<-hw3]; exact OnlyIn.cellSet _ _ _ _)
  have X3:=hid (show Blk w3 gf 44 [.pointer (some ⟨gc,0,none⟩),.pointer (some ⟨gx,0,none⟩),.int .i64 (fr+1),.int .i64 lo] by rw [<-hw3]; exact H2.out.head.set_ 2 _)
  have H3:=hid ((H2.out.more (K':=K+1) (by omega)).count O3.out X3.out (by have:=Hcn.out; omega))
  have S3:=hid (O3.out.heap S2.out (by have:=Hgf.out; simp only [List.mem_singleton]; omega))
  have HO3:=hid (HOp.out w3 rd v (fr+1) H3.out)
  go_wp2_with (first | (go_at_call 88; fail))
  refine HO3.out.mono ?_
  rintro e w4 ⟨⟨Af,cf,rfl,htl,hcf,hfr,hrow⟩,hO4,rd',v',hC4⟩
  have H4:=hid (H3.out.step hO4 hC4 (by omega))
  have S4:=hid (hO4.heap S3.out (by have:=Hlts.out; simp only [List.mem_cons,List.not_mem_nil,or_false]; omega))
  have O4:=hid (((OnlyIn.of_below [gc,gs,gd,gf] B2.out).trans (O3.out.more (by simp))).trans (hO4.more (by simp)))
  clear hw3 c2 f2 hC4 hO4 HO3 HOp
  obtain ⟨p,hp⟩:∃ p:FrH × FrameV,(⟨⟨Af,cf⟩,OF⟩:FrH × FrameV)=p:=⟨_,rfl⟩
  have hpc:frameA OF (.slice Af OF.tones.length cf)=(frC p).toArray:=by rw [<-hp]; rfl
  rw [hpc]
  have HPc:=hid hpc
  have hpl:(frC p).length=29:=frC_len (by rw [<-hp]; exact HL.out)
  have Hp1:=hid (frC_one p)
  obtain ⟨fl,hfl⟩:∃ fl,frC p=fl:=⟨_,rfl⟩
  rw [hfl] at Hp1 hpl HPc ⊢
  have hfs:fl.toArray.size=29:=by rw [List.size_toArray,hpl]
  have Hfs:=hid hfs
  have HFf:=hid (show (Tryz.prog.info? 50).map (·.size)=some fl.toArray.size by rw [hfs]; exact inf_frame)
  have Hf1:=hid (show fl.toArray.all (·.oneCell')=true by
   rw [Array.all_eq_true_iff_forall_mem]
   intro v hv
   exact Hp1.out v (by simpa using hv))
  have HZ2:=hid (show zeroF.size=fl.toArray.size by rw [hfs]; rfl)
  obtain ⟨w5,hw5⟩:∃ w5,w4.alloc (.cells fl.toArray 50)=w5:=⟨_,rfl⟩
  have B5:=hid (show Below w4.heap.size w4 w5 by rw [<-hw5]; exact bnew w4 _)
  have S5:=hid (show Blk w5 w.heap.size 50 zeroF.toList from hkeep S4.out B5.out)
  have F5:=hid (show Blk w5 w4.heap.size 50 fl by rw [<-hw5]; exact Blk.new w4 _ _)
  have H5:=hid (H4.out.later B5.out)
  have R5:=hid (hrow.later B5.out)
  have O5:=hid (O4.out.trans (OnlyIn.of_below _ B5.out))
  have Hw5:=hid hw5
  have Hfr:=hid (show OF.tones=[]\/∃ g',Af=some ⟨g',0,none⟩/\w3.heap.size<=g' from hfr)
  have H33:=hid (show w.heap.size < w3.heap.size from hlt S3.out)
  have Htl:=hid htl
  have Hcf:=hid hcf
  have HEnd:=hid (show ∀ W lo',OnlyIn [gc,gs,gd,gf] w W->(hS:Blk W w.heap.size 50 zeroF.toList)->Row W W.heap.size Af (toneCells OF.tones)->FetchOk wB W bs size D gx gc gd gs gf Ai gm (K+97) rd' v' (fr+1) lo'->lo'=(if OE ≠ 0 then lo+1 else lo)->FP (.returned (.tuple #[.agg fl.toArray,.int .i64 OE])) (W.setRow w.heap.size fl.toArray) from fun W lo' hO hS hR hK he=>by
   refine HFin.out _ _ ⟨⟨Af,cf,by rw [HPc.out],Htl.out,Hcf.out,Hfr.out.imp id fun ⟨g',h1,h2⟩=>⟨g',h1,by have:=H33.out; omega⟩,row_setRow (Hfr.out.imp id fun ⟨g',h1,h2⟩=>⟨g',h1,h2⟩) H33.out fl.toArray hR⟩,hO.grown (grown_row2 (World.grownBy.refl W (some w.heap.size)) _) (fun k hk=>by rw [<-Option.some.inj hk]; exact Nat.le_refl _),rd',v',?_⟩
   rw [<-he]
   exact hK.other (r:=w.heap.size) hS (H.out.old.size) (fun ad had=>by have:=HAi.out ad had; omega) (OnlyIn.rowSet _ _ _))
  clear htl hcf hfr hrow hp hpc hpl hfl hfs hw5
  by_cases q:OE=0
  ·subst q
   have HE:=hid (HEnd.out w5 lo O5.out S5.out R5.out (H5.out.more (by have:=Hhi.out; omega)) (by simp))
   clear HEnd
   go_wp2_with (first | (refine wpList_store_row_w rfl 50 (.tmp 13) (.tmp 47) rfl w4.heap.size rfl _ _ fl.toArray rfl (heap_alloc_new w4 _) HFf.out (by rw [Hfs.out]; rfl) Hf1.out ?_; rw [World.setRow_alloc_new,Hw5.out]) | (refine wpList_load_row_w rfl 50 (.tmp 13) rfl w4.heap.size rfl _ fl.toArray _ _ F5.out Tryz.underlying50 rfl HFf.out ?_) | (refine wpList_store_row_w rfl 50 (.tmp 8) (.tmp 58) rfl w.heap.size rfl _ _ fl.toArray rfl S5.out HFf.out HZ2.out Hf1.out ?_))
   refine bodyPost_ret (v:=.tuple #[.agg fl.toArray,.int .i64 0]) (results_cell_tmp Tryz.results22 _ _ w.heap.size 50 fl.toArray (0,0) _ _ rfl rfl (setRow_heap _ _ _ _ _ _ S5.out) Tryz.underlying50 rfl HFf.out) rfl ?_
   exact HE.out
  ·have t2:(OE != 0)=true:=by rw [bne_iff_ne]; exact q
   have c3:w5.cell? ⟨gf,3,none⟩=some (.int .i64 lo):=H5.out.head.cell 3
   have f3:=H5.out.head.frozen 3
   obtain ⟨w6,hw6⟩:∃ w6,w5.setCell ⟨gf,3,none⟩ (.int .i64 (lo+1))=w6:=⟨_,rfl⟩
   have O6:=hid (show OnlyIn [gf] w5 w6 by rw [<-hw6]; exact OnlyIn.cellSet _ _ _ _)
   have X6:=hid (show Blk w6 gf 44 [.pointer (some ⟨gc,0,none⟩),.pointer (some ⟨gx,0,none⟩),.int .i64 (fr+1),.int .i64 (lo+1)] by rw [<-hw6]; exact H5.out.head.set_ 3 _)
   have H6:=hid ((H5.out.more (K':=K+97) (by have:=Hhi.out; omega)).count O6.out X6.out (by have:=Hcn.out; omega))
   have S6:=hid (O6.out.heap S5.out (by have:=Hgf.out; simp only [List.mem_singleton]; omega))
   have F6:=hid (O6.out.heap F5.out (by have:=Hgf.out; have:=O4.out.size; simp only [List.mem_singleton]; omega))
   have R6:=hid (show Row w6 w6.heap.size Af (toneCells OF.tones) by
    have hgf:=Hgf.out
    have h33:=H33.out
    rcases Hfr.out with h0 | ⟨g',h1,h2⟩
    ·rw [h0]
     exact fun i v hv=>by simp [toneCells] at hv
    ·refine O6.out.row R5.out (fun ad had=>?_)
     rw [had] at h1
     injection h1 with h1
     rw [h1]
     simp only [List.mem_singleton]; omega)
   have HE:=hid (HEnd.out w6 (lo+1) (O5.out.trans (O6.out.more (by simp))) S6.out R6.out H6.out (by rw [if_pos q]))
   clear HEnd q
   go_wp2_with (first | (refine wpList_store_row_w rfl 50 (.tmp 13) (.tmp 47) rfl w4.heap.size rfl _ _ fl.toArray rfl (heap_alloc_new w4 _) HFf.out (by rw [Hfs.out]; rfl) Hf1.out ?_; rw [World.setRow_alloc_new,Hw5.out]) | (refine wpList_load_row_w rfl 50 (.tmp 13) rfl w4.heap.size rfl _ fl.toArray _ _ F6.out Tryz.underlying50 rfl HFf.out ?_) | (refine wpList_store_row_w rfl 50 (.tmp 8) (.tmp 58) rfl w.heap.size rfl _ _ fl.toArray rfl S6.out HFf.out HZ2.out Hf1.out ?_))
   refine bodyPost_ret (v:=.tuple #[.agg fl.toArray,.int .i64 OE]) (results_cell_tmp Tryz.results22 _ _ w.heap.size 50 fl.toArray (0,0) _ _ rfl rfl (setRow_heap _ _ _ _ _ _ S6.out) Tryz.underlying50 rfl HFf.out) rfl ?_
   exact HE.out
theorem fetchFrames_any {w:World} {gf gc gx:Nat} {fr lo:Int} (h:Blk w gf 44 [.pointer (some ⟨gc,0,none⟩),.pointer (some ⟨gx,0,none⟩),.int .i64 fr,.int .i64 lo]):Calls Tryz.prog 25 #[.pointer (some ⟨gf,0,none⟩)] w fun e w'=>e=.returned (.int .i64 fr)/\w=w':=by
 have HN:=hid (fetchNone_any h)
 have c1:w.cell? ⟨gf,2,none⟩=some (.int .i64 fr):=(h.cell 2).trans rfl
 clear h
 go_enter Tryz.func25,Tryz.ntmps25
 go_wp2_with (go_at_call 87; refine HN.out.mono ?_; rintro e w' ⟨rfl,rfl⟩)
 go_ret
 exact ⟨rfl,rfl⟩
theorem fetchMissed_any {w:World} {gf gc gx:Nat} {fr lo:Int} (h:Blk w gf 44 [.pointer (some ⟨gc,0,none⟩),.pointer (some ⟨gx,0,none⟩),.int .i64 fr,.int .i64 lo]):Calls Tryz.prog 26 #[.pointer (some ⟨gf,0,none⟩)] w fun e w'=>e=.returned (.int .i64 lo)/\w=w':=by
 have HN:=hid (fetchNone_any h)
 have c1:w.cell? ⟨gf,3,none⟩=some (.int .i64 lo):=(h.cell 3).trans rfl
 clear h
 go_enter Tryz.func26,Tryz.ntmps26
 go_wp2_with (go_at_call 87; refine HN.out.mono ?_; rintro e w' ⟨rfl,rfl⟩)
 go_ret
 exact ⟨rfl,rfl⟩
theorem fetchBank_any {w:World} {gf gc gx:Nat} {fr lo:Int} (h:Blk w gf 44 [.pointer (some ⟨gc,0,none⟩),.pointer (some ⟨gx,0,none⟩),.int .i64 fr,.int .i64 lo]):Calls Tryz.prog 24 #[.pointer (some ⟨gf,0,none⟩)] w fun e w'=>e=.returned (.pointer (some ⟨gx,0,none⟩))/\w=w':=by
 have HN:=hid (fetchNone_any h)
 have c1:w.cell? ⟨gf,1,none⟩=some (.pointer (some ⟨gx,0,none⟩)):=(h.cell 1).trans rfl
 clear h
 go_enter Tryz.func24,Tryz.ntmps24
 go_wp2_with (go_at_call 87; refine HN.out.mono ?_; rintro e w' ⟨rfl,rfl⟩)
 go_ret
 exact ⟨rfl,rfl⟩
end
section
open Go.RowKit Go.Lib
theorem inf_slot:(Tryz.prog.info? 247).map (fun i=>(i.zero,i.size,i.bytes))=some (some (.agg #[.int .i64 0,.bool false,.bool false,.slice none 0 0]),4,40):=by kernel_rfl
theorem slots_made (n:Nat):(madeCells (Value.agg #[.int .i64 0,.bool false,.bool false,.slice none 0 0]).cells (n*4)).toList=slotsC (List.replicate n default):=by
 unfold madeCells
 rw [Array.toList_map,Array.toList_range]
 apply List.ext_getElem?
 intro j
 rw [List.getElem?_map]
 rcases Nat.lt_or_ge j (n*4) with hj | hj
 ·rw [List.getElem?_range hj,Option.map_some]
  have h1:(List.replicate n (default:SlotV))[j / 4]? = some default:=by rw [List.getElem?_replicate,if_pos (by omega)]
  have h2:=slotsC_get _ h1 (j % 4) (Nat.mod_lt _ (by omega))
  rw [show j / 4*4+j % 4=j by omega] at h2
  rw [h2]
  have h3:j % 4 < 4:=Nat.mod_lt _ (by omega)
  show some ((#[.int .i64 0,.bool false,.bool false,.slice none 0 0]:Array Value)[j % 4]!)=([.int .i64 0,.bool false,.bool false,.slice none 0 0]:List Value)[j % 4]?
  generalize j % 4=q at *
  rcases (show q=0\/q=1\/q=2\/q=3 by omega) with rfl | rfl | rfl | rfl <;> rfl
 ·rw [List.getElem?_eq_none (by simpa using hj),List.getElem?_eq_none (by rw [slotsC_len,List.length_replicate]; omega)]; rfl
def cacheBad (s r:Int):Prop:=s < 1\/1024 < s\/r < 0\/8 < r
def CNewP (w:World) (gd:Nat) (s r:Int) (e:Ending) (w':World):Prop :=
 (cacheBad s r/\e=.returned (.tuple #[.pointer none,.int .i64 1])/\w=w') \/
 (¬ cacheBad s r/\∃ gc gs,e=.returned (.tuple #[.pointer (some ⟨gc,0,none⟩),.int .i64 0])/\w.heap.size<=gc/\w.heap.size<=gs/\CacheAt w' gc gd gs ⟨0,0,0,0,0,r.toNat,List.replicate s.toNat default⟩/\Below w.heap.size w w')
theorem cacheNew_any (w:World) (gd:Nat) (s r:Int):Calls Tryz.prog 77 #[.pointer (some ⟨gd,0,none⟩),.int .i64 s,.int .i64 r] w (CNewP w gd s r):=by
 have HB:=hid (show ∀ e w',(cacheBad s r/\e=.returned (.tuple #[.pointer none,.int .i64 1])/\w=w')->CNewP w gd s r e w' from fun _ _ h=>.inl h)
 have HG:=hid (show ∀ e w',(¬ cacheBad s r/\∃ gc gs,e=.returned (.tuple #[.pointer (some ⟨gc,0,none⟩),.int .i64 0])/\w.heap.size<=gc/\w.heap.size<=gs/\CacheAt w' gc gd gs ⟨0,0,0,0,0,r.toNat,List.replicate s.toNat default⟩/\Below w.heap.size w w')->CNewP w gd s r e w' from fun _ _ h=>.inr h)
 generalize CNewP w gd s r=CP at *
 by_cases h1:s < 1
 ·have HE:=hid (HB.out _ _ ⟨.inl h1,rfl,rfl⟩)
  clear HB HG
  go_enter Tryz.func77,Tryz.ntmps77
  go_wp2
  exact HE.out
 by_cases h2:1024 < s
 ·have HE:=hid (HB.out _ _ ⟨.inr (.inl h2),rfl,rfl⟩)
  clear HB HG
  go_enter Tryz.func77,Tryz.ntmps77
  go_wp2
  exact HE.out
 by_cases h3:r < 0
 ·have HE:=hid (HB.out _ _ ⟨.inr (.inr (.inl h3)),rfl,rfl⟩)
  clear HB HG
  go_enter Tryz.func77,Tryz.ntmps77
  go_wp2
  exact HE.out
 by_cases h4:8 < r
 ·have HE:=hid (HB.out _ _ ⟨.inr (.inr (.inr h4)),rfl,rfl⟩)
  clear HB HG
  go_enter Tryz.func77,Tryz.ntmps77
  go_wp2
  exact HE.out
 have hnb:¬ cacheBad s r:=by unfold cacheBad; omega
 obtain ⟨n,rfl⟩:=Int.eq_ofNat_of_zero_le (show 0<=s by omega)
 obtain ⟨q,rfl⟩:=Int.eq_ofNat_of_zero_le (show 0<=r by omega)
 rw [Int.toNat_natCast,Int.toNat_natCast] at HG
 have Hnb:=hid hnb
 obtain ⟨i0,hi,hz0,hi1,hi2⟩:=info_parts inf_slot
 have hm:=slots_made n
 obtain ⟨mc,hmc⟩:∃ mc,madeCells (Value.agg #[.int .i64 0,.bool false,.bool false,.slice none 0 0]).cells (n*4)=mc:=⟨_,rfl⟩
 rw [hmc] at hm
 have hmr:mc=(slotsC (List.replicate n default)).toArray:=by rw [<-hm]
 have Hmr:=hid hmr
 have Hmc:=hid hmc
 clear hnb HB hm hmc hmr
 go_enter Tryz.func77,Tryz.ntmps77
 go_wp2_with (refine wpList_make_rows _ rfl (.tmp 27) (.tmp 27) 186 rfl 247 i0 (.agg #[.int .i64 0,.bool false,.bool false,.slice none 0 0]) 4 Tryz.underlying186 hi hz0 hi1 .i64 .i64 n rfl rfl (by rw [hi2]; omega) (by omega) ?_; rw [Hmc.out])
 have hsz:(w.alloc (.cells mc 247)).heap.size=w.heap.size+1:=by simp
 have hX:=Blk.new2 w (.cells mc 247) 188 [.int .i64 0,.int .i64 0,.int .i64 0,.int .i64 0,.pointer (some ⟨gd,0,none⟩),.slice (some ⟨w.heap.size,0,none⟩) n n,.int .i64 0,.int .i64 q]
 have hS:Blk (w.alloc (.cells mc 247)) w.heap.size 247 (slotsC (List.replicate n default)):=by
  rw [Hmr.out]; exact Blk.new w _ _
 have hln:(List.replicate n (default:SlotV)).length=n:=List.length_replicate
 refine HG.out _ _ ⟨Hnb.out,w.heap.size+1,w.heap.size,by rw [<-hsz],by omega,by omega,⟨?_,hS.below (bnew _ _) hS.lt,by show (List.replicate n (default:SlotV)).length<=_; omega,by show 0 < (List.replicate n (default:SlotV)).length; omega,by show 0 < (List.replicate n (default:SlotV)).length; omega,by show q<=8; omega⟩,bnext (bnew w _) (bnew _ _)⟩
 unfold CacheV.cells
 simp only [hln]
 exact hX
theorem CacheAt.fresh {w:World} {gc gd gs n q:Nat} (h:CacheAt w gc gd gs ⟨0,0,0,0,0,q,List.replicate n default⟩) {bs:List Nat} {Ai:Option Addr} {gm:Nat} (hd:DiskAt w gd bs 0 Ai gm) (hi:∀ ad,Ai=some ad->ad.block ≠ gc/\ad.block ≠ gs/\ad.block ≠ gd):CacheOk w bs gc gd gs Ai gm 0 0 ⟨0,0,0,0,0,q,List.replicate n default⟩ :=
 ⟨h,hd,hi,(fun s hs hf=>by
  have hs:s ∈ List.replicate n default:=hs
  rw [List.eq_of_mem_replicate hs] at hf
  cases hf),⟨⟨Int.le_refl _,Int.le_refl _⟩,⟨Int.le_refl _,Int.le_refl _⟩,⟨Int.le_refl _,Int.le_refl _⟩,⟨Int.le_refl _,Int.le_refl _⟩⟩⟩
theorem fetchNew_any {w:World} {g size:Nat} {bs:List Nat} {D:List MetaV} (hB:BankAt w g bs size D) (hs:0 < size) {gc gd gs:Nat} {v:CacheV} (hC:CacheAt w gc gd gs v) :
  Calls Tryz.prog 23 #[.pointer (some ⟨g,0,none⟩),.pointer (some ⟨gc,0,none⟩)] w fun e w'=>e=.returned (.tuple #[.pointer (some ⟨w.heap.size,0,none⟩),.int .i64 0])/\Blk w' w.heap.size 44 [.pointer (some ⟨gc,0,none⟩),.pointer (some ⟨g,0,none⟩),.int .i64 0,.int .i64 0]/\Below w.heap.size w w':=by
 have HS:=hid (BSize_any hB hs)
 have HD:=hid (cacheDisk_any w gc gd gs v hC)
 have t1:((size:Int) == 0)=false:=beq_eq_false_iff_ne.2 (by omega)
 clear hB hC
 go_enter Tryz.func23,Tryz.ntmps23
 go_wp2_with (first | (go_at_call 85; refine HS.out.mono ?_; rintro e w' ⟨rfl,rfl⟩) | (go_at_call 89; refine HD.out.mono ?_; rintro e w' ⟨rfl,rfl⟩))
 refine bodyPost_ret (results_tmp2 Tryz.results23 _ _ _) rfl ?_
 exact ⟨rfl,Blk.new w _ _,bnew w _⟩
end
section
open Go.RowKit Go.Lib
theorem CanP.even {size:Nat} {SS:List SampV} (h:CanP size SS):(packZ size SS).length % 64=0:=by
 have h1:=h.len_eq
 rw [packZ_len h]
 unfold upZ at h1
 omega
def MadeF (w:World) (size:Int) (ss:List SampV) (slots retry:Int) (e:Ending) (w':World):Prop :=
 Below w.heap.size w w'/\(((packE size ss ≠ 0\/cacheBad slots retry)/\e=.returned (.pointer none)) \/
  (packE size ss=0/\¬ cacheBad slots retry/\∃ (sz ga gx gc gd gs gf:Nat) (Ai:Option Addr) (gm gi:Nat) (wB:World),size=sz/\CanP sz (sortS ss)/\e=.returned (.pointer (some ⟨ga,0,none⟩))/\w.heap.size<=wB.heap.size/\w.heap.size<=ga /\
   Blk w' ga 32 [.pointer (some ⟨gx,0,none⟩),.pointer (some ⟨gd,0,none⟩),.pointer (some ⟨gf,0,none⟩),.slice (some ⟨gi,0,none⟩) (packLen sz (sortS ss)) (packLen sz (sortS ss))] /\
   FetchOk wB w' (packZ sz (sortS ss)) sz (packDir sz (sortS ss)) gx gc gd gs gf Ai gm 0 0 ⟨0,0,0,0,0,retry.toNat,List.replicate slots.toNat default⟩ 0 0))
theorem made18_core (S:List SampV->Prop) (size:Int) (v:Value) (slots retry:Int) (w:World)
  (hF:Calls Tryz.prog 74 #[v] w fun e w'=>∃ A c M,e=.returned (.slice A (List.length M) c)/\S (List.map Prod.snd M)/\List.length M<=8/\(A=none->c=0)/\SampsAt w' w'.heap.size A M/\(∀ p ∈ M,p.2.small)/\Below w.heap.size w w') :
  Calls Tryz.prog 14 #[.int .i64 size,v,.int .i64 slots,.int .i64 retry] w fun e w'=>∃ ss,S ss/\MadeF w size ss slots retry e w':=by
 have HF:=hid hF
 clear hF
 go_enter Tryz.func14,Tryz.ntmps14
 go_wp2_with (go_at_call 74; fail)
 refine HF.out.mono ?_
 rintro e w1 ⟨A,c,M,rfl,hS,h8,hn,hs,hsm,hb1⟩
 have HP:=hid (Pack_any size M A c w1 h8 hn hs hsm)
 have B1:=hid hb1
 have HS:=hid hS
 generalize List.map Prod.snd M=ss at *
 generalize M.length=m at *
 unfold PackP at HP
 clear hS h8 hn hs hsm hb1 HF
 go_wp2_with (go_at_call 73; fail)
 refine HP.out.mono ?_
 rintro e w2 ⟨hb2,⟨hE,rfl⟩ | ⟨hE,sz,g,h24,hC,hg,hby,rfl⟩⟩
 ·have B2:=hid (bnext B1.out hb2)
  have HE:=hid (show ∃ ss,S ss/\MadeF w size ss slots retry (.returned (.pointer none)) w2 from ⟨ss,HS.out,B2.out,.inl ⟨.inl hE,rfl⟩⟩)
  generalize hpe:packE size ss=E at *
  have t1:(E != 0)=true:=by rw [bne_iff_ne]; exact hE
  clear hE hpe hb2
  go_wp2
  go_ret
  exact HE.out
 ·have B2:=hid (bnext B1.out hb2)
  have HC:=hid hC
  have HE:=hid hE
  have Hsz:=hid h24
  have HPa:=hid (Parse_packed hC g w2 hby)
  have hlb:=hC.len_bd
  have hll:=packZ_len hC
  have HDn:=hid (fun (W:World) (hW:Below w2.heap.size w2 W)=>(show Calls Tryz.prog 76 #[.slice (some ⟨g,0,none⟩) (packLen sz (sortS ss)) (packLen sz (sortS ss))] W (DiskP W (packZ sz (sortS ss))) from by
   have:=diskNew_any (packZ sz (sortS ss)) (some ⟨g,0,none⟩) (packLen sz (sortS ss)) W (by rw [hll]; omega) ((bytes_at_row hby).later hW)
   rw [hll] at this
   exact this))
  unfold DiskP at HDn
  clear hE h24 hg hby hb2 hlb hll
  go_wp2_with (go_at_call 75; fail)
  refine HPa.out.mono ?_
  rintro e w3 ⟨x,rfl,hx,hB,hb3⟩
  have HB:=hid hB
  have B3:=hid (bnext B2.out hb3)
  have HD3:=hid (HDn.out w3 hb3)
  have Hx:=hid (show w.heap.size<=x from Nat.le_trans B2.out.size hx)
  clear hB hb3 hx HPa HDn
  go_wp2_with (go_at_call 76; fail)
  refine HD3.out.mono ?_
  rintro e w4 ⟨gd,Ai,gm,rfl,hD,hgd,hgm,hmd,hAi,hb4⟩
  have HCn:=hid (cacheNew_any w4 gd slots retry)
  have D4:=hid hD
  have B4:=hid hb4
  have Hdd:=hid (show w3.heap.size<=gd/\w3.heap.size<=gm/\gm < gd/\(∀ ad,Ai=some ad->w3.heap.size<=ad.block/\ad.block < gm)/\gd < w4.heap.size from ⟨hgd,hgm,hmd,hAi,by obtain ⟨ci,hd⟩:=hD.blk; exact hd.lt⟩)
  unfold CNewP at HCn
  clear hD hgd hgm hmd hAi hb4 HD3
  go_wp2_with (go_at_call 77; fail)
  refine HCn.out.mono ?_
  rintro e w5 (⟨hbad,rfl,rfl⟩ | ⟨hok,gc,gs,rfl,hgc,hgs,hC5,hb5⟩)
  ·have HE:=hid (show ∃ ss,S ss/\MadeF w size ss slots retry (.returned (.pointer none)) w4 from ⟨ss,HS.out,bnext B3.out B4.out,.inl ⟨.inr hbad,rfl⟩⟩)
   clear hbad
   go_wp2
   go_ret
   exact HE.out
  ·have C5:=hid hC5
   have B5:=hid hb5
   have Hok:=hid hok
   have Hcs:=hid (show w4.heap.size<=gc/\w4.heap.size<=gs/\gc < w5.heap.size/\gs < w5.heap.size from ⟨hgc,hgs,hC5.head.lt,hC5.slots.lt⟩)
   have HFn:=hid (fetchNew_any (HB.out.later (bnext B4.out B5.out)) (by have:=HC.out.lo; omega) hC5)
   clear hC5 hb5 hok hgc hgs HCn
   go_wp2_with (go_at_call 23; refine HFn.out.mono ?_; rintro e w6 ⟨rfl,hX6,hb6⟩)
   have hE7:=bnew w6 (.cells #[.pointer (some ⟨x,0,none⟩),.pointer (some ⟨gd,0,none⟩),.pointer (some ⟨w5.heap.size,0,none⟩),.slice (some ⟨g,0,none⟩) (packLen sz (sortS ss)) (packLen sz (sortS ss))] 32)
   have hG7:Blk (w6.alloc (.cells #[.pointer (some ⟨x,0,none⟩),.pointer (some ⟨gd,0,none⟩),.pointer (some ⟨w5.heap.size,0,none⟩),.slice (some ⟨g,0,none⟩) (packLen sz (sortS ss)) (packLen sz (sortS ss))] 32)) w6.heap.size 32 [.pointer (some ⟨x,0,none⟩),.pointer (some ⟨gd,0,none⟩),.pointer (some ⟨w5.heap.size,0,none⟩),.slice (some ⟨g,0,none⟩) (packLen sz (sortS ss)) (packLen sz (sortS ss))]:=Blk.new w6 _ _
   have hD:=Hdd.out
   have hc:=Hcs.out
   have s3:=B3.out.size
   have s4:=B4.out.size
   have s5:=B5.out.size
   have s6:=hb6.size
   have hB57:=bnext (bnext B5.out hb6) hE7
   generalize w6.alloc (.cells #[.pointer (some ⟨x,0,none⟩),.pointer (some ⟨gd,0,none⟩),.pointer (some ⟨w5.heap.size,0,none⟩),.slice (some ⟨g,0,none⟩) (packLen sz (sortS ss)) (packLen sz (sortS ss))] 32)=w7 at *
   have hH:=hX6.below hE7 hX6.lt
   have hCK:CacheOk w7 (packZ sz (sortS ss)) gc gd gs Ai gm 0 0 ⟨0,0,0,0,0,retry.toNat,List.replicate slots.toNat default⟩:=(C5.out.below (bnext hb6 hE7)).fresh (D4.out.later hB57) (fun ad had=>by have:=hD.2.2.2.1 ad had; omega)
   have hOK:FetchOk w3 w7 (packZ sz (sortS ss)) sz (packDir sz (sortS ss)) x gc gd gs w5.heap.size Ai gm 0 0 ⟨0,0,0,0,0,retry.toNat,List.replicate slots.toNat default⟩ 0 0 :=
    ⟨HB.out,HC.out.fit,HC.out.even,bnext B4.out hB57,by omega,by omega,by omega,by omega,fun ad had=>by have:=hD.2.2.2.1 ad had; omega,hH,hCK,⟨⟨Int.le_refl _,Int.le_refl _⟩,⟨Int.le_refl _,Int.le_refl _⟩⟩⟩
   have HEnd:=hid (show ∃ ss,S ss/\MadeF w size ss slots retry (.returned (.pointer (some ⟨w6.heap.size,0,none⟩))) w7 from ⟨ss,HS.out,bnext (bnext B3.out B4.out) hB57,.inr ⟨HE.out,Hok.out,sz,w6.heap.size,x,gc,gd,gs,w5.heap.size,Ai,gm,g,w3,Hsz.out,HC.out,rfl,s3,by omega,hG7,hOK⟩⟩)
   clear hX6 hb6 hE7 hG7 hD hc s3 s4 s5 s6 hB57 hH hCK hOK
   go_ret
   exact HEnd.out
end
section
open Go.RowKit Go.Lib
theorem made18_any (L:List (HSamp × SampV)) (A:Option Addr) (cap:Nat) (size slots retry:Int) (w:World) (hs:SampsAt w w.heap.size A L) (hnm:∀ p ∈ L,p.2.name.size<=9223372036854775807) :
  Calls Tryz.prog 14 #[.int .i64 size,.slice A L.length cap,.int .i64 slots,.int .i64 retry] w fun e w'=>∃ ss,MadeF w size ss slots retry e w':=by
 refine (made18_core (fun _=>True) size _ slots retry w ((Few15_any L A cap w hs hnm).mono ?_)).mono ?_
 ·rintro e w' ⟨A',c,M,he,h8,_,_,hn,hs',hsm,hb⟩
  exact ⟨A',c,M,he,trivial,h8,hn,hs',hsm,hb⟩
 ·rintro e w' ⟨ss,_,h⟩
  exact ⟨ss,h⟩
theorem made18_ex (L:List (HSamp × SampV)) (A:Option Addr) (cap:Nat) (size slots retry:Int) (w:World) (hs:SampsAt w w.heap.size A L) (h8:L.length<=8) (hsm:∀ p ∈ L,p.2.small) :
  Calls Tryz.prog 14 #[.int .i64 size,.slice A L.length cap,.int .i64 slots,.int .i64 retry] w (MadeF w size (L.map Prod.snd) slots retry):=by
 refine (made18_core (fun ss=>ss=L.map Prod.snd) size _ slots retry w ((Few15_ex L A cap w hs h8 (fun p hp=>hsm p hp)).mono ?_)).mono ?_
 ·rintro e w' ⟨A',c,M,he,hm,_,_,hn,hs',hb⟩
  refine ⟨A',c,M,he,hm,?_,hn,hs',fun p hp=>?_,hb⟩
  ·have:=congrArg List.length hm
   simp only [List.length_map] at this
   omega
  ·have:p.2 ∈ L.map Prod.snd:=by rw [<-hm]; exact List.mem_map.2 ⟨p,hp,rfl⟩
   obtain ⟨q,hq,e1⟩:=List.mem_map.1 this
   rw [<-e1]; exact hsm q hq
 ·rintro e w' ⟨ss,rfl,h⟩
  exact h
theorem CanP.had {size:Nat} {SS:List SampV} (h:CanP size SS) {i c b:Int} (hE:whereE (packDir size SS) i c b=0):openE (packDir size SS) (packZ size SS) i c b (subB (packZ size SS) (whereAt (packDir size SS) size i c b).toNat size)=0 /\
  openF (packDir size SS) (packZ size SS) i c b (subB (packZ size SS) (whereAt (packDir size SS) size i c b).toNat size)=rdF (subB (packZ size SS) (whereAt (packDir size SS) size i c b).toNat size)/\rdErr (subB (packZ size SS) (whereAt (packDir size SS) size i c b).toNat size)=0:=by
 obtain ⟨m,s,d,x,e1,e2,e3,e4,e5,e6⟩:=h.asked hE
 have hc:c=(c.toNat:Nat)/\b=(b.toNat:Nat):=by
  unfold whereE at hE
  split at hE
  ·cases hE
  split at hE
  ·cases hE
  omega
 obtain ⟨_,q2,q3,_⟩:=h.opened e2 e3 e4
 have hx:openE (packDir size SS) (packZ size SS) i c b (subB (packZ size SS) (whereAt (packDir size SS) size i c b).toNat size)=0:=by
  rw [e5,e1,hc.1,hc.2]; exact q3
 refine ⟨hx,?_,?_⟩
 ·unfold openF
  rw [if_pos hx]
 ·unfold openE at hx
  rw [if_neg (by simpa using hE)] at hx
  split at hx
  ·cases hx
  split at hx
  ·cases hx
  ·rename_i h1
   simpa using h1
theorem ex15_where:whereE (packDir 24 [ex15]) 0 0 0=0:=by
 have h:=packDir_in (size:=24) (SS:=[ex15]) (m:=0) (s:=ex15) rfl (c:=0) (b:=0)
 rw [if_neg (by decide)] at h
 exact h
theorem ex15_packE:packE 24 [ex15]=0:=by
 unfold packE
 rw [if_neg (by omega)]
 exact ex15_check
def GotP (wB w:World) (bs:List Nat) (size:Nat) (D:List MetaV) (gx gc gd gs gf:Nat) (Ai:Option Addr) (gm K:Nat) (fr lo:Int) (e:Ending) (w':World):Prop :=
 ∃ fl:List Value,e=.returned (.tuple #[.agg fl.toArray,.int .i64 0])/\fl.length=29/\(∀ v ∈ fl,v.oneCell'=true)/\OnlyIn [gc,gs,gd,gf] w w'/\∃ rd' v',FetchOk wB w' bs size D gx gc gd gs gf Ai gm (K+97) rd' v' (fr+1) lo
theorem frm_cells {w w':World} {f:FrameV} {er:Int} {e:Ending} (hl:f.Len) (h:FrmPost w f er e w'):∃ (fl:List Value) (A:Option Addr) (c:Nat),e=.returned (.tuple #[.agg fl.toArray,.int .i64 er])/\fl=frC ⟨⟨A,c⟩,f⟩/\fl.length=29/\(∀ v ∈ fl,v.oneCell'=true)/\f.tones.length<=c/\c<=9223372036854775807/\Row w' w'.heap.size A (toneCells f.tones):=by
 obtain ⟨A,c,rfl,h1,h2,_,h4⟩:=h
 exact ⟨frC ⟨⟨A,c⟩,f⟩,A,c,rfl,rfl,frC_len hl,frC_one _,h1,h2,h4⟩
theorem got15 {wB w:World} {gx gc gd gs gf:Nat} {Ai:Option Addr} {gm K:Nat} {rd:Int} {v:CacheV} {fr lo:Int} (h:FetchOk wB w (packZ 24 [ex15]) 24 (packDir 24 [ex15]) gx gc gd gs gf Ai gm K rd v fr lo) (hK:K+97<=1000000) :
  Calls Tryz.prog 22 #[.pointer (some ⟨gf,0,none⟩),.int .i64 0,.int .i64 0,.int .i64 0] w (GotP wB w (packZ 24 [ex15]) 24 (packDir 24 [ex15]) gx gc gd gs gf Ai gm K fr lo):=by
 refine (fetchFrame_any h 0 0 0 hK (by rw [packZ_len ex15_can,ex15_len]; omega)).mono ?_
 rintro e w' ⟨hF,hO,rd',v',hK'⟩
 obtain ⟨h1,_,_⟩:=ex15_can.had ex15_where
 rw [if_pos ex15_where,if_neg (by rw [h1]; exact fun h=>h.2 rfl)] at hK'
 rw [h1] at hF
 obtain ⟨fl,A,c,he,_,hl,h1c,_⟩:=frm_cells (openF_len _ _ _ _ _ _) hF
 exact ⟨fl,he,hl,h1c,hO,rd',v',hK'⟩
theorem FetchOk.keep {wB w w':World} {bs:List Nat} {size:Nat} {D:List MetaV} {gx gc gd gs gf:Nat} {Ai:Option Addr} {gm K:Nat} {rd:Int} {v:CacheV} {fr lo:Int} (h:FetchOk wB w bs size D gx gc gd gs gf Ai gm K rd v fr lo) {r:Nat} {T:TypeId} {xs:List Value} (hr:Blk w r T xs) (h1:188 ≠ T) (h2:247 ≠ T) (h3:232 ≠ T) (h4:44 ≠ T) (hO:OnlyIn [gc,gs,gd,gf] w w'):Blk w' r T xs:=by
 obtain ⟨cd,hd⟩:=h.cache.disk.blk
 have n1:=blk_ne h.cache.cache.head hr h1
 have n2:=blk_ne h.cache.cache.slots hr h2
 have n3:=blk_ne hd hr h3
 have n4:=blk_ne h.head hr h4
 refine hO.heap hr ?_
 simp only [List.mem_cons,List.not_mem_nil,or_false]
 omega
theorem FetchOk.under {wB w w':World} {bs:List Nat} {size:Nat} {D:List MetaV} {gx gc gd gs gf:Nat} {Ai:Option Addr} {gm K:Nat} {rd:Int} {v:CacheV} {fr lo:Int} (h:FetchOk wB w bs size D gx gc gd gs gf Ai gm K rd v fr lo) (hO:OnlyIn [gc,gs,gd,gf] w w'):Below wB.heap.size w w':=by
 have a1:=h.cN
 have a2:=h.sN
 have a3:=h.dN
 have a4:=h.fN
 refine hO.below (fun x hx=>?_) h.old.size
 simp only [List.mem_cons,List.not_mem_nil,or_false] at hx
 omega
theorem awake18_any (w:World):Calls Tryz.prog 27 #[] w fun e w'=>e=.returned (.bool true)/\Below w.heap.size w w':=by
 obtain ⟨w0,hw0⟩:∃ w0,((w.alloc (.cells #[.int .i64 5] 3)).alloc (.cells #[.slice (some ⟨w.heap.size,0,none⟩) 1 1] 86)).alloc (.cells #[.string ⟨#[97]⟩,.int .i64 1,.bool false,.int .i64 0,.int .i64 0,.slice (some ⟨w.heap.size+1,0,none⟩) 1 1] 138)=w0:=⟨_,rfl⟩
 have hB0:Below w.heap.size w w0:=by
  rw [<-hw0]; exact ((bnew w _).alloc (by simp) _).alloc (by simp; omega) _
 have hat:=one_at w ⟨#[97]⟩ [5] 1 rfl (by omega) 3 86 138
 have hm:=made18_ex [(oneH ⟨#[97]⟩ (w.heap.size+1),ex15)] (some ⟨w.heap.size+2,0,none⟩) 1 24 1 0 w0 (by rw [<-hw0]; exact hat.more (by simp)) (by show (1:Nat)<=8; omega) (fun p hp=>by rw [List.mem_singleton] at hp; subst hp; exact ex15_small _ (by simp))
 have HM:=hid (show Calls Tryz.prog 14 #[.int .i64 24,.slice (some ⟨w.heap.size+1+1,0,none⟩) 1 1,.int .i64 1,.int .i64 0] w0 (fun e w'=>Below w0.heap.size w0 w'/\∃ ga gx gc gd gs gf Ai gm gi wB rd v,e=.returned (.pointer (some ⟨ga,0,none⟩))/\w0.heap.size<=wB.heap.size/\Blk w' ga 32 [.pointer (some ⟨gx,0,none⟩),.pointer (some ⟨gd,0,none⟩),.pointer (some ⟨gf,0,none⟩),.slice (some ⟨gi,0,none⟩) 128 128]/\FetchOk wB w' (packZ 24 [ex15]) 24 (packDir 24 [ex15]) gx gc gd gs gf Ai gm 0 rd v 0 0) from hm.mono (by
  rintro e w' ⟨hb,⟨hbad,_⟩ | ⟨_,_,sz,ga,gx,gc,gd,gs,gf,Ai,gm,gi,wB,hsz,hC,he,hwB,hga,hG,hK⟩⟩
  ·rcases hbad with h | h
   ·exact absurd ex15_packE h
   ·unfold cacheBad at h; omega
  ·obtain rfl:sz=24:=by omega
   rw [show sortS ([(oneH ⟨#[97]⟩ (w.heap.size+1),ex15)].map Prod.snd)=[ex15] from one_sort ex15] at hG hK
   rw [ex15_len] at hG
   exact ⟨hb,ga,gx,gc,gd,gs,gf,Ai,gm,gi,wB,_,_,he,hwB,hG,hK⟩))
 have HB0:=hid hB0
 have HFz:=hid (fun (fl:List Value) (h:fl.length=29)=>(show (Tryz.prog.info? 50).map (·.size)=some fl.toArray.size by rw [List.size_toArray,h]; exact inf_frame))
 have HFa:=hid (fun (fl:List Value) (h:∀ v ∈ fl,v.oneCell'=true)=>(show fl.toArray.all (·.oneCell')=true by
  rw [Array.all_eq_true_iff_forall_mem]
  intro v hv
  exact h v (by simpa using hv)))
 clear hm hat hB0
 go_enter Tryz.func27,Tryz.ntmps27
 go_wp2_with (go_at_call 14; fail)
 refine HM.out.mono ?_
 rintro e w1 ⟨hb1,ga,gx,gc,gd,gs,gf,Ai,gm,gi,wB,rd,v,rfl,hwB,hG,hK⟩
 have E1:=hid (bnext HB0.out hb1)
 have G1:=hid hG
 have K1:=hid hK
 have HwB:=hid (show w.heap.size<=wB.heap.size from Nat.le_trans HB0.out.size hwB)
 have HG1:=hid (got15 hK (by omega))
 have a2:w1.cell? ⟨ga,2,none⟩=some (.pointer (some ⟨gf,0,none⟩)):=hG.cell 2
 unfold GotP at HG1
 clear hb1 hG hK hwB hw0 HM HB0
 go_wp2_with (go_at_call 22; fail)
 refine HG1.out.mono ?_
 rintro e w2 ⟨fl,rfl,hl,h1c,hO,rd2,v2,hK⟩
 have U2:=hid ((K1.out.under hO).mono HwB.out)
 have G2:=hid (K1.out.keep G1.out (by decide) (by decide) (by decide) (by decide) hO)
 have Hz2:=hid (HFz.out fl hl)
 have Ha2:=hid (HFa.out fl h1c)
 have Hl2:=hid (show fl.toArray.size=29 by rw [List.size_toArray,hl])
 obtain ⟨w3,hw3⟩:∃ w3,w2.alloc (.cells fl.toArray 50)=w3:=⟨_,rfl⟩
 have B3:=hid (show Below w2.heap.size w2 w3 by rw [<-hw3]; exact bnew w2 _)
 have K3:=hid (hK.later B3.out)
 have G3:=hid (G2.out.below B3.out G2.out.lt)
 have E3:=hid (show Below w.heap.size w w3 from bnext (E1.out.trans U2.out) B3.out)
 have HG3:=hid (got15 K3.out (by omega))
 have b2:w3.cell? ⟨ga,2,none⟩=some (.pointer (some ⟨gf,0,none⟩)):=G3.out.cell 2
 have Hw3:=hid hw3
 unfold GotP at HG3
 clear hl h1c hO hK hw3 HG1
 go_wp2_with (first | (refine wpList_store_row_w rfl 50 (.tmp 2) (.tmp 19) rfl w2.heap.size rfl _ _ fl.toArray rfl (heap_alloc_new w2 _) Hz2.out (by rw [Hl2.out]; rfl) Ha2.out ?_; rw [World.setRow_alloc_new,Hw3.out]) | (go_at_call 22; fail))
 refine HG3.out.mono ?_
 rintro e w4 ⟨fm,rfl,hl,h1c,hO,rd4,v4,hK⟩
 have U4:=hid ((K3.out.under hO).mono HwB.out)
 have G4:=hid (K3.out.keep G3.out (by decide) (by decide) (by decide) (by decide) hO)
 have Hz4:=hid (HFz.out fm hl)
 have Ha4:=hid (HFa.out fm h1c)
 have Hl4:=hid (show fm.toArray.size=29 by rw [List.size_toArray,hl])
 obtain ⟨w5,hw5⟩:∃ w5,w4.alloc (.cells fm.toArray 50)=w5:=⟨_,rfl⟩
 have B5:=hid (show Below w4.heap.size w4 w5 by rw [<-hw5]; exact bnew w4 _)
 have K5:=hid (hK.later B5.out)
 have G5:=hid (G4.out.below B5.out G4.out.lt)
 have E5:=hid (show Below w.heap.size w w5 from bnext (E3.out.trans U4.out) B5.out)
 have c2:w5.cell? ⟨ga,2,none⟩=some (.pointer (some ⟨gf,0,none⟩)):=G5.out.cell 2
 have HFr:=hid (fetchFrames_any K5.out.head)
 have HMi:=hid (fetchMissed_any K5.out.head)
 have Hw5:=hid hw5
 clear hl h1c hO hK hw5 HG3
 go_wp2_with (first | (refine wpList_store_row_w rfl 50 (.tmp 4) (.tmp 27) rfl w4.heap.size rfl _ _ fm.toArray rfl (heap_alloc_new w4 _) Hz4.out (by rw [Hl4.out]; rfl) Ha4.out ?_; rw [World.setRow_alloc_new,Hw5.out]) | (go_at_call 25; refine HFr.out.mono ?_; rintro e w' ⟨rfl,rfl⟩) | (go_at_call 26; refine HMi.out.mono ?_; rintro e w' ⟨rfl,rfl⟩))
 go_ret
 exact ⟨rfl,E5.out⟩
end
section
open Go.RowKit Go.Lib
noncomputable def hadF (D:List MetaV) (bs:List Nat) (size:Nat) (i c b:Int):FrameV:=if whereE D i c b=0 then rdF (subB bs (whereAt D size i c b).toNat size) else zeroFr
theorem hadF_len (D:List MetaV) (bs:List Nat) (size:Nat) (i c b:Int):(hadF D bs size i c b).Len:=by
 unfold hadF
 split
 ·exact rdF_len' _
 ·exact ⟨rfl,rfl,rfl,rfl⟩
theorem rdF_two (B:List Nat):(rdF B).tones.length<=2:=by
 unfold rdF
 split
 ·rename_i h
  have:RightF (frameR B):=by
   unfold rdErr at h
   split at h
   ·rename_i h1; exact absurd h h1
   ·split at h
    ·assumption
    ·cases h
  exact this.tlen
 ·exact Nat.zero_le _
theorem hadF_two (D:List MetaV) (bs:List Nat) (size:Nat) (i c b:Int):(hadF D bs size i c b).tones.length<=2:=by
 unfold hadF
 split
 ·exact rdF_two _
 ·exact Nat.zero_le _
def FetQ (wB w:World) (bs:List Nat) (size:Nat) (D:List MetaV) (gx gc gd gs gf:Nat) (Ai:Option Addr) (gm K:Nat) (fr:Int) (i c b:Int) (e:Ending) (w':World):Prop :=
 ∃ (fl:List Value) (A:Option Addr) (cc:Nat),e=.returned (.tuple #[.agg fl.toArray,.int .i64 (whereE D i c b)])/\fl=frC ⟨⟨A,cc⟩,hadF D bs size i c b⟩/\fl.length=29/\(∀ v ∈ fl,v.oneCell'=true)/\Row w' w'.heap.size A (toneCells (hadF D bs size i c b).tones)/\((hadF D bs size i c b).tones=[]\/∃ g,A=some ⟨g,0,none⟩/\w.heap.size<=g) /\
  OnlyIn [gc,gs,gd,gf] w w'/\∃ rd' v',FetchOk wB w' bs size D gx gc gd gs gf Ai gm (K+97) rd' v' (if whereE D i c b=0 then fr+1 else fr) 0
theorem frm_cells2 {w w':World} {f:FrameV} {er:Int} {e:Ending} (hl:f.Len) (h:FrmPost w f er e w'):∃ (fl:List Value) (A:Option Addr) (c:Nat),e=.returned (.tuple #[.agg fl.toArray,.int .i64 er])/\fl=frC ⟨⟨A,c⟩,f⟩/\fl.length=29/\(∀ v ∈ fl,v.oneCell'=true)/\Row w' w'.heap.size A (toneCells f.tones)/\(f.tones=[]\/∃ g,A=some ⟨g,0,none⟩/\w.heap.size<=g):=by
 obtain ⟨A,c,rfl,h1,h2,h3,h4⟩:=h
 exact ⟨frC ⟨⟨A,c⟩,f⟩,A,c,rfl,rfl,frC_len hl,frC_one _,h4,h3⟩
theorem had_any {SS:List SampV} {wB w:World} {size:Nat} {gx gc gd gs gf:Nat} {Ai:Option Addr} {gm K:Nat} {rd:Int} {v:CacheV} {fr:Int} (hC:CanP size SS) (h:FetchOk wB w (packZ size SS) size (packDir size SS) gx gc gd gs gf Ai gm K rd v fr 0) (i c b:Int) (hK:K+97<=1000000) :
  Calls Tryz.prog 22 #[.pointer (some ⟨gf,0,none⟩),.int .i64 i,.int .i64 c,.int .i64 b] w (FetQ wB w (packZ size SS) size (packDir size SS) gx gc gd gs gf Ai gm K fr i c b):=by
 have h0:0 < (packZ size SS).length:=by
  rw [packZ_len hC]
  have:=hC.len_bd
  omega
 refine (fetchFrame_any h i c b hK h0).mono ?_
 rintro e w' ⟨hF,hO,rd',v',hK'⟩
 by_cases hE:whereE (packDir size SS) i c b=0
 ·obtain ⟨h1,h2,_⟩:=hC.had hE
  rw [show (if whereE (packDir size SS) i c b=0/\openE (packDir size SS) (packZ size SS) i c b (subB (packZ size SS) (whereAt (packDir size SS) size i c b).toNat size) ≠ 0 then (0:Int)+1 else 0)=0 from if_neg (fun h=>h.2 h1)] at hK'
  rw [h1,h2] at hF
  have hh:hadF (packDir size SS) (packZ size SS) size i c b=rdF (subB (packZ size SS) (whereAt (packDir size SS) size i c b).toNat size):=if_pos hE
  obtain ⟨fl,A,cc,he,hfl,hl,h1c,hr,hfr⟩:=frm_cells2 (rdF_len' _) hF
  exact ⟨fl,A,cc,by rw [hE]; exact he,by rw [hh]; exact hfl,hl,h1c,by rw [hh]; exact hr,by rw [hh]; exact hfr,hO,rd',v',hK'⟩
 ·obtain ⟨h1,h2⟩:=openE_where (bs:=packZ size SS) (B:=subB (packZ size SS) (whereAt (packDir size SS) size i c b).toNat size) hE
  rw [show (if whereE (packDir size SS) i c b=0/\openE (packDir size SS) (packZ size SS) i c b (subB (packZ size SS) (whereAt (packDir size SS) size i c b).toNat size) ≠ 0 then (0:Int)+1 else 0)=0 from if_neg (fun h=>hE h.1)] at hK'
  rw [h1,h2] at hF
  have hh:hadF (packDir size SS) (packZ size SS) size i c b=zeroFr:=if_neg hE
  obtain ⟨fl,A,cc,he,hfl,hl,h1c,hr,hfr⟩:=frm_cells2 (f:=zeroFr) ⟨rfl,rfl,rfl,rfl⟩ hF
  exact ⟨fl,A,cc,he,by rw [hh]; exact hfl,hl,h1c,by rw [hh]; exact hr,by rw [hh]; exact hfr,hO,rd',v',hK'⟩
def BytR (w:World) (size:Nat) (ys:List Nat) (E:Int) (e:Ending) (w':World):Prop :=
 ∃ A k c,e=.returned (.tuple #[.slice A k c,.int .i64 E])/\Below w.heap.size w w'/\(E=0->k=size/\size<=c/\c<=9223372036854775807/\Row w' w'.heap.size A (u8s ys))
theorem bytR {w:World} {D:List MetaV} {bs:List Nat} {size:Nat} {i c b:Int} {e:Ending} {w':World} (h:BytesP w D bs size i c b e w'):BytR w size (subB bs (whereAt D size i c b).toNat size) (whereE D i c b) e w':=by
 obtain ⟨hb,⟨h1,rfl⟩ | ⟨h1,A,c',rfl,h2,h3,_,h5⟩⟩:=h
 ·exact ⟨none,0,0,rfl,hb,fun h=>absurd h h1⟩
 ·exact ⟨A,size,c',by rw [h1],hb,fun _=>⟨rfl,h2,h3,h5⟩⟩
abbrev whoTy:Ty:=.pair (.int .i64) 1 (.pair (.int .i64) 1 (.pair (.int .i64) 1 (.unit)))
def whoC (L:List (Int × Int × Int)):List Value:=(L.map fun p=>[Value.int .i64 p.1,.int .i64 p.2.1,.int .i64 p.2.2]).flatten
theorem whoC_get (L:List (Int × Int × Int)) {k:Nat} {p:Int × Int × Int} (h:L[k]? = some p) (j:Nat) (hj:j < 3):(whoC L)[k*3+j]? = ([Value.int .i64 p.1,.int .i64 p.2.1,.int .i64 p.2.2]:List Value)[j]?:=by
 unfold whoC
 rw [flat_get 3 _ (fun cs hcs=>by obtain ⟨z,_,rfl⟩:=List.mem_map.1 hcs; rfl) k j hj]
 simp [h]
theorem who_of:∀ (css:List (List Value)) (w:World),(∀ cs ∈ css,Shape w whoTy cs)->∃ L:List (Int × Int × Int),L.length=css.length/\css.flatten=whoC L
 | [],_,_=>⟨[],rfl,rfl⟩
 | cs :: r,w,h=>by
  obtain ⟨c1,r1,rfl,⟨a,rfl,_,_⟩,c2,r2,rfl,⟨b,rfl,_,_⟩,c3,r3,rfl,⟨c,rfl,_,_⟩,rfl⟩:=h cs (by simp)
  obtain ⟨L,h2,h3⟩:=who_of r w (fun c hc=>h c (by simp [hc]))
  exact ⟨(a,b,c) :: L,by simp [h2],by rw [List.flatten_cons,h3]; rfl⟩
theorem who_arg {w:World} {v:Value} (h:Arg w (.slice 3 whoTy) v) :
  ∃ (L:List (Int × Int × Int)) (A:Option Addr) (cap:Nat),v=.slice A L.length cap/\L.length<=9223372036854775807/\Row w w.heap.size A (whoC L):=by
 obtain ⟨a,len,cap,hv,h1,h2,h3,h4⟩:=h
 obtain ⟨css,hl,_,hs,hrow⟩:=rows_of_shape h4
 obtain ⟨L,q1,q2⟩:=who_of css w hs
 injection hv with hv
 subst hv
 rw [q2] at hrow
 exact ⟨L,a,cap,by rw [q1,hl],by omega,hrow⟩
end
section
open Go.RowKit Go.Lib
theorem FetchClean_walk (size0 slots:Int) (L0:List (HSamp × SampV)) (A0:Option Addr) (cap0:Nat) (Lw:List (Int × Int × Int)) (Aw:Option Addr) (capw:Nat) (w:World) (hs0:SampsAt w w.heap.size A0 L0) (hnm:∀ p ∈ L0,p.2.name.size<=9223372036854775807)
  (hlw:Lw.length<=9223372036854775807) (hrw:Row w w.heap.size Aw (whoC Lw)) :
  Calls Tryz.prog 6 #[.int .i64 size0,.slice A0 L0.length cap0,.int .i64 slots,.slice Aw Lw.length capw] w fun e w'=>e=.returned (.bool true)/\Below w.heap.size w w':=by
 have HM:=hid (made18_any L0 A0 cap0 size0 slots 0 w hs0 hnm)
 have HAw:=hid (fun W=>awake18_any W)
 have HRw:=hid hrw
 unfold MadeF at HM
 generalize L0.length=l0 at *
 obtain ⟨lw,hlw0⟩:∃ lw,Lw.length=lw:=⟨_,rfl⟩
 rw [hlw0] at hlw ⊢
 have Hlw:=hid hlw0
 have HFz:=hid (show (Tryz.prog.info? 50).map (·.size)=some zeroF.size from inf_frame)
 have H3:=hid (show (Tryz.prog.info? 69).map (·.size)=some 3 by kernel_rfl)
 clear hs0 hnm hlw0 hrw
 go_enter Tryz.func6,Tryz.ntmps6
 go_wp2_with (go_at_call 14; fail)
 refine HM.out.mono ?_
 rintro e w1 ⟨ss,hb1,⟨_,rfl⟩ | ⟨_,_,size,ga,gx,gc,gd,gs,gf,Ai,gm,gi,wB,hsz,hC,rfl,hwB,hga,hG,hK⟩⟩
 ·have B1:=hid hb1
  clear hb1
  go_wp2_with (go_at_call 27; refine (HAw.out w1).mono ?_; rintro e w' ⟨rfl,hb2⟩)
  go_ret
  exact ⟨rfl,bnext B1.out hb2⟩
 ·have B1:=hid hb1
  have G1:=hid hG
  have K1:=hid hK
  have HCan:=hid hC
  have HwB:=hid hwB
  obtain ⟨pl,hpl⟩:∃ pl,packLen size (sortS ss)=pl:=⟨_,rfl⟩
  rw [hpl] at G1
  generalize sortS ss=SS at *
  obtain ⟨bs,hbs⟩:∃ bs,packZ size SS=bs:=⟨_,rfl⟩
  obtain ⟨D,hD⟩:∃ D,packDir size SS=D:=⟨_,rfl⟩
  have HHad:=hid (fun (W:World) (K:Nat) rd v fr i c b (h:FetchOk wB W (packZ size SS) size (packDir size SS) gx gc gd gs gf Ai gm K rd v fr 0) (hK:K+97<=1000000)=>had_any (wB:=wB) hC h i c b hK)
  have HHr:=hid (fun i c b (hE:whereE (packDir size SS) i c b=0)=>(hC.had hE).2.2)
  rw [hbs,hD] at HHad HHr K1
  have HDl:=hid (show D.length<=64 from K1.out.fit.many)
  have HbL:=hid (show 0 < bs.length by rw [<-hbs,packZ_len hC]; have:=hC.len_bd; omega)
  have HwB2:=hid (show w.heap.size<=wB.heap.size from hwB)
  clear hb1 hsz hC hwB hga hG hK hbs hD hpl HM
  go_wp2_with fail
  go_loopw [11,10] (fun i t wr=>∃ (m n:Nat) (rd:Int) (v:CacheV),(m<=lw/\m<=40)/\n<=m/\i=.int .i64 m/\t=.int .i64 n/\Blk wr ga 32 [.pointer (some ⟨gx,0,none⟩),.pointer (some ⟨gd,0,none⟩),.pointer (some ⟨gf,0,none⟩),.slice (some ⟨gi,0,none⟩) pl pl]/\FetchOk wB wr bs size D gx gc gd gs gf Ai gm (97*m) rd v n 0/\Below w.heap.size w wr) (fun i _ _=>40 - (intOf i).toNat)
  case atStart=>exact ⟨0,0,_,_,by omega,by omega,rfl,rfl,G1.out,K1.out,B1.out⟩
  case round =>
   obtain ⟨m,n,rd,v,hm,hn,rfl,rfl,hGr,hKr,hbel⟩:=hrel
   have Gr:=hid hGr
   have Kr:=hid hKr
   have Er:=hid hbel
   clear hGr hKr hbel
   obtain ⟨wa,rfl⟩:∃ wa,wa=wr:=⟨_,rfl⟩
   by_cases hlt':m < lw/\m < 40
   ·obtain ⟨hml,hm40⟩:=hlt'
    have t1:(m:Int) < (lw:Int):=by omega
    have t2:(m:Int) < 40:=by omega
    have t3:(0:Int)<=(m:Int):=by omega
    have d1:decide ((m:Int) < (lw:Int))=true:=decide_eq_true t1
    obtain ⟨p,hp⟩:=list_get (k:=m) Hlw.out hml
    obtain ⟨ii,cc,bb⟩:=p
    have h0:=whoC_get Lw hp 0 (by omega)
    obtain ⟨bW,oW,rfl,hbW,_⟩:=(HRw.out.later Er.out) (m*3+0) _ h0
    have HXw:=hid (fun (j:Nat) x (hx:([Value.int .i64 ii,.int .i64 cc,.int .i64 bb]:List Value)[j]? = some x)=>(show wa.cell? ⟨bW,oW+m*3+j,none⟩=some x from by
     have hj:j < 3:=(List.getElem?_eq_some_iff.1 hx).1
     obtain ⟨b',o',hA,_,hc⟩:=(HRw.out.later Er.out) (m*3+j) x ((whoC_get Lw hp j hj).trans hx)
     injection hA with hA
     injection hA with e1 e2
     subst e1 e2
     rw [Nat.add_assoc]
     exact hc))
    have hsz2:=Er.out.size
    obtain ⟨wb,hwb⟩:∃ wb,wa.alloc (.cells #[.int .i64 ii,.int .i64 cc,.int .i64 bb] 69)=wb:=⟨_,rfl⟩
    obtain ⟨gw,hgw⟩:∃ gw,wa.heap.size=gw:=⟨_,rfl⟩
    have Bb:=hid (show Below wa.heap.size wa wb by rw [<-hwb]; exact bnew wa _)
    have Wb:=hid (show Blk wb gw 69 [.int .i64 ii,.int .i64 cc,.int .i64 bb] by rw [<-hwb,<-hgw]; exact Blk.new wa _ _)
    have Gb:=hid (Gr.out.below Bb.out Gr.out.lt)
    have Kb:=hid (Kr.out.later Bb.out)
    have Eb:=hid (bnext Er.out Bb.out)
    have x2:=fun (z:GW wb)=>(show z.1.cell? ⟨ga,2,none⟩=some (.pointer (some ⟨gf,0,none⟩)) from (z.2.cell (p:=⟨ga,2,none⟩) Gb.out.lt).trans (Gb.out.cell 2))
    have v0:=fun (z:GW wb)=>(show z.1.cell? ⟨gw,0,none⟩=some (.int .i64 ii) from (z.2.cell (p:=⟨gw,0,none⟩) Wb.out.lt).trans (Wb.out.cell 0))
    have v1:=fun (z:GW wb)=>(show z.1.cell? ⟨gw,1,none⟩=some (.int .i64 cc) from (z.2.cell (p:=⟨gw,1,none⟩) Wb.out.lt).trans (Wb.out.cell 1))
    have v2:=fun (z:GW wb)=>(show z.1.cell? ⟨gw,2,none⟩=some (.int .i64 bb) from (z.2.cell (p:=⟨gw,2,none⟩) Wb.out.lt).trans (Wb.out.cell 2))
    obtain ⟨AT,hAT⟩:∃ AT,whereAt D size ii cc bb=AT:=⟨_,rfl⟩
    obtain ⟨VS,hVS⟩:∃ VS,whereSum D bs ii cc bb=VS:=⟨_,rfl⟩
    obtain ⟨EE,hEE⟩:∃ EE,whereE D ii cc bb=EE:=⟨_,rfl⟩
    obtain ⟨HF,hHF⟩:∃ HF,hadF D bs size ii cc bb=HF:=⟨_,rfl⟩
    have HAT:=hid hAT
    have HVS:=hid hVS
    have HEE:=hid hEE
    have HHF:=hid hHF
    have HHd:=hid (HHr.out ii cc bb)
    have HTwo:=hid (show HF.tones.length<=2 by rw [<-hHF]; exact hadF_two _ _ _ _ _ _)
    have HFr:=hid (fun (V:World) (hV:FetchOk wB V bs size D gx gc gd gs gf Ai gm (97*m) rd v n 0)=>HHad.out V (97*m) rd v n ii cc bb hV (by omega))
    unfold FetQ at HFr
    rw [hEE,hHF] at HFr
    have Hgw:=hid hgw
    have Hwb:=hid hwb
    clear hp h0 hbW hAT hVS hEE hHF hwb
    go_wp2_with (first | (refine wpList_load_part_w rfl 69 (.tmp 41) rfl bW (oW+m*3) rfl [.int .i64 ii,.int .i64 cc,.int .i64 bb] _ HXw.out Tryz.underlying69 rfl H3.out ?_) | (refine wpList_store_row_w rfl 69 (.tmp 12) (.tmp 42) rfl wa.heap.size rfl _ _ #[.int .i64 ii,.int .i64 cc,.int .i64 bb] rfl (heap_alloc_new wa _) H3.out rfl rfl ?_; rw [World.setRow_alloc_new,Hwb.out]))
    rw [Hwb.out]
    refine wp_region_float 10 (o:=.cells zeroF 50) (by kernel_rfl) rfl (by kernel_rfl) rfl rfl rfl rfl (fun _ _=>rfl) (fun c a' w' d v h=>by cases d <;> exact h) ?_
    simp only [List.take_succ_cons,List.take_zero]
    simp only [Act.put]
    repeat (go_big_quiet_step (fail))
    refine wpQuiet_nil ?_
    intro w9 hw'
    have B9:=hid (gw_below hw')
    have G9:=hid (Gb.out.below B9.out Gb.out.lt)
    have W9:=hid (Wb.out.below B9.out Wb.out.lt)
    have K9:=hid (Kb.out.later B9.out)
    have E9:=hid (bnext Eb.out B9.out)
    have HFl:=hid (show HF.Len by rw [<-HHF.out]; exact hadF_len _ _ _ _ _ _)
    clear hw' x2 v0 v1 v2
    refine ⟨?A,?B⟩
    case' A =>
     have BA:=hid (bnew w9 (.cells zeroF 50))
     have FA:=hid (show Blk (w9.alloc (.cells zeroF 50)) w9.heap.size 50 zeroF.toList from Blk.new w9 _ _)
     have HFA:=hid (HFr.out _ (K9.out.later BA.out))
     have KA:=hid (K9.out.later BA.out)
     have G9a:=hid (G9.out.below BA.out G9.out.lt)
     have W9a:=hid (W9.out.below BA.out W9.out.lt)
     go_wp2_with (go_at_call 22; fail)
     refine HFA.out.mono ?_
     intro e w10 hq
     obtain ⟨fl,At,ca,rfl,hfl,hl,h1c,hTr,hfr,hO,rdW,vW,hKW⟩:=hq
     have hfs:fl.toArray.size=29:=by rw [List.size_toArray,hl]
     have Hfs:=hid hfs
     have HFf:=hid (show (Tryz.prog.info? 50).map (·.size)=some fl.toArray.size by rw [hfs]; exact inf_frame)
     have Hf1:=hid (show fl.toArray.all (·.oneCell')=true by
      rw [Array.all_eq_true_iff_forall_mem]
      intro v hv
      exact h1c v (by simpa using hv))
     have Hfl:=hid (show fl.toArray=frameA HF (.slice At HF.tones.length ca) by rw [hfl]; rfl)
     obtain ⟨gF,hgF⟩:∃ gF,w9.heap.size=gF:=⟨_,rfl⟩
     have hza:(w9.alloc (.cells zeroF 50)).heap.size=gF+1:=by simp [hgF]
     have FA10:=hid (show Blk w10 gF 50 zeroF.toList by rw [<-hgF]; exact KA.out.keep FA.out (by decide) (by decide) (by decide) (by decide) hO)
     have G10:=hid (KA.out.keep G9a.out (by decide) (by decide) (by decide) (by decide) hO)
     have W10:=hid (KA.out.keep W9a.out (by decide) (by decide) (by decide) (by decide) hO)
     obtain ⟨W,hW⟩:∃ W,w10.setRow gF fl.toArray=W:=⟨_,rfl⟩
     have O2:=hid (show OnlyIn [gF] w10 W by rw [<-hW]; exact OnlyIn.rowSet _ _ _)
     have GW_:=hid (show Blk W ga 32 [.pointer (some ⟨gx,0,none⟩),.pointer (some ⟨gd,0,none⟩),.pointer (some ⟨gf,0,none⟩),.slice (some ⟨gi,0,none⟩) pl pl] from O2.out.heap G10.out (by simpa using blk_ne G10.out FA10.out (by decide)))
     have WW:=hid (show Blk W gw 69 [.int .i64 ii,.int .i64 cc,.int .i64 bb] from O2.out.heap W10.out (by simpa using blk_ne W10.out FA10.out (by decide)))
     have FW:=hid (show W.heap[gF]? = some (.cells fl.toArray 50 (0,0)) by rw [<-hW]; exact setRow_heap _ _ _ _ _ _ FA10.out)
     have TW:=hid (show Row W W.heap.size At (toneCells HF.tones) by
      rcases hfr with h0 | ⟨g',h1,h2⟩
      ·rw [h0]
       exact fun i v hv=>by simp [toneCells] at hv
      ·refine O2.out.row hTr (fun ad had=>?_)
       rw [had] at h1
       injection h1 with h1
       rw [h1]
       simp only [List.mem_singleton]
       omega)
     have KW:=hid (hKW.other (r:=gF) FA10.out (by have:=K9.out.old.size; omega) (fun ad had=>by have:=K9.out.cache.img_lt HbL.out ad had; omega) O2.out)
     have EW:=hid (show Below w.heap.size w W by
      have h1:=(bnext E9.out BA.out).trans ((KA.out.under hO).mono HwB2.out)
      rw [<-hW]
      exact setRow_below h1 _ (by have:=E9.out.size; omega) _)
     have Hsz:=hid EW.out.size
     have HW:=hid hW
     have HgF:=hid hgF
     clear hfl hl h1c hTr hfr hO hKW hfs hW hza hgF
     rw [HgF.out]
     go_wp2_with (refine wpList_store_row_w rfl 50 (.tmp 13) (.tmp 55) rfl gF rfl _ _ fl.toArray rfl FA10.out HFf.out (by rw [Hfs.out]; rfl) Hf1.out ?_; rw [HW.out])
     clear HFA FA BA KA G9a W9a G10 W10 O2 FA10 HW HgF
     have y0:=fun (z:GW W)=>(show z.1.cell? ⟨ga,0,none⟩=some (.pointer (some ⟨gx,0,none⟩)) from (z.2.cell (p:=⟨ga,0,none⟩) GW_.out.lt).trans (GW_.out.cell 0))
     have w0:=fun (z:GW W)=>(show z.1.cell? ⟨gw,0,none⟩=some (.int .i64 ii) from (z.2.cell (p:=⟨gw,0,none⟩) WW.out.lt).trans (WW.out.cell 0))
     have w1:=fun (z:GW W)=>(show z.1.cell? ⟨gw,1,none⟩=some (.int .i64 cc) from (z.2.cell (p:=⟨gw,1,none⟩) WW.out.lt).trans (WW.out.cell 1))
     have w2:=fun (z:GW W)=>(show z.1.cell? ⟨gw,2,none⟩=some (.int .i64 bb) from (z.2.cell (p:=⟨gw,2,none⟩) WW.out.lt).trans (WW.out.cell 2))
     have HWh:=hid (fun V (hV:Below W.heap.size W V)=>Where_any gx size bs D ii cc bb V ((KW.out.later hV).bankAt) KW.out.fit)
     unfold WherePost at HWh
     rw [HAT.out,HVS.out,HEE.out] at HWh
     go_wp2_with fail
     refine wp_region_calm_head 10 #[true,true,true,true,true,true,true,true,true,true,false,false,false,false,false,false,false,false] (by kernel_rfl) (by kernel_rfl) ?_
     simp only [List.take_succ_cons,List.take_zero]
     repeat (go_big_quiet_step (fail))
     refine wpQuiet_nil ?_
     intro w20 hw'
     have B20:=hid (gw_below hw')
     clear hw' y0 w0 w1 w2
     change wpAny _ _ _ _ 8 _ _ _
     refine wpAny_ready (rs:=[10]) (by kernel_rfl) (by simp) ?_
     refine AllReady.cons rfl (fun K hK=>?_) AllReady.nil
     go_simp
     go_wp2_with (go_at_call 35; refine (HWh.out w20 B20.out).mono ?_; rintro e w21 ⟨rfl,hb21⟩)
     refine wpAny_take (i:=11) (v:=?_) rfl (by kernel_rfl) (by kernel_rfl) (by kernel_rfl) (fun _ _ _ h=>h) (Or.inl ⟨by rfl,?_⟩) ?_
     rotate_left
     ·intro w; go_simp; try (with_reducible rfl)
     simp only [Act.put,List.getElem_toArray,List.getElem_cons_succ,List.getElem_cons_zero,List.setIfInBounds_toArray,List.set_cons_succ,List.set_cons_zero]
     refine wpAny_take (i:=12) (v:=?_) rfl (by kernel_rfl) (by kernel_rfl) (by kernel_rfl) (fun _ _ _ h=>h) (Or.inl ⟨by rfl,?_⟩) ?_
     rotate_left
     ·intro w; go_simp; try (with_reducible rfl)
     simp only [Act.put,List.getElem_toArray,List.getElem_cons_succ,List.getElem_cons_zero,List.setIfInBounds_toArray,List.set_cons_succ,List.set_cons_zero]
     refine wpAny_take (i:=13) (v:=?_) rfl (by kernel_rfl) (by kernel_rfl) (by kernel_rfl) (fun _ _ _ h=>h) (Or.inl ⟨by rfl,?_⟩) ?_
     rotate_left
     ·intro w; go_simp; try (with_reducible rfl)
     simp only [Act.put,List.getElem_toArray,List.getElem_cons_succ,List.getElem_cons_zero,List.setIfInBounds_toArray,List.set_cons_succ,List.set_cons_zero]
     refine wpAny_take (i:=14) (v:=?_) rfl (by kernel_rfl) (by kernel_rfl) (by kernel_rfl) (fun _ _ _ h=>h) (Or.inl ⟨by rfl,?_⟩) ?_
     rotate_left
     ·intro w; go_simp; try (with_reducible rfl)
     simp only [Act.put,List.getElem_toArray,List.getElem_cons_succ,List.getElem_cons_zero,List.setIfInBounds_toArray,List.set_cons_succ,List.set_cons_zero]
     refine wpAny_take (i:=15) (v:=?_) rfl (by kernel_rfl) (by kernel_rfl) (by kernel_rfl) (fun _ _ _ h=>h) (Or.inl ⟨by rfl,?_⟩) ?_
     rotate_left
     ·intro w; go_simp; try (with_reducible rfl)
     simp only [Act.put,List.getElem_toArray,List.getElem_cons_succ,List.getElem_cons_zero,List.setIfInBounds_toArray,List.set_cons_succ,List.set_cons_zero]
     refine wpAny_take (i:=16) (v:=?_) rfl (by kernel_rfl) (by kernel_rfl) (by kernel_rfl) (fun _ _ _ h=>h) (Or.inl ⟨by rfl,?_⟩) ?_
     rotate_left
     ·intro w; go_simp; try (with_reducible rfl)
     simp only [Act.put,List.getElem_toArray,List.getElem_cons_succ,List.getElem_cons_zero,List.setIfInBounds_toArray,List.set_cons_succ,List.set_cons_zero]
     refine wpAny_take (i:=17) (v:=?_) rfl (by kernel_rfl) (by kernel_rfl) (by kernel_rfl) (fun _ _ _ h=>h) (Or.inl ⟨by rfl,?_⟩) ?_
     rotate_left
     ·intro w; go_simp; try (with_reducible rfl)
     simp only [Act.put,List.getElem_toArray,List.getElem_cons_succ,List.getElem_cons_zero,List.setIfInBounds_toArray,List.set_cons_succ,List.set_cons_zero]
     refine wpAny_done (by kernel_rfl) ?_ _
     have B21:=hid (bnext B20.out hb21)
     have F21:=hid (hkeep FW.out B21.out)
     have T21:=hid (TW.out.later B21.out)
     clear hb21 HWh
     by_cases hE:EE=0
     rotate_left
     ·have t1:(EE != 0)=true:=by rw [bne_iff_ne]; exact hE
      have t2:(EE != EE)=false:=by simp
      have hHF:HF=zeroFr:=by rw [<-HHF.out]; unfold hadF; rw [if_neg (by rw [HEE.out]; exact hE)]
      have HSm:=hid (show Calls Tryz.prog 36 #[.agg fl.toArray,.agg zeroF] w21 (fun e w'=>e=.returned (.bool true)/\Below w21.heap.size w21 w') from by
       have h:=Same_one zeroFr At none ca 0 w21 ⟨rfl,rfl,rfl,rfl⟩ (by rw [<-hHF]; exact T21.out) (Row.none_ _ _ _) (by show (0:Nat)<=_; omega)
       have e:frameA zeroFr (.slice At zeroFr.tones.length ca)=fl.toArray:=by rw [Hfl.out,hHF]
       rw [e] at h
       exact h)
      have hKn:(if EE=0 then (n:Int)+1 else (n:Int))=(n:Int):=if_neg hE
      have KN:=hid (show FetchOk wB W bs size D gx gc gd gs gf Ai gm (97*m+97) rdW vW (n:Int) 0 by rw [<-hKn]; exact KW.out)
      clear hE hHF hKn
      go_wp2_with (first | (refine wpList_load_row_w rfl 50 (.tmp 13) rfl gF rfl _ fl.toArray _ _ F21.out Tryz.underlying50 rfl HFf.out ?_) | (go_at_call 36; refine HSm.out.mono ?_; rintro e w22 ⟨rfl,hb22⟩))
      have B22:=hid (bnext B21.out hb22)
      go_wp2_with fail
      go_roundw
      case rel=>exact ⟨m+1,n,rdW,vW,by omega,by omega,by go_num,rfl,GW_.out.below B22.out GW_.out.lt,(KN.out.later B22.out).more (by omega),EW.out.trans (B22.out.mono Hsz.out)⟩
      case measure=>first | (simp [intOf]; done) | (simp [intOf]; omega)
     ·subst hE
      have hHF:HF=rdF (subB bs AT.toNat size):=by rw [<-HHF.out]; unfold hadF; rw [if_pos HEE.out,HAT.out]
      have hRe:rdErr (subB bs AT.toNat size)=0:=by have:=HHd.out HEE.out; rw [HAT.out] at this; exact this
      have KN:=hid (show FetchOk wB W bs size D gx gc gd gs gf Ai gm (97*m+97) rdW vW ((n+1:Nat):Int) 0 from KW.out)
      have HBy:=hid (fun V (hV:Below W.heap.size W V)=>(Bytes_any gx size bs D ii cc bb V ((KW.out.later hV).bankAt) KW.out.fit).mono fun e w' h=>bytR h)
      unfold BytR at HBy
      rw [HAT.out,HEE.out] at HBy
      obtain ⟨Y,hY⟩:∃ Y,subB bs AT.toNat size=Y:=⟨_,rfl⟩
      have hYl:Y.length=size:=by rw [<-hY]; exact subB_len _ _ _
      have hYb:∀ x ∈ Y,x < 256:=by rw [<-hY]; exact subB_byt KW.out.fit.byt _ _
      rw [hY] at hHF hRe HBy
      have hs96:=KW.out.fit.hi
      have HRd:=hid (fun V (A:Option Addr) (k:Nat) (hr:Row V V.heap.size A (u8s Y))=>(show Calls Tryz.prog 37 #[.slice A size k] V (FitPost V HF 0) from by
       have h:=FRead_gen Y A k V (by omega) hYb hr
       rw [hYl,hRe,<-hHF] at h
       exact h))
      unfold FitPost at HRd
      have G21:=hid (GW_.out.below B21.out GW_.out.lt)
      have W21:=hid (WW.out.below B21.out WW.out.lt)
      have y0:=fun (z:GW w21)=>(show z.1.cell? ⟨ga,0,none⟩=some (.pointer (some ⟨gx,0,none⟩)) from (z.2.cell (p:=⟨ga,0,none⟩) G21.out.lt).trans (G21.out.cell 0))
      have w0:=fun (z:GW w21)=>(show z.1.cell? ⟨gw,0,none⟩=some (.int .i64 ii) from (z.2.cell (p:=⟨gw,0,none⟩) W21.out.lt).trans (W21.out.cell 0))
      have w1:=fun (z:GW w21)=>(show z.1.cell? ⟨gw,1,none⟩=some (.int .i64 cc) from (z.2.cell (p:=⟨gw,1,none⟩) W21.out.lt).trans (W21.out.cell 1))
      have w2:=fun (z:GW w21)=>(show z.1.cell? ⟨gw,2,none⟩=some (.int .i64 bb) from (z.2.cell (p:=⟨gw,2,none⟩) W21.out.lt).trans (W21.out.cell 2))
      have t1:((0:Int) != 0)=false:=rfl
      have hwn:IntKind.i64.wrap ((n:Int)+1)=(n:Int)+1:=IntWalk.i64_in _ (by omega)
      clear hY hYl hYb hHF hRe hs96
      go_wp2_with fail
      refine wp_region_calm_head 10 #[true,true,true,true,true,true,true,true,true,true,false,false,false,false,false,false] (by kernel_rfl) (by kernel_rfl) ?_
      simp only [List.take_succ_cons,List.take_zero]
      repeat (go_big_quiet_step (fail))
      refine wpQuiet_nil ?_
      intro w22 hw'
      have B22:=hid (bnext B21.out (gw_below hw'))
      clear hw' y0 w0 w1 w2
      change wpAny _ _ _ _ 6 _ _ _
      refine wpAny_ready (rs:=[10]) (by kernel_rfl) (by simp) ?_
      refine AllReady.cons rfl (fun K hK=>?_) AllReady.nil
      go_simp
      go_wp2_with (go_at_call 33; refine (HBy.out w22 B22.out).mono ?_; rintro e w23 ⟨Ay,ky,cy,rfl,hb23,hy⟩)
      refine wpAny_take (i:=11) (v:=?_) rfl (by kernel_rfl) (by kernel_rfl) (by kernel_rfl) (fun _ _ _ h=>h) (Or.inl ⟨by rfl,?_⟩) ?_
      rotate_left
      ·intro w; go_simp; try (with_reducible rfl)
      simp only [Act.put,List.getElem_toArray,List.getElem_cons_succ,List.getElem_cons_zero,List.setIfInBounds_toArray,List.set_cons_succ,List.set_cons_zero]
      refine wpAny_take (i:=12) (v:=?_) rfl (by kernel_rfl) (by kernel_rfl) (by kernel_rfl) (fun _ _ _ h=>h) (Or.inl ⟨by rfl,?_⟩) ?_
      rotate_left
      ·intro w; go_simp; try (with_reducible rfl)
      simp only [Act.put,List.getElem_toArray,List.getElem_cons_succ,List.getElem_cons_zero,List.setIfInBounds_toArray,List.set_cons_succ,List.set_cons_zero]
      refine wpAny_take (i:=13) (v:=?_) rfl (by kernel_rfl) (by kernel_rfl) (by kernel_rfl) (fun _ _ _ h=>h) (Or.inl ⟨by rfl,?_⟩) ?_
      rotate_left
      ·intro w; go_simp; try (with_reducible rfl)
      simp only [Act.put,List.getElem_toArray,List.getElem_cons_succ,List.getElem_cons_zero,List.setIfInBounds_toArray,List.set_cons_succ,List.set_cons_zero]
      refine wpAny_take (i:=14) (v:=?_) rfl (by kernel_rfl) (by kernel_rfl) (by kernel_rfl) (fun _ _ _ h=>h) (Or.inl ⟨by rfl,?_⟩) ?_
      rotate_left
      ·intro w; go_simp; try (with_reducible rfl)
      simp only [Act.put,List.getElem_toArray,List.getElem_cons_succ,List.getElem_cons_zero,List.setIfInBounds_toArray,List.set_cons_succ,List.set_cons_zero]
      refine wpAny_take (i:=15) (v:=?_) rfl (by kernel_rfl) (by kernel_rfl) (by kernel_rfl) (fun _ _ _ h=>h) (Or.inl ⟨by rfl,?_⟩) ?_
      rotate_left
      ·intro w; go_simp; try (with_reducible rfl)
      simp only [Act.put,List.getElem_toArray,List.getElem_cons_succ,List.getElem_cons_zero,List.setIfInBounds_toArray,List.set_cons_succ,List.set_cons_zero]
      refine wpAny_done (by kernel_rfl) ?_ _
      obtain ⟨rfl,-,-,hrY⟩:=hy (by trivial)
      have B23:=hid (bnext B22.out hb23)
      have HRd23:=hid (HRd.out w23 Ay cy hrY)
      clear hb23 hrY HBy HRd
      go_wp2_with (go_at_call 37; fail)
      refine HRd23.out.mono ?_
      rintro e w24 ⟨Ar,cr,rfl,htl,hcf,_,hrow,hb24⟩
      have B24:=hid (bnext B23.out hb24)
      have HLr:=hid (show HF.Len by rw [<-HHF.out]; exact hadF_len _ _ _ _ _ _)
      obtain ⟨p2,hp⟩:∃ p2:FrH × FrameV,(⟨⟨Ar,cr⟩,HF⟩:FrH × FrameV)=p2:=⟨_,rfl⟩
      have hpf:p2.2=HF:=by rw [<-hp]
      have hpc:frameA HF (.slice Ar HF.tones.length cr)=(frC p2).toArray:=by rw [<-hp]; rfl
      rw [hpc]
      have HPc2:=hid hpc
      have hpl:(frC p2).length=29:=frC_len (by rw [hpf]; exact HLr.out)
      have Hp2:=hid (frC_one p2)
      obtain ⟨fl2,hfl2⟩:∃ fl2,frC p2=fl2:=⟨_,rfl⟩
      rw [hfl2] at Hp2 hpl HPc2 ⊢
      have hfs:fl2.toArray.size=29:=by rw [List.size_toArray,hpl]
      have Hfs2:=hid hfs
      have HFf2:=hid (show (Tryz.prog.info? 50).map (·.size)=some fl2.toArray.size by rw [hfs]; exact inf_frame)
      have Hf2:=hid (show fl2.toArray.all (·.oneCell')=true by
       rw [Array.all_eq_true_iff_forall_mem]
       intro v hv
       exact Hp2.out v (by simpa using hv))
      obtain ⟨w25,hw25⟩:∃ w25,w24.alloc (.cells fl2.toArray 50)=w25:=⟨_,rfl⟩
      have B25:=hid (show Below W.heap.size W w25 by rw [<-hw25]; exact bnext B24.out (bnew w24 _))
      have F25:=hid (hkeep FW.out B25.out)
      have G25:=hid (show w25.heap[w24.heap.size]? = some (.cells fl2.toArray 50 (0,0)) by rw [<-hw25]; exact heap_alloc_new w24 _)
      have T25:=hid (TW.out.later B25.out)
      have R25:=hid (show Row w25 w25.heap.size Ar (toneCells HF.tones) by rw [<-hw25]; exact hrow.later (bnew w24 _))
      have HSm:=hid (show Calls Tryz.prog 36 #[.agg fl.toArray,.agg fl2.toArray] w25 (fun e w'=>e=.returned (.bool true)/\Below w25.heap.size w25 w') from by
       rw [Hfl.out,<-HPc2.out]
       exact Same_one HF At Ar ca cr w25 HLr.out T25.out R25.out (by have:=HTwo.out; omega))
      have Hw25:=hid hw25
      clear hp hpf hpc hpl hfl2 hfs hrow hb24 htl hcf hw25 HRd23
      go_wp2_with (first | (refine wpList_store_row_w rfl 50 (.tmp 20) (.tmp 102) rfl w24.heap.size rfl _ _ fl2.toArray rfl (heap_alloc_new w24 _) HFf2.out (by rw [Hfs2.out]; rfl) Hf2.out ?_; rw [World.setRow_alloc_new,Hw25.out]) | (refine wpList_load_row_w rfl 50 (.tmp 13) rfl gF rfl _ fl.toArray _ _ F25.out Tryz.underlying50 rfl HFf.out ?_) | (refine wpList_load_row_w rfl 50 (.tmp 20) rfl w24.heap.size rfl _ fl2.toArray _ _ G25.out Tryz.underlying50 rfl HFf2.out ?_) | (go_at_call 36; refine HSm.out.mono ?_; rintro e w26 ⟨rfl,hb26⟩))
      have B26:=hid (bnext B25.out hb26)
      go_wp2_with fail
      go_roundw
      case rel=>exact ⟨m+1,n+1,rdW,vW,by omega,by omega,by go_num,by go_num,GW_.out.below B26.out GW_.out.lt,(KN.out.later B26.out).more (by omega),EW.out.trans (B26.out.mono Hsz.out)⟩
      case measure=>first | (simp [intOf]; done) | (simp [intOf]; omega)
    case' B =>
     have HFB:=hid (HFr.out _ K9.out)
     go_wp2_with (go_at_call 22; fail)
     refine HFB.out.mono ?_
     intro e w10 hq
     obtain ⟨fl,At,ca,rfl,hfl,hl,h1c,hTr,hfr,hO,rdW,vW,hKW⟩:=hq
     have hfs:fl.toArray.size=29:=by rw [List.size_toArray,hl]
     have Hfs:=hid hfs
     have HFf:=hid (show (Tryz.prog.info? 50).map (·.size)=some fl.toArray.size by rw [hfs]; exact inf_frame)
     have Hf1:=hid (show fl.toArray.all (·.oneCell')=true by
      rw [Array.all_eq_true_iff_forall_mem]
      intro v hv
      exact h1c v (by simpa using hv))
     have Hfl:=hid (show fl.toArray=frameA HF (.slice At HF.tones.length ca) by rw [hfl]; rfl)
     have G10:=hid (K9.out.keep G9.out (by decide) (by decide) (by decide) (by decide) hO)
     have W10:=hid (K9.out.keep W9.out (by decide) (by decide) (by decide) (by decide) hO)
     obtain ⟨gF,hgF⟩:∃ gF,w10.heap.size=gF:=⟨_,rfl⟩
     obtain ⟨W,hW⟩:∃ W,w10.alloc (.cells fl.toArray 50)=W:=⟨_,rfl⟩
     have B2:=hid (show Below w10.heap.size w10 W by rw [<-hW]; exact bnew w10 _)
     have GW_:=hid (G10.out.below B2.out G10.out.lt)
     have WW:=hid (W10.out.below B2.out W10.out.lt)
     have FW:=hid (show W.heap[gF]? = some (.cells fl.toArray 50 (0,0)) by rw [<-hW,<-hgF]; exact heap_alloc_new w10 _)
     have TW:=hid (hTr.later B2.out)
     have KW:=hid (hKW.later B2.out)
     have EW:=hid (show Below w.heap.size w W from bnext (E9.out.trans ((K9.out.under hO).mono HwB2.out)) B2.out)
     have Hsz:=hid EW.out.size
     have HW:=hid hW
     have HgF:=hid hgF
     clear hfl hl h1c hTr hfr hO hKW hfs hW hgF
     go_wp2_with (refine wpList_store_row_w rfl 50 (.tmp 13) (.tmp 55) rfl w10.heap.size rfl _ _ fl.toArray rfl (heap_alloc_new w10 _) HFf.out (by rw [Hfs.out]; rfl) Hf1.out ?_; rw [World.setRow_alloc_new,HW.out])
     rw [HgF.out]
     clear HFB G10 W10 B2 HW HgF
     have y0:=fun (z:GW W)=>(show z.1.cell? ⟨ga,0,none⟩=some (.pointer (some ⟨gx,0,none⟩)) from (z.2.cell (p:=⟨ga,0,none⟩) GW_.out.lt).trans (GW_.out.cell 0))
     have w0:=fun (z:GW W)=>(show z.1.cell? ⟨gw,0,none⟩=some (.int .i64 ii) from (z.2.cell (p:=⟨gw,0,none⟩) WW.out.lt).trans (WW.out.cell 0))
     have w1:=fun (z:GW W)=>(show z.1.cell? ⟨gw,1,none⟩=some (.int .i64 cc) from (z.2.cell (p:=⟨gw,1,none⟩) WW.out.lt).trans (WW.out.cell 1))
     have w2:=fun (z:GW W)=>(show z.1.cell? ⟨gw,2,none⟩=some (.int .i64 bb) from (z.2.cell (p:=⟨gw,2,none⟩) WW.out.lt).trans (WW.out.cell 2))
     have HWh:=hid (fun V (hV:Below W.heap.size W V)=>Where_any gx size bs D ii cc bb V ((KW.out.later hV).bankAt) KW.out.fit)
     unfold WherePost at HWh
     rw [HAT.out,HVS.out,HEE.out] at HWh
     go_wp2_with fail
     refine wp_region_calm_head 10 #[true,true,true,true,true,true,true,true,true,true,false,false,false,false,false,false,false,false] (by kernel_rfl) (by kernel_rfl) ?_
     simp only [List.take_succ_cons,List.take_zero]
     repeat (go_big_quiet_step (fail))
     refine wpQuiet_nil ?_
     intro w20 hw'
     have B20:=hid (gw_below hw')
     clear hw' y0 w0 w1 w2
     change wpAny _ _ _ _ 8 _ _ _
     refine wpAny_ready (rs:=[10]) (by kernel_rfl) (by simp) ?_
     refine AllReady.cons rfl (fun K hK=>?_) AllReady.nil
     go_simp
     go_wp2_with (go_at_call 35; refine (HWh.out w20 B20.out).mono ?_; rintro e w21 ⟨rfl,hb21⟩)
     refine wpAny_take (i:=11) (v:=?_) rfl (by kernel_rfl) (by kernel_rfl) (by kernel_rfl) (fun _ _ _ h=>h) (Or.inl ⟨by rfl,?_⟩) ?_
     rotate_left
     ·intro w; go_simp; try (with_reducible rfl)
     simp only [Act.put,List.getElem_toArray,List.getElem_cons_succ,List.getElem_cons_zero,List.setIfInBounds_toArray,List.set_cons_succ,List.set_cons_zero]
     refine wpAny_take (i:=12) (v:=?_) rfl (by kernel_rfl) (by kernel_rfl) (by kernel_rfl) (fun _ _ _ h=>h) (Or.inl ⟨by rfl,?_⟩) ?_
     rotate_left
     ·intro w; go_simp; try (with_reducible rfl)
     simp only [Act.put,List.getElem_toArray,List.getElem_cons_succ,List.getElem_cons_zero,List.setIfInBounds_toArray,List.set_cons_succ,List.set_cons_zero]
     refine wpAny_take (i:=13) (v:=?_) rfl (by kernel_rfl) (by kernel_rfl) (by kernel_rfl) (fun _ _ _ h=>h) (Or.inl ⟨by rfl,?_⟩) ?_
     rotate_left
     ·intro w; go_simp; try (with_reducible rfl)
     simp only [Act.put,List.getElem_toArray,List.getElem_cons_succ,List.getElem_cons_zero,List.setIfInBounds_toArray,List.set_cons_succ,List.set_cons_zero]
     refine wpAny_take (i:=14) (v:=?_) rfl (by kernel_rfl) (by kernel_rfl) (by kernel_rfl) (fun _ _ _ h=>h) (Or.inl ⟨by rfl,?_⟩) ?_
     rotate_left
     ·intro w; go_simp; try (with_reducible rfl)
     simp only [Act.put,List.getElem_toArray,List.getElem_cons_succ,List.getElem_cons_zero,List.setIfInBounds_toArray,List.set_cons_succ,List.set_cons_zero]
     refine wpAny_take (i:=15) (v:=?_) rfl (by kernel_rfl) (by kernel_rfl) (by kernel_rfl) (fun _ _ _ h=>h) (Or.inl ⟨by rfl,?_⟩) ?_
     rotate_left
     ·intro w; go_simp; try (with_reducible rfl)
     simp only [Act.put,List.getElem_toArray,List.getElem_cons_succ,List.getElem_cons_zero,List.setIfInBounds_toArray,List.set_cons_succ,List.set_cons_zero]
     refine wpAny_take (i:=16) (v:=?_) rfl (by kernel_rfl) (by kernel_rfl) (by kernel_rfl) (fun _ _ _ h=>h) (Or.inl ⟨by rfl,?_⟩) ?_
     rotate_left
     ·intro w; go_simp; try (with_reducible rfl)
     simp only [Act.put,List.getElem_toArray,List.getElem_cons_succ,List.getElem_cons_zero,List.setIfInBounds_toArray,List.set_cons_succ,List.set_cons_zero]
     refine wpAny_take (i:=17) (v:=?_) rfl (by kernel_rfl) (by kernel_rfl) (by kernel_rfl) (fun _ _ _ h=>h) (Or.inl ⟨by rfl,?_⟩) ?_
     rotate_left
     ·intro w; go_simp; try (with_reducible rfl)
     simp only [Act.put,List.getElem_toArray,List.getElem_cons_succ,List.getElem_cons_zero,List.setIfInBounds_toArray,List.set_cons_succ,List.set_cons_zero]
     refine wpAny_done (by kernel_rfl) ?_ _
     have B21:=hid (bnext B20.out hb21)
     have F21:=hid (hkeep FW.out B21.out)
     have T21:=hid (TW.out.later B21.out)
     clear hb21 HWh
     by_cases hE:EE=0
     rotate_left
     ·have t1:(EE != 0)=true:=by rw [bne_iff_ne]; exact hE
      have t2:(EE != EE)=false:=by simp
      have hHF:HF=zeroFr:=by rw [<-HHF.out]; unfold hadF; rw [if_neg (by rw [HEE.out]; exact hE)]
      have HSm:=hid (show Calls Tryz.prog 36 #[.agg fl.toArray,.agg zeroF] w21 (fun e w'=>e=.returned (.bool true)/\Below w21.heap.size w21 w') from by
       have h:=Same_one zeroFr At none ca 0 w21 ⟨rfl,rfl,rfl,rfl⟩ (by rw [<-hHF]; exact T21.out) (Row.none_ _ _ _) (by show (0:Nat)<=_; omega)
       have e:frameA zeroFr (.slice At zeroFr.tones.length ca)=fl.toArray:=by rw [Hfl.out,hHF]
       rw [e] at h
       exact h)
      have hKn:(if EE=0 then (n:Int)+1 else (n:Int))=(n:Int):=if_neg hE
      have KN:=hid (show FetchOk wB W bs size D gx gc gd gs gf Ai gm (97*m+97) rdW vW (n:Int) 0 by rw [<-hKn]; exact KW.out)
      clear hE hHF hKn
      go_wp2_with (first | (refine wpList_load_row_w rfl 50 (.tmp 13) rfl gF rfl _ fl.toArray _ _ F21.out Tryz.underlying50 rfl HFf.out ?_) | (go_at_call 36; refine HSm.out.mono ?_; rintro e w22 ⟨rfl,hb22⟩))
      have B22:=hid (bnext B21.out hb22)
      go_wp2_with fail
      go_roundw
      case rel=>exact ⟨m+1,n,rdW,vW,by omega,by omega,by go_num,rfl,GW_.out.below B22.out GW_.out.lt,(KN.out.later B22.out).more (by omega),EW.out.trans (B22.out.mono Hsz.out)⟩
      case measure=>first | (simp [intOf]; done) | (simp [intOf]; omega)
     ·subst hE
      have hHF:HF=rdF (subB bs AT.toNat size):=by rw [<-HHF.out]; unfold hadF; rw [if_pos HEE.out,HAT.out]
      have hRe:rdErr (subB bs AT.toNat size)=0:=by have:=HHd.out HEE.out; rw [HAT.out] at this; exact this
      have KN:=hid (show FetchOk wB W bs size D gx gc gd gs gf Ai gm (97*m+97) rdW vW ((n+1:Nat):Int) 0 from KW.out)
      have HBy:=hid (fun V (hV:Below W.heap.size W V)=>(Bytes_any gx size bs D ii cc bb V ((KW.out.later hV).bankAt) KW.out.fit).mono fun e w' h=>bytR h)
      unfold BytR at HBy
      rw [HAT.out,HEE.out] at HBy
      obtain ⟨Y,hY⟩:∃ Y,subB bs AT.toNat size=Y:=⟨_,rfl⟩
      have hYl:Y.length=size:=by rw [<-hY]; exact subB_len _ _ _
      have hYb:∀ x ∈ Y,x < 256:=by rw [<-hY]; exact subB_byt KW.out.fit.byt _ _
      rw [hY] at hHF hRe HBy
      have hs96:=KW.out.fit.hi
      have HRd:=hid (fun V (A:Option Addr) (k:Nat) (hr:Row V V.heap.size A (u8s Y))=>(show Calls Tryz.prog 37 #[.slice A size k] V (FitPost V HF 0) from by
       have h:=FRead_gen Y A k V (by omega) hYb hr
       rw [hYl,hRe,<-hHF] at h
       exact h))
      unfold FitPost at HRd
      have G21:=hid (GW_.out.below B21.out GW_.out.lt)
      have W21:=hid (WW.out.below B21.out WW.out.lt)
      have y0:=fun (z:GW w21)=>(show z.1.cell? ⟨ga,0,none⟩=some (.pointer (some ⟨gx,0,none⟩)) from (z.2.cell (p:=⟨ga,0,none⟩) G21.out.lt).trans (G21.out.cell 0))
      have w0:=fun (z:GW w21)=>(show z.1.cell? ⟨gw,0,none⟩=some (.int .i64 ii) from (z.2.cell (p:=⟨gw,0,none⟩) W21.out.lt).trans (W21.out.cell 0))
      have w1:=fun (z:GW w21)=>(show z.1.cell? ⟨gw,1,none⟩=some (.int .i64 cc) from (z.2.cell (p:=⟨gw,1,none⟩) W21.out.lt).trans (W21.out.cell 1))
      have w2:=fun (z:GW w21)=>(show z.1.cell? ⟨gw,2,none⟩=some (.int .i64 bb) from (z.2.cell (p:=⟨gw,2,none⟩) W21.out.lt).trans (W21.out.cell 2))
      have t1:((0:Int) != 0)=false:=rfl
      have hwn:IntKind.i64.wrap ((n:Int)+1)=(n:Int)+1:=IntWalk.i64_in _ (by omega)
      clear hY hYl hYb hHF hRe hs96
      go_wp2_with fail
      refine wp_region_calm_head 10 #[true,true,true,true,true,true,true,true,true,true,false,false,false,false,false,false] (by kernel_rfl) (by kernel_rfl) ?_
      simp only [List.take_succ_cons,List.take_zero]
      repeat (go_big_quiet_step (fail))
      refine wpQuiet_nil ?_
      intro w22 hw'
      have B22:=hid (bnext B21.out (gw_below hw'))
      clear hw' y0 w0 w1 w2
      change wpAny _ _ _ _ 6 _ _ _
      refine wpAny_ready (rs:=[10]) (by kernel_rfl) (by simp) ?_
      refine AllReady.cons rfl (fun K hK=>?_) AllReady.nil
      go_simp
      go_wp2_with (go_at_call 33; refine (HBy.out w22 B22.out).mono ?_; rintro e w23 ⟨Ay,ky,cy,rfl,hb23,hy⟩)
      refine wpAny_take (i:=11) (v:=?_) rfl (by kernel_rfl) (by kernel_rfl) (by kernel_rfl) (fun _ _ _ h=>h) (Or.inl ⟨by rfl,?_⟩) ?_
      rotate_left
      ·intro w; go_simp; try (with_reducible rfl)
      simp only [Act.put,List.getElem_toArray,List.getElem_cons_succ,List.getElem_cons_zero,List.setIfInBounds_toArray,List.set_cons_succ,List.set_cons_zero]
      refine wpAny_take (i:=12) (v:=?_) rfl (by kernel_rfl) (by kernel_rfl) (by kernel_rfl) (fun _ _ _ h=>h) (Or.inl ⟨by rfl,?_⟩) ?_
      rotate_left
      ·intro w; go_simp; try (with_reducible rfl)
      simp only [Act.put,List.getElem_toArray,List.getElem_cons_succ,List.getElem_cons_zero,List.setIfInBounds_toArray,List.set_cons_succ,List.set_cons_zero]
      refine wpAny_take (i:=13) (v:=?_) rfl (by kernel_rfl) (by kernel_rfl) (by kernel_rfl) (fun _ _ _ h=>h) (Or.inl ⟨by rfl,?_⟩) ?_
      rotate_left
      ·intro w; go_simp; try (with_reducible rfl)
      simp only [Act.put,List.getElem_toArray,List.getElem_cons_succ,List.getElem_cons_zero,List.setIfInBounds_toArray,List.set_cons_succ,List.set_cons_zero]
      refine wpAny_take (i:=14) (v:=?_) rfl (by kernel_rfl) (by kernel_rfl) (by kernel_rfl) (fun _ _ _ h=>h) (Or.inl ⟨by rfl,?_⟩) ?_
      rotate_left
      ·intro w; go_simp; try (with_reducible rfl)
      simp only [Act.put,List.getElem_toArray,List.getElem_cons_succ,List.getElem_cons_zero,List.setIfInBounds_toArray,List.set_cons_succ,List.set_cons_zero]
      refine wpAny_take (i:=15) (v:=?_) rfl (by kernel_rfl) (by kernel_rfl) (by kernel_rfl) (fun _ _ _ h=>h) (Or.inl ⟨by rfl,?_⟩) ?_
      rotate_left
      ·intro w; go_simp; try (with_reducible rfl)
      simp only [Act.put,List.getElem_toArray,List.getElem_cons_succ,List.getElem_cons_zero,List.setIfInBounds_toArray,List.set_cons_succ,List.set_cons_zero]
      refine wpAny_done (by kernel_rfl) ?_ _
      obtain ⟨rfl,-,-,hrY⟩:=hy (by trivial)
      have B23:=hid (bnext B22.out hb23)
      have HRd23:=hid (HRd.out w23 Ay cy hrY)
      clear hb23 hrY HBy HRd
      go_wp2_with (go_at_call 37; fail)
      refine HRd23.out.mono ?_
      rintro e w24 ⟨Ar,cr,rfl,htl,hcf,_,hrow,hb24⟩
      have B24:=hid (bnext B23.out hb24)
      have HLr:=hid (show HF.Len by rw [<-HHF.out]; exact hadF_len _ _ _ _ _ _)
      obtain ⟨p2,hp⟩:∃ p2:FrH × FrameV,(⟨⟨Ar,cr⟩,HF⟩:FrH × FrameV)=p2:=⟨_,rfl⟩
      have hpf:p2.2=HF:=by rw [<-hp]
      have hpc:frameA HF (.slice Ar HF.tones.length cr)=(frC p2).toArray:=by rw [<-hp]; rfl
      rw [hpc]
      have HPc2:=hid hpc
      have hpl:(frC p2).length=29:=frC_len (by rw [hpf]; exact HLr.out)
      have Hp2:=hid (frC_one p2)
      obtain ⟨fl2,hfl2⟩:∃ fl2,frC p2=fl2:=⟨_,rfl⟩
      rw [hfl2] at Hp2 hpl HPc2 ⊢
      have hfs:fl2.toArray.size=29:=by rw [List.size_toArray,hpl]
      have Hfs2:=hid hfs
      have HFf2:=hid (show (Tryz.prog.info? 50).map (·.size)=some fl2.toArray.size by rw [hfs]; exact inf_frame)
      have Hf2:=hid (show fl2.toArray.all (·.oneCell')=true by
       rw [Array.all_eq_true_iff_forall_mem]
       intro v hv
       exact Hp2.out v (by simpa using hv))
      obtain ⟨w25,hw25⟩:∃ w25,w24.alloc (.cells fl2.toArray 50)=w25:=⟨_,rfl⟩
      have B25:=hid (show Below W.heap.size W w25 by rw [<-hw25]; exact bnext B24.out (bnew w24 _))
      have F25:=hid (hkeep FW.out B25.out)
      have G25:=hid (show w25.heap[w24.heap.size]? = some (.cells fl2.toArray 50 (0,0)) by rw [<-hw25]; exact heap_alloc_new w24 _)
      have T25:=hid (TW.out.later B25.out)
      have R25:=hid (show Row w25 w25.heap.size Ar (toneCells HF.tones) by rw [<-hw25]; exact hrow.later (bnew w24 _))
      have HSm:=hid (show Calls Tryz.prog 36 #[.agg fl.toArray,.agg fl2.toArray] w25 (fun e w'=>e=.returned (.bool true)/\Below w25.heap.size w25 w') from by
       rw [Hfl.out,<-HPc2.out]
       exact Same_one HF At Ar ca cr w25 HLr.out T25.out R25.out (by have:=HTwo.out; omega))
      have Hw25:=hid hw25
      clear hp hpf hpc hpl hfl2 hfs hrow hb24 htl hcf hw25 HRd23
      go_wp2_with (first | (refine wpList_store_row_w rfl 50 (.tmp 20) (.tmp 102) rfl w24.heap.size rfl _ _ fl2.toArray rfl (heap_alloc_new w24 _) HFf2.out (by rw [Hfs2.out]; rfl) Hf2.out ?_; rw [World.setRow_alloc_new,Hw25.out]) | (refine wpList_load_row_w rfl 50 (.tmp 13) rfl gF rfl _ fl.toArray _ _ F25.out Tryz.underlying50 rfl HFf.out ?_) | (refine wpList_load_row_w rfl 50 (.tmp 20) rfl w24.heap.size rfl _ fl2.toArray _ _ G25.out Tryz.underlying50 rfl HFf2.out ?_) | (go_at_call 36; refine HSm.out.mono ?_; rintro e w26 ⟨rfl,hb26⟩))
      have B26:=hid (bnext B25.out hb26)
      go_wp2_with fail
      go_roundw
      case rel=>exact ⟨m+1,n+1,rdW,vW,by omega,by omega,by go_num,by go_num,GW_.out.below B26.out GW_.out.lt,(KN.out.later B26.out).more (by omega),EW.out.trans (B26.out.mono Hsz.out)⟩
      case measure=>first | (simp [intOf]; done) | (simp [intOf]; omega)
   ·have hcs:(decide ((m:Int) < (lw:Int))=false/\¬ (m:Int) < (lw:Int))\/(decide ((m:Int) < (lw:Int))=true/\(m:Int) < (lw:Int)/\¬ (m:Int) < 40/\decide ((m:Int) < 40)=false):=by
     by_cases h1:m < lw
     ·exact .inr ⟨decide_eq_true (by omega),by omega,by omega,decide_eq_false (by omega)⟩
     ·exact .inl ⟨decide_eq_false (by omega),by omega⟩
    have HGa:=hid (fun V (hV:Below wa.heap.size wa V)=>(show V.cell? ⟨ga,0,none⟩=some (.pointer (some ⟨gx,0,none⟩))/\V.cell? ⟨ga,2,none⟩=some (.pointer (some ⟨gf,0,none⟩)) from ⟨(Gr.out.below hV Gr.out.lt).cell 0,(Gr.out.below hV Gr.out.lt).cell 2⟩))
    have HFs:=hid (fun V (hV:Below wa.heap.size wa V)=>fetchFrames_any ((Kr.out.later hV).head))
    have HMs:=hid (fun V (hV:Below wa.heap.size wa V)=>fetchMissed_any ((Kr.out.later hV).head))
    have HBk:=hid (fun V (hV:Below wa.heap.size wa V)=>fetchBank_any ((Kr.out.later hV).head))
    have hlo:=Kr.out.fit.lo
    have HDi:=hid (fun V (hV:Below wa.heap.size wa V)=>BDir_any ((Kr.out.later hV).bankAt) (by omega) HDl.out)
    unfold CopyP at HDi
    generalize D.length=nD at *
    have Ea:=hid Er.out
    have x2:=fun (z:GW wa)=>(HGa.out z.1 z.2).2
    have u1:((n:Int) == (n:Int))=true:=by simp
    clear hlt' hlo
    rcases hcs with ⟨e1,e2⟩ | ⟨e1,e2,e3,e4⟩
    all_goals
     go_wp2_with fail
     refine wp_region_calm_head 15 #[true,true,true,true,true,true,true,true,true,true,true,true,true,true,true,false,false,false,false,false,false,false,false,false,false,false,false,false,false,false,false,false,false,false,false] (by kernel_rfl) (by kernel_rfl) ?_
     simp only [List.take_succ_cons,List.take_zero]
     repeat (go_big_quiet_step (first | (go_at_call 25; rename_i z; exact calm_same (HFs.out z.1 z.2)) | (go_at_call 26; rename_i z; exact calm_same (HMs.out z.1 z.2))))
     refine wpQuiet_nil ?_
     intro v0 hw'
     have b0:=gw_below hw'
     clear hw' x2
     change wpAny _ _ _ _ 20 _ _ _
     refine wpAny_take (i:=15) (v:=?_) rfl (by kernel_rfl) (by kernel_rfl) (by kernel_rfl) (fun _ _ _ h=>h) (Or.inl ⟨by rfl,?_⟩) ?_
     rotate_left
     ·intro w; go_simp; try (with_reducible rfl)
     simp only [Act.put,List.getElem_toArray,List.getElem_cons_succ,List.getElem_cons_zero,List.setIfInBounds_toArray,List.set_cons_succ,List.set_cons_zero]
     refine wpAny_take (i:=16) (v:=?_) rfl (by kernel_rfl) (by kernel_rfl) (by kernel_rfl) (fun _ _ _ h=>h) (Or.inl ⟨by rfl,?_⟩) ?_
     rotate_left
     ·intro w; go_simp; try (with_reducible rfl)
     simp only [Act.put,List.getElem_toArray,List.getElem_cons_succ,List.getElem_cons_zero,List.setIfInBounds_toArray,List.set_cons_succ,List.set_cons_zero]
     refine wpAny_take (i:=17) (v:=?_) rfl (by kernel_rfl) (by kernel_rfl) (by kernel_rfl) (fun _ _ _ h=>h) (Or.inl ⟨by rfl,?_⟩) ?_
     rotate_left
     ·intro w; go_simp; try (with_reducible rfl)
     simp only [Act.put,List.getElem_toArray,List.getElem_cons_succ,List.getElem_cons_zero,List.setIfInBounds_toArray,List.set_cons_succ,List.set_cons_zero]
     refine wpAny_take (i:=18) (v:=?_) rfl (by kernel_rfl) (by kernel_rfl) (by kernel_rfl) (fun _ _ _ h=>h) (Or.inl ⟨by rfl,?_⟩) ?_
     rotate_left
     ·intro w; go_simp; try (with_reducible rfl)
     simp only [Act.put,List.getElem_toArray,List.getElem_cons_succ,List.getElem_cons_zero,List.setIfInBounds_toArray,List.set_cons_succ,List.set_cons_zero]
     refine wpAny_take (i:=23) (v:=?_) rfl (by kernel_rfl) (by kernel_rfl) (by kernel_rfl) (fun _ _ _ h=>h) (Or.inl ⟨by rfl,?_⟩) ?_
     rotate_left
     ·intro w; go_simp; try (with_reducible rfl)
     simp only [Act.put,List.getElem_toArray,List.getElem_cons_succ,List.getElem_cons_zero,List.setIfInBounds_toArray,List.set_cons_succ,List.set_cons_zero]
     refine wpAny_take (i:=24) (v:=?_) rfl (by kernel_rfl) (by kernel_rfl) (by kernel_rfl) (fun _ _ _ h=>h) (Or.inl ⟨by rfl,?_⟩) ?_
     rotate_left
     ·intro w; go_simp; try (with_reducible rfl)
     simp only [Act.put,List.getElem_toArray,List.getElem_cons_succ,List.getElem_cons_zero,List.setIfInBounds_toArray,List.set_cons_succ,List.set_cons_zero]
     refine wpAny_take (i:=25) (v:=?_) rfl (by kernel_rfl) (by kernel_rfl) (by kernel_rfl) (fun _ _ _ h=>h) (Or.inl ⟨by rfl,?_⟩) ?_
     rotate_left
     ·intro w; go_simp; try (with_reducible rfl)
     simp only [Act.put,List.getElem_toArray,List.getElem_cons_succ,List.getElem_cons_zero,List.setIfInBounds_toArray,List.set_cons_succ,List.set_cons_zero]
     refine wpAny_ready (rs:=[19,26]) (by kernel_rfl) (by simp) ?_
     refine AllReady.cons rfl (fun K hK=>?_) (AllReady.cons rfl (fun K hK=>?_) (AllReady.nil))
     ·have c1:=(HGa.out v0 b0).2
      try go_simp
      refine hK _ _ ?_
      clear hK K c1
      simp only [List.setIfInBounds_toArray,List.set_cons_succ,List.set_cons_zero]
      refine wpAny_ready (rs:=[20,26]) (by kernel_rfl) (by simp) ?_
      refine AllReady.cons rfl (fun K hK=>?_) (AllReady.cons rfl (fun K hK=>?_) (AllReady.nil))
      ·try go_simp
       go_wp2_with (go_at_call 24; refine (HBk.out v0 b0).mono ?_; rintro e w2x ⟨rfl,rfl⟩)
       refine wpAny_ready (rs:=[21,26]) (by kernel_rfl) (by simp) ?_
       refine AllReady.cons rfl (fun K hK=>?_) (AllReady.cons rfl (fun K hK=>?_) (AllReady.nil))
       ·try go_simp
        go_wp2_with (go_at_call 16; refine (HDi.out v0 b0).mono ?_; rintro e v3 ⟨A3,c3,rfl,-,-,-,-,hb3⟩)
        have b3:=bnext b0 hb3
        clear hb3
        refine wpAny_take (i:=22) (v:=?_) rfl (by kernel_rfl) (by kernel_rfl) (by kernel_rfl) (fun _ _ _ h=>h) (Or.inl ⟨by rfl,?_⟩) ?_
        rotate_left
        ·intro w; go_simp; try (with_reducible rfl)
        simp only [Act.put,List.getElem_toArray,List.getElem_cons_succ,List.getElem_cons_zero,List.setIfInBounds_toArray,List.set_cons_succ,List.set_cons_zero]
        refine wpAny_ready (rs:=[26]) (by kernel_rfl) (by simp) ?_
        refine AllReady.cons rfl (fun K hK=>?_) (AllReady.nil)
        ·have c4:=(HGa.out v3 b3).1
         try go_simp
         refine hK _ _ ?_
         clear hK K c4
         simp only [List.setIfInBounds_toArray,List.set_cons_succ,List.set_cons_zero]
         refine wpAny_ready (rs:=[27]) (by kernel_rfl) (by simp) ?_
         refine AllReady.cons rfl (fun K hK=>?_) (AllReady.nil)
         ·try go_simp
          go_wp2_with (go_at_call 16; refine (HDi.out v3 b3).mono ?_; rintro e v5 ⟨A5,c5,rfl,-,-,-,-,hb5⟩)
          have b5:=bnext b3 hb5
          clear hb5
          refine wpAny_take (i:=28) (v:=?_) rfl (by kernel_rfl) (by kernel_rfl) (by kernel_rfl) (fun _ _ _ h=>h) (Or.inl ⟨by rfl,?_⟩) ?_
          rotate_left
          ·intro w; go_simp; try (with_reducible rfl)
          simp only [Act.put,List.getElem_toArray,List.getElem_cons_succ,List.getElem_cons_zero,List.setIfInBounds_toArray,List.set_cons_succ,List.set_cons_zero]
          refine wpAny_take (i:=29) (v:=?_) rfl (by kernel_rfl) (by kernel_rfl) (by kernel_rfl) (fun _ _ _ h=>h) (Or.inl ⟨by rfl,?_⟩) ?_
          rotate_left
          ·intro w; go_simp; try (with_reducible rfl)
          simp only [Act.put,List.getElem_toArray,List.getElem_cons_succ,List.getElem_cons_zero,List.setIfInBounds_toArray,List.set_cons_succ,List.set_cons_zero]
          refine wpAny_take (i:=30) (v:=?_) rfl (by kernel_rfl) (by kernel_rfl) (by kernel_rfl) (fun _ _ _ h=>h) (Or.inl ⟨by rfl,?_⟩) ?_
          rotate_left
          ·intro w; go_simp; try (with_reducible rfl)
          simp only [Act.put,List.getElem_toArray,List.getElem_cons_succ,List.getElem_cons_zero,List.setIfInBounds_toArray,List.set_cons_succ,List.set_cons_zero]
          refine wpAny_take (i:=31) (v:=?_) rfl (by kernel_rfl) (by kernel_rfl) (by kernel_rfl) (fun _ _ _ h=>h) (Or.inl ⟨by rfl,?_⟩) ?_
          rotate_left
          ·intro w; go_simp; try (with_reducible rfl)
          simp only [Act.put,List.getElem_toArray,List.getElem_cons_succ,List.getElem_cons_zero,List.setIfInBounds_toArray,List.set_cons_succ,List.set_cons_zero]
          refine wpAny_ready (rs:=[32]) (by kernel_rfl) (by simp) ?_
          refine AllReady.cons rfl (fun K hK=>?_) (AllReady.nil)
          ·try go_simp
           go_wp2_with (go_at_call 27; refine (HAw.out v5).mono ?_; rintro e v6 ⟨rfl,hb6⟩)
           have b6:=bnext b5 hb6
           clear hb6
           refine wpAny_take (i:=33) (v:=?_) rfl (by kernel_rfl) (by kernel_rfl) (by kernel_rfl) (fun _ _ _ h=>h) (Or.inl ⟨by rfl,?_⟩) ?_
           rotate_left
           ·intro w; go_simp; try (with_reducible rfl)
           simp only [Act.put,List.getElem_toArray,List.getElem_cons_succ,List.getElem_cons_zero,List.setIfInBounds_toArray,List.set_cons_succ,List.set_cons_zero]
           refine wpAny_take (i:=34) (v:=?_) rfl (by kernel_rfl) (by kernel_rfl) (by kernel_rfl) (fun _ _ _ h=>h) (Or.inl ⟨by rfl,?_⟩) ?_
           rotate_left
           ·intro w; go_simp; try (with_reducible rfl)
           simp only [Act.put,List.getElem_toArray,List.getElem_cons_succ,List.getElem_cons_zero,List.setIfInBounds_toArray,List.set_cons_succ,List.set_cons_zero]
           refine wpAny_done (by kernel_rfl) ?_ _
           go_wp2_with fail
           go_ret
           exact ⟨rfl,bnext Ea.out b6⟩
       ·have c3:=(HGa.out v0 b0).1
        try go_simp
        refine hK _ _ ?_
        clear hK K c3
        simp only [List.setIfInBounds_toArray,List.set_cons_succ,List.set_cons_zero]
        refine wpAny_ready (rs:=[21]) (by kernel_rfl) (by simp) ?_
        refine AllReady.cons rfl (fun K hK=>?_) (AllReady.nil)
        ·try go_simp
         go_wp2_with (go_at_call 16; refine (HDi.out v0 b0).mono ?_; rintro e v4 ⟨A4,c4,rfl,-,-,-,-,hb4⟩)
         have b4:=bnext b0 hb4
         clear hb4
         refine wpAny_take (i:=22) (v:=?_) rfl (by kernel_rfl) (by kernel_rfl) (by kernel_rfl) (fun _ _ _ h=>h) (Or.inl ⟨by rfl,?_⟩) ?_
         rotate_left
         ·intro w; go_simp; try (with_reducible rfl)
         simp only [Act.put,List.getElem_toArray,List.getElem_cons_succ,List.getElem_cons_zero,List.setIfInBounds_toArray,List.set_cons_succ,List.set_cons_zero]
         refine wpAny_ready (rs:=[27]) (by kernel_rfl) (by simp) ?_
         refine AllReady.cons rfl (fun K hK=>?_) (AllReady.nil)
         ·try go_simp
          go_wp2_with (go_at_call 16; refine (HDi.out v4 b4).mono ?_; rintro e v5 ⟨A5,c5,rfl,-,-,-,-,hb5⟩)
          have b5:=bnext b4 hb5
          clear hb5
          refine wpAny_take (i:=28) (v:=?_) rfl (by kernel_rfl) (by kernel_rfl) (by kernel_rfl) (fun _ _ _ h=>h) (Or.inl ⟨by rfl,?_⟩) ?_
          rotate_left
          ·intro w; go_simp; try (with_reducible rfl)
          simp only [Act.put,List.getElem_toArray,List.getElem_cons_succ,List.getElem_cons_zero,List.setIfInBounds_toArray,List.set_cons_succ,List.set_cons_zero]
          refine wpAny_take (i:=29) (v:=?_) rfl (by kernel_rfl) (by kernel_rfl) (by kernel_rfl) (fun _ _ _ h=>h) (Or.inl ⟨by rfl,?_⟩) ?_
          rotate_left
          ·intro w; go_simp; try (with_reducible rfl)
          simp only [Act.put,List.getElem_toArray,List.getElem_cons_succ,List.getElem_cons_zero,List.setIfInBounds_toArray,List.set_cons_succ,List.set_cons_zero]
          refine wpAny_take (i:=30) (v:=?_) rfl (by kernel_rfl) (by kernel_rfl) (by kernel_rfl) (fun _ _ _ h=>h) (Or.inl ⟨by rfl,?_⟩) ?_
          rotate_left
          ·intro w; go_simp; try (with_reducible rfl)
          simp only [Act.put,List.getElem_toArray,List.getElem_cons_succ,List.getElem_cons_zero,List.setIfInBounds_toArray,List.set_cons_succ,List.set_cons_zero]
          refine wpAny_take (i:=31) (v:=?_) rfl (by kernel_rfl) (by kernel_rfl) (by kernel_rfl) (fun _ _ _ h=>h) (Or.inl ⟨by rfl,?_⟩) ?_
          rotate_left
          ·intro w; go_simp; try (with_reducible rfl)
          simp only [Act.put,List.getElem_toArray,List.getElem_cons_succ,List.getElem_cons_zero,List.setIfInBounds_toArray,List.set_cons_succ,List.set_cons_zero]
          refine wpAny_ready (rs:=[32]) (by kernel_rfl) (by simp) ?_
          refine AllReady.cons rfl (fun K hK=>?_) (AllReady.nil)
          ·try go_simp
           go_wp2_with (go_at_call 27; refine (HAw.out v5).mono ?_; rintro e v6 ⟨rfl,hb6⟩)
           have b6:=bnext b5 hb6
           clear hb6
           refine wpAny_take (i:=33) (v:=?_) rfl (by kernel_rfl) (by kernel_rfl) (by kernel_rfl) (fun _ _ _ h=>h) (Or.inl ⟨by rfl,?_⟩) ?_
           rotate_left
           ·intro w; go_simp; try (with_reducible rfl)
           simp only [Act.put,List.getElem_toArray,List.getElem_cons_succ,List.getElem_cons_zero,List.setIfInBounds_toArray,List.set_cons_succ,List.set_cons_zero]
           refine wpAny_take (i:=34) (v:=?_) rfl (by kernel_rfl) (by kernel_rfl) (by kernel_rfl) (fun _ _ _ h=>h) (Or.inl ⟨by rfl,?_⟩) ?_
           rotate_left
           ·intro w; go_simp; try (with_reducible rfl)
           simp only [Act.put,List.getElem_toArray,List.getElem_cons_succ,List.getElem_cons_zero,List.setIfInBounds_toArray,List.set_cons_succ,List.set_cons_zero]
           refine wpAny_done (by kernel_rfl) ?_ _
           go_wp2_with fail
           go_ret
           exact ⟨rfl,bnext Ea.out b6⟩
      ·have c2:=(HGa.out v0 b0).1
       try go_simp
       refine hK _ _ ?_
       clear hK K c2
       simp only [List.setIfInBounds_toArray,List.set_cons_succ,List.set_cons_zero]
       refine wpAny_ready (rs:=[20]) (by kernel_rfl) (by simp) ?_
       refine AllReady.cons rfl (fun K hK=>?_) (AllReady.nil)
       ·try go_simp
        go_wp2_with (go_at_call 24; refine (HBk.out v0 b0).mono ?_; rintro e w3x ⟨rfl,rfl⟩)
        refine wpAny_ready (rs:=[21]) (by kernel_rfl) (by simp) ?_
        refine AllReady.cons rfl (fun K hK=>?_) (AllReady.nil)
        ·try go_simp
         go_wp2_with (go_at_call 16; refine (HDi.out v0 b0).mono ?_; rintro e v4 ⟨A4,c4,rfl,-,-,-,-,hb4⟩)
         have b4:=bnext b0 hb4
         clear hb4
         refine wpAny_take (i:=22) (v:=?_) rfl (by kernel_rfl) (by kernel_rfl) (by kernel_rfl) (fun _ _ _ h=>h) (Or.inl ⟨by rfl,?_⟩) ?_
         rotate_left
         ·intro w; go_simp; try (with_reducible rfl)
         simp only [Act.put,List.getElem_toArray,List.getElem_cons_succ,List.getElem_cons_zero,List.setIfInBounds_toArray,List.set_cons_succ,List.set_cons_zero]
         refine wpAny_ready (rs:=[27]) (by kernel_rfl) (by simp) ?_
         refine AllReady.cons rfl (fun K hK=>?_) (AllReady.nil)
         ·try go_simp
          go_wp2_with (go_at_call 16; refine (HDi.out v4 b4).mono ?_; rintro e v5 ⟨A5,c5,rfl,-,-,-,-,hb5⟩)
          have b5:=bnext b4 hb5
          clear hb5
          refine wpAny_take (i:=28) (v:=?_) rfl (by kernel_rfl) (by kernel_rfl) (by kernel_rfl) (fun _ _ _ h=>h) (Or.inl ⟨by rfl,?_⟩) ?_
          rotate_left
          ·intro w; go_simp; try (with_reducible rfl)
          simp only [Act.put,List.getElem_toArray,List.getElem_cons_succ,List.getElem_cons_zero,List.setIfInBounds_toArray,List.set_cons_succ,List.set_cons_zero]
          refine wpAny_take (i:=29) (v:=?_) rfl (by kernel_rfl) (by kernel_rfl) (by kernel_rfl) (fun _ _ _ h=>h) (Or.inl ⟨by rfl,?_⟩) ?_
          rotate_left
          ·intro w; go_simp; try (with_reducible rfl)
          simp only [Act.put,List.getElem_toArray,List.getElem_cons_succ,List.getElem_cons_zero,List.setIfInBounds_toArray,List.set_cons_succ,List.set_cons_zero]
          refine wpAny_take (i:=30) (v:=?_) rfl (by kernel_rfl) (by kernel_rfl) (by kernel_rfl) (fun _ _ _ h=>h) (Or.inl ⟨by rfl,?_⟩) ?_
          rotate_left
          ·intro w; go_simp; try (with_reducible rfl)
          simp only [Act.put,List.getElem_toArray,List.getElem_cons_succ,List.getElem_cons_zero,List.setIfInBounds_toArray,List.set_cons_succ,List.set_cons_zero]
          refine wpAny_take (i:=31) (v:=?_) rfl (by kernel_rfl) (by kernel_rfl) (by kernel_rfl) (fun _ _ _ h=>h) (Or.inl ⟨by rfl,?_⟩) ?_
          rotate_left
          ·intro w; go_simp; try (with_reducible rfl)
          simp only [Act.put,List.getElem_toArray,List.getElem_cons_succ,List.getElem_cons_zero,List.setIfInBounds_toArray,List.set_cons_succ,List.set_cons_zero]
          refine wpAny_ready (rs:=[32]) (by kernel_rfl) (by simp) ?_
          refine AllReady.cons rfl (fun K hK=>?_) (AllReady.nil)
          ·try go_simp
           go_wp2_with (go_at_call 27; refine (HAw.out v5).mono ?_; rintro e v6 ⟨rfl,hb6⟩)
           have b6:=bnext b5 hb6
           clear hb6
           refine wpAny_take (i:=33) (v:=?_) rfl (by kernel_rfl) (by kernel_rfl) (by kernel_rfl) (fun _ _ _ h=>h) (Or.inl ⟨by rfl,?_⟩) ?_
           rotate_left
           ·intro w; go_simp; try (with_reducible rfl)
           simp only [Act.put,List.getElem_toArray,List.getElem_cons_succ,List.getElem_cons_zero,List.setIfInBounds_toArray,List.set_cons_succ,List.set_cons_zero]
           refine wpAny_take (i:=34) (v:=?_) rfl (by kernel_rfl) (by kernel_rfl) (by kernel_rfl) (fun _ _ _ h=>h) (Or.inl ⟨by rfl,?_⟩) ?_
           rotate_left
           ·intro w; go_simp; try (with_reducible rfl)
           simp only [Act.put,List.getElem_toArray,List.getElem_cons_succ,List.getElem_cons_zero,List.setIfInBounds_toArray,List.set_cons_succ,List.set_cons_zero]
           refine wpAny_done (by kernel_rfl) ?_ _
           go_wp2_with fail
           go_ret
           exact ⟨rfl,bnext Ea.out b6⟩
     ·have c1:=(HGa.out v0 b0).1
      try go_simp
      refine hK _ _ ?_
      clear hK K c1
      simp only [List.setIfInBounds_toArray,List.set_cons_succ,List.set_cons_zero]
      refine wpAny_ready (rs:=[19]) (by kernel_rfl) (by simp) ?_
      refine AllReady.cons rfl (fun K hK=>?_) (AllReady.nil)
      ·have c2:=(HGa.out v0 b0).2
       try go_simp
       refine hK _ _ ?_
       clear hK K c2
       simp only [List.setIfInBounds_toArray,List.set_cons_succ,List.set_cons_zero]
       refine wpAny_ready (rs:=[20]) (by kernel_rfl) (by simp) ?_
       refine AllReady.cons rfl (fun K hK=>?_) (AllReady.nil)
       ·try go_simp
        go_wp2_with (go_at_call 24; refine (HBk.out v0 b0).mono ?_; rintro e w3x ⟨rfl,rfl⟩)
        refine wpAny_ready (rs:=[21]) (by kernel_rfl) (by simp) ?_
        refine AllReady.cons rfl (fun K hK=>?_) (AllReady.nil)
        ·try go_simp
         go_wp2_with (go_at_call 16; refine (HDi.out v0 b0).mono ?_; rintro e v4 ⟨A4,c4,rfl,-,-,-,-,hb4⟩)
         have b4:=bnext b0 hb4
         clear hb4
         refine wpAny_take (i:=22) (v:=?_) rfl (by kernel_rfl) (by kernel_rfl) (by kernel_rfl) (fun _ _ _ h=>h) (Or.inl ⟨by rfl,?_⟩) ?_
         rotate_left
         ·intro w; go_simp; try (with_reducible rfl)
         simp only [Act.put,List.getElem_toArray,List.getElem_cons_succ,List.getElem_cons_zero,List.setIfInBounds_toArray,List.set_cons_succ,List.set_cons_zero]
         refine wpAny_ready (rs:=[27]) (by kernel_rfl) (by simp) ?_
         refine AllReady.cons rfl (fun K hK=>?_) (AllReady.nil)
         ·try go_simp
          go_wp2_with (go_at_call 16; refine (HDi.out v4 b4).mono ?_; rintro e v5 ⟨A5,c5,rfl,-,-,-,-,hb5⟩)
          have b5:=bnext b4 hb5
          clear hb5
          refine wpAny_take (i:=28) (v:=?_) rfl (by kernel_rfl) (by kernel_rfl) (by kernel_rfl) (fun _ _ _ h=>h) (Or.inl ⟨by rfl,?_⟩) ?_
          rotate_left
          ·intro w; go_simp; try (with_reducible rfl)
          simp only [Act.put,List.getElem_toArray,List.getElem_cons_succ,List.getElem_cons_zero,List.setIfInBounds_toArray,List.set_cons_succ,List.set_cons_zero]
          refine wpAny_take (i:=29) (v:=?_) rfl (by kernel_rfl) (by kernel_rfl) (by kernel_rfl) (fun _ _ _ h=>h) (Or.inl ⟨by rfl,?_⟩) ?_
          rotate_left
          ·intro w; go_simp; try (with_reducible rfl)
          simp only [Act.put,List.getElem_toArray,List.getElem_cons_succ,List.getElem_cons_zero,List.setIfInBounds_toArray,List.set_cons_succ,List.set_cons_zero]
          refine wpAny_take (i:=30) (v:=?_) rfl (by kernel_rfl) (by kernel_rfl) (by kernel_rfl) (fun _ _ _ h=>h) (Or.inl ⟨by rfl,?_⟩) ?_
          rotate_left
          ·intro w; go_simp; try (with_reducible rfl)
          simp only [Act.put,List.getElem_toArray,List.getElem_cons_succ,List.getElem_cons_zero,List.setIfInBounds_toArray,List.set_cons_succ,List.set_cons_zero]
          refine wpAny_take (i:=31) (v:=?_) rfl (by kernel_rfl) (by kernel_rfl) (by kernel_rfl) (fun _ _ _ h=>h) (Or.inl ⟨by rfl,?_⟩) ?_
          rotate_left
          ·intro w; go_simp; try (with_reducible rfl)
          simp only [Act.put,List.getElem_toArray,List.getElem_cons_succ,List.getElem_cons_zero,List.setIfInBounds_toArray,List.set_cons_succ,List.set_cons_zero]
          refine wpAny_ready (rs:=[32]) (by kernel_rfl) (by simp) ?_
          refine AllReady.cons rfl (fun K hK=>?_) (AllReady.nil)
          ·try go_simp
           go_wp2_with (go_at_call 27; refine (HAw.out v5).mono ?_; rintro e v6 ⟨rfl,hb6⟩)
           have b6:=bnext b5 hb6
           clear hb6
           refine wpAny_take (i:=33) (v:=?_) rfl (by kernel_rfl) (by kernel_rfl) (by kernel_rfl) (fun _ _ _ h=>h) (Or.inl ⟨by rfl,?_⟩) ?_
           rotate_left
           ·intro w; go_simp; try (with_reducible rfl)
           simp only [Act.put,List.getElem_toArray,List.getElem_cons_succ,List.getElem_cons_zero,List.setIfInBounds_toArray,List.set_cons_succ,List.set_cons_zero]
           refine wpAny_take (i:=34) (v:=?_) rfl (by kernel_rfl) (by kernel_rfl) (by kernel_rfl) (fun _ _ _ h=>h) (Or.inl ⟨by rfl,?_⟩) ?_
           rotate_left
           ·intro w; go_simp; try (with_reducible rfl)
           simp only [Act.put,List.getElem_toArray,List.getElem_cons_succ,List.getElem_cons_zero,List.setIfInBounds_toArray,List.set_cons_succ,List.set_cons_zero]
           refine wpAny_done (by kernel_rfl) ?_ _
           go_wp2_with fail
           go_ret
           exact ⟨rfl,bnext Ea.out b6⟩
theorem FetchClean_law (W:World) (v0 v1 v2 v3:Value) (a0:Arg W (.int .i64) v0) (a1:Arg W (.slice 6 sampTy) v1) (a2:Arg W (.int .i64) v2) (a3:Arg W (.slice 3 whoTy) v3) :
  Calls Tryz.prog 6 #[v0,v1,v2,v3] W fun e w'=>e=.returned (.bool true)/\Below W.heap.size W w':=by
 obtain ⟨size,h0,_,_⟩:=a0
 obtain rfl:v0=.int .i64 size:=by simpa using h0
 obtain ⟨L,A,cap,rfl,_,_,_,hs,hn⟩:=samps_arg a1
 obtain ⟨slots,h2,_,_⟩:=a2
 obtain rfl:v2=.int .i64 slots:=by simpa using h2
 obtain ⟨Lw,Aw,capw,rfl,hlw,hrw⟩:=who_arg a3
 exact FetchClean_walk size slots L A cap Lw Aw capw W hs hn hlw hrw
end
end Go.Proofs.YtnbbfblaipjcmaaGreatDoor
