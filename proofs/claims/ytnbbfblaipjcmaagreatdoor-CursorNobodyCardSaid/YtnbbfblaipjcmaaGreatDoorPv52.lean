/- FetA, FetB, CurC, FetC, FetD, FetX, FetY, CurD, CurE, CurF, CurH, CurG, CurI, LawCN. Conditions: as each theorem states. -/
import Derived.Test.YtnbbfblaipjcmaaGreatDoorPv50
import Derived.Test.YtnbbfblaipjcmaaGreatDoorPv51
import Derived.Test.YtnbbfblaipjcmaaGreatDoorPv26
import Derived.Test.YtnbbfblaipjcmaaGreatDoorPv30
import Derived.Test.YtnbbfblaipjcmaaGreatDoorPv46
import Derived.Test.YtnbbfblaipjcmaaGreatDoorPv20
import Derived.Test.YtnbbfblaipjcmaaGreatDoorPv48
import Derived.Test.YtnbbfblaipjcmaaGreatDoorPv38
set_option maxRecDepth 100000
set_option maxHeartbeats 16000000
namespace Go.Proofs.YtnbbfblaipjcmaaGreatDoor
section
open Go.RowKit Go.Lib
theorem OnlyIn.below {S:List Nat} {w w':World} {B:Nat} (h:OnlyIn S w w') (hS:∀ x ∈ S,B<=x) (hB:B<=w.heap.size):Below B w w' :=
 ⟨h.os,h.tape,h.output,h.size,fun j hj=>h.block j (by omega) (fun hm=>by have:=hS j hm; omega)⟩
def FrmPost (w:World) (f:FrameV) (er:Int) (e:Ending) (w':World):Prop :=
 ∃ A c,e=.returned (.tuple #[.agg (aY f (.slice A f.tones.length c)),.int .i64 er])/\f.tones.length<=c/\c<=9223372036854775807/\(f.tones=[]\/∃ g,A=some ⟨g,0,none⟩/\w.heap.size<=g)/\Row w' w'.heap.size A (aW f.tones)
theorem FrmPost.zero (w w':World) (er:Int):FrmPost w eR er (.returned (.tuple #[.agg bK,.int .i64 er])) w':=⟨none,0,rfl,Nat.le_refl _,by omega,.inl rfl,Row.none_ _ _ _⟩
theorem aCe {bs:List Nat} (h:Byt bs) (o n:Nat):Byt (cA bs o n):=fun x hx=>by
 unfold cA at hx
 obtain ⟨j,_,rfl⟩:=List.mem_map.1 hx
 rw [List.getD_eq_getElem?_getD]
 cases hq:bs[o+j]? with
 | none=>show (0:Nat) < 256; omega
 | some z=>exact h z (List.mem_of_getElem? hq)
theorem JO (D:List MetaV) (bs:List Nat) (i c b:Int) (B:List Nat):(kZ D bs i c b B).Len:=by
 unfold kZ
 split
 ·exact wP B
 ·exact ⟨rfl,rfl,rfl,rfl⟩
structure FetchOk (wB w:World) (bs:List Nat) (size:Nat) (D:List MetaV) (gx gc gd gs gf:Nat) (Ai:Option Addr) (gm K:Nat) (rd:Int) (v:CacheV) (fr lo:Int):Prop where
 bank:BankAt wB gx bs size D
 fit:FitB bs size D
 even:bs.length % 64=0
 old:Below wB.heap.size wB w
 cN:wB.heap.size<=gc
 sN:wB.heap.size<=gs
 dN:wB.heap.size<=gd
 fN:wB.heap.size<=gf
 img:∀ ad,Ai=some ad->ad.block ≠ gf
 head:Blk w gf 44 [.pointer (some ⟨gc,0,none⟩),.pointer (some ⟨gx,0,none⟩),.int .i64 fr,.int .i64 lo]
 cache:CacheOk w bs gc gd gs Ai gm K rd v
 cnt:(0<=fr/\fr<=K)/\(0<=lo/\lo<=K)
theorem FetchOk.later {wB w w':World} {bs:List Nat} {size:Nat} {D:List MetaV} {gx gc gd gs gf:Nat} {Ai:Option Addr} {gm K:Nat} {rd:Int} {v:CacheV} {fr lo:Int} (h:FetchOk wB w bs size D gx gc gd gs gf Ai gm K rd v fr lo) (hb:Below w.heap.size w w'):FetchOk wB w' bs size D gx gc gd gs gf Ai gm K rd v fr lo :=
 ⟨h.bank,h.fit,h.even,aC h.old hb,h.cN,h.sN,h.dN,h.fN,h.img,h.head.below hb h.head.lt,h.cache.later hb,h.cnt⟩
theorem FetchOk.bankAt {wB w:World} {bs:List Nat} {size:Nat} {D:List MetaV} {gx gc gd gs gf:Nat} {Ai:Option Addr} {gm K:Nat} {rd:Int} {v:CacheV} {fr lo:Int} (h:FetchOk wB w bs size D gx gc gd gs gf Ai gm K rd v fr lo):BankAt w gx bs size D:=h.bank.later h.old
theorem CacheOk.lts {w:World} {bs:List Nat} {gc gd gs:Nat} {Ai:Option Addr} {gm K:Nat} {rd:Int} {v:CacheV} (h:CacheOk w bs gc gd gs Ai gm K rd v):gc < w.heap.size/\gs < w.heap.size/\gd < w.heap.size/\gm < w.heap.size:=by
 obtain ⟨cd,hd⟩:=h.disk.blk
 exact ⟨h.cache.head.lt,h.cache.slots.lt,hd.lt,hlt h.disk.2.2⟩
theorem CacheOk.img_lt {w:World} {bs:List Nat} {gc gd gs:Nat} {Ai:Option Addr} {gm K:Nat} {rd:Int} {v:CacheV} (h:CacheOk w bs gc gd gs Ai gm K rd v) (h0:0 < bs.length):∀ ad,Ai=some ad->ad.block < w.heap.size:=fun ad had=>by
 obtain ⟨b0,hb0⟩:∃ b0,bs[0]? = some b0:=⟨_,List.getElem?_eq_getElem h0⟩
 obtain ⟨bi,oi,hA,hbi,_⟩:=h.disk.2.1 0 _ (d9 hb0)
 rw [hA] at had
 injection had with had
 rw [<-had]; exact hbi
theorem tM {w:World} {gf gc gx:Nat} {fr lo:Int} (h:Blk w gf 44 [.pointer (some ⟨gc,0,none⟩),.pointer (some ⟨gx,0,none⟩),.int .i64 fr,.int .i64 lo]):Calls Tryz.prog 87 #[.pointer (some ⟨gf,0,none⟩)] w fun e w'=>e=.returned (.bool false)/\w=w':=by
 have c1:w.cell? ⟨gf,1,none⟩=some (.pointer (some ⟨gx,0,none⟩)):=(h.cell 1).trans rfl
 clear h
 go_enter Tryz.func87,Tryz.ntmps87
 go_wp2
 go_ret
 exact ⟨rfl,rfl⟩
def KC (w:World) (bs:List Nat) (size:Nat) (D:List MetaV) (gc gd gs:Nat) (Ai:Option Addr) (gm K:Nat) (i c b:Int) (e:Ending) (w':World):Prop :=
 FrmPost w (kZ D bs i c b (cA bs (bN D size i c b).toNat size)) (gQ D bs i c b (cA bs (bN D size i c b).toNat size)) e w'/\OnlyIn [gc,gs,gd] w w'/\∃ rd' v',CacheOk w' bs gc gd gs Ai gm (K+size) rd' v'
theorem GN {wB w:World} {bs:List Nat} {size:Nat} {D:List MetaV} {gx gc gd gs gf:Nat} {Ai:Option Addr} {gm K:Nat} {rd:Int} {v:CacheV} {fr lo:Int} (h:FetchOk wB w bs size D gx gc gd gs gf Ai gm K rd v fr lo) (i c b:Int) (hK:K+96<=1000000000000000) (hE:bW D i c b=0) :
  Calls Tryz.prog 88 #[.pointer (some ⟨gf,0,none⟩),.int .i64 i,.int .i64 c,.int .i64 b,.int .i64 (bN D size i c b)] w (KC w bs size D gc gd gs Ai gm K i c b):=by
 have HFin:=hid (show ∀ e w',(FrmPost w (kZ D bs i c b (cA bs (bN D size i c b).toNat size)) (gQ D bs i c b (cA bs (bN D size i c b).toNat size)) e w'/\OnlyIn [gc,gs,gd] w w'/\∃ rd' v',CacheOk w' bs gc gd gs Ai gm (K+size) rd' v')->KC w bs size D gc gd gs Ai gm K i c b e w' from fun _ _ h=>h)
 obtain ⟨o,ho,hob⟩:∃ o:Nat,bN D size i c b=(o:Int)/\o+size<=bs.length:=by
  obtain ⟨x,hxD,hxe,chN,cn,bn,S,F,q,P,e1,rfl,rfl,e2,e3,hm1,hq,hP,hm2,l1,l2,_,b0,b1,hbc⟩:=vJ h.fit hE
  refine ⟨F+P,?_,l2⟩
  unfold bN p9
  rw [if_pos hE,hxe,e1,e3,hm1,<-Int.natCast_add,hq,hm2]
  push_cast; rfl
 rw [ho,Int.toNat_natCast] at HFin
 rw [ho]
 have hlo:=h.fit.lo
 have hhi:=h.fit.hi
 have HFz:=hid (show (Tryz.prog.info? 50).map (·.size)=some bK.size from bX)
 have Hz1:=hid (show bK.all (·.oneCell')=true by simp [bK,Value.oneCell'])
 obtain ⟨w1,hw1⟩:∃ w1,w.alloc (.cells bK 50)=w1:=⟨_,rfl⟩
 have B1:=hid (show Below w.heap.size w w1 by rw [<-hw1]; exact aL w _)
 have S1:=hid (show Blk w1 w.heap.size 50 bK.toList by rw [<-hw1]; exact Blk.new w _ _)
 have hw1':w.alloc (.cells #[.int .i64 0,.int .i64 0,.int .i64 0,.int .i64 0,.slice none 0 0,.int .i64 0,.int .i64 0,.int .i64 0,.int .i64 0,.int .i64 0,.int .i64 0,.int .i64 0,.int .i64 0,.int .i64 0,.int .i64 0,.int .i64 0,.int .i64 0,.int .i64 0,.int .i64 0,.int .i64 0,.int .i64 0,.int .i64 0,.int .i64 0,.int .i64 0,.int .i64 0,.int .i64 0,.int .i64 0,.int .i64 0,.int .i64 0] 50)=w1:=hw1
 have H1:=hid (h.later B1.out)
 have HSz:=hid (fun (W:World) (hW:Below w1.heap.size w1 W)=>IE ((H1.out.later hW).bankAt) (by omega))
 have HSp:=hid (fun (W:World) (hW:Below w1.heap.size w1 W)=>(show Calls Tryz.prog 39 #[.pointer (some ⟨gc,0,none⟩),.int .i64 o,.int .i64 size] W (M8 W bs gc gd gs Ai gm K v o size) from GJ W bs gc gd gs Ai gm K rd v o size ((H1.out.later hW).cache) (by omega) (by have:=h.fit.long; omega) h.even hob (by omega) h.fit.byt))
 have HOp:=hid (fun (W:World) A cap (hW:Below wB.heap.size wB W) (hr:Row W W.heap.size A (u8s (cA bs o size)))=>(show Calls Tryz.prog 34 #[.pointer (some ⟨gx,0,none⟩),.int .i64 i,.int .i64 c,.int .i64 b,.slice A size cap] W (mJ W (kZ D bs i c b (cA bs o size)) (gQ D bs i c b (cA bs o size))) from by
  have:=aAV gx size bs D i c b (cA bs o size) A cap W (h.bank.later hW) h.fit (by rw [eO]; omega) (aCe h.fit.byt _ _) hr
  rw [eO] at this
  exact this))
 have HL:=hid (JO D bs i c b (cA bs o size))
 have H:=hid h
 unfold M8 at HSp
 unfold mJ at HOp
 have x0:=fun (z:GW w1)=>(show z.1.cell? ⟨gf,0,none⟩=some (.pointer (some ⟨gc,0,none⟩)) from (z.2.cell (p:=⟨gf,0,none⟩) H1.out.head.lt).trans (H1.out.head.cell 0))
 have x1:=fun (z:GW w1)=>(show z.1.cell? ⟨gf,1,none⟩=some (.pointer (some ⟨gx,0,none⟩)) from (z.2.cell (p:=⟨gf,1,none⟩) H1.out.head.lt).trans (H1.out.head.cell 1))
 clear hw1 h hE ho
 generalize kZ D bs i c b (cA bs o size)=OF at *
 generalize gQ D bs i c b (cA bs o size)=OE at *
 generalize KC w bs size D gc gd gs Ai gm K i c b=FP at *
 go_enter Tryz.func88,Tryz.ntmps88
 go_wp2_with fail
 refine tI 10 #[true,true,true,true,true,true,true,true,true,true,false,false,false,false,false,false] (by kernel_rfl) (by kernel_rfl) ?_
 simp only [List.take_succ_cons,List.take_zero]
 repeat (go_big_quiet_step ((go_at_call 85; rename_i z; exact cR (HSz.out z.1 z.2))))
 refine wpQuiet_nil ?_
 intro w5 hw'
 have B5:=hid (aK hw')
 have HS5:=hid (HSp.out w5 B5.out)
 clear hw' x0 x1 hw1'
 change wpAny _ _ _ _ 6 _ _ _
 refine wpAny_ready (rs:=[10]) (by kernel_rfl) (by simp) ?_
 refine AllReady.cons rfl (fun K hK=>?_) AllReady.nil
 go_simp
 go_wp2_with (go_at_call 39; refine HS5.out.mono ?_; rintro e w6 ⟨A,cap,rd',v',rfl,hown,hC,hO,hfr6⟩)
 refine wpAny_take (i:=11) (v:=?_) rfl (by kernel_rfl) (by kernel_rfl) (by kernel_rfl) (fun _ _ _ h=>h) (Or.inl ⟨by rfl,?_⟩) ?_
 rotate_left
 ·intro w; go_simp; try (with_reducible rfl)
 simp only [Act.put,List.getElem_toArray,List.getElem_cons_succ,List.getElem_cons_zero,List.setIfInBounds_toArray,List.set_cons_succ,List.set_cons_zero]
 refine wpAny_take (i:=12) (v:=?_) rfl (by kernel_rfl) (by kernel_rfl) (by kernel_rfl) (fun _ _ _ h=>h) (Or.inl ⟨by rfl,?_⟩) ?_
 rotate_left
 ·intro w; go_simp; try (with_reducible rfl)
 simp only [Act.put,List.getElem_toArray,List.getElem_cons_succ,List.getElem_cons_zero,List.setIfInBounds_toArray,List.set_cons_succ,List.set_cons_zero]
 refine wpAny_take (i:=13) (v:=?_) rfl (by kernel_rfl) (by kernel_rfl) (by kernel_rfl) (fun _ _ _ h=>h) (Or.inl ⟨by rfl,?_⟩) ?_
 rotate_left
 ·intro w; go_simp; try (with_reducible rfl)
 simp only [Act.put,List.getElem_toArray,List.getElem_cons_succ,List.getElem_cons_zero,List.setIfInBounds_toArray,List.set_cons_succ,List.set_cons_zero]
 refine wpAny_take (i:=14) (v:=?_) rfl (by kernel_rfl) (by kernel_rfl) (by kernel_rfl) (fun _ _ _ h=>h) (Or.inl ⟨by rfl,?_⟩) ?_
 rotate_left
 ·intro w; go_simp; try (with_reducible rfl)
 simp only [Act.put,List.getElem_toArray,List.getElem_cons_succ,List.getElem_cons_zero,List.setIfInBounds_toArray,List.set_cons_succ,List.set_cons_zero]
 refine wpAny_take (i:=15) (v:=?_) rfl (by kernel_rfl) (by kernel_rfl) (by kernel_rfl) (fun _ _ _ h=>h) (Or.inl ⟨by rfl,?_⟩) ?_
 rotate_left
 ·intro w; go_simp; try (with_reducible rfl)
 simp only [Act.put,List.getElem_toArray,List.getElem_cons_succ,List.getElem_cons_zero,List.setIfInBounds_toArray,List.set_cons_succ,List.set_cons_zero]
 refine wpAny_done (by kernel_rfl) ?_ _
 have C5:=hid ((H1.out.later B5.out).cache)
 have hlts:=H.out.cache.lts
 have B6:=hid (hO.below (B:=wB.heap.size) (fun x hx=>by
  have:=H.out.cN
  have:=H.out.sN
  have:=H.out.dN
  simp only [List.mem_cons,List.not_mem_nil,or_false] at hx
  omega) (by have:=H.out.old.size; have:=B1.out.size; have:=B5.out.size; omega))
 have HO6:=hid (HOp.out w6 A cap ((aC H.out.old (aC B1.out B5.out)).trans B6.out) (Row.of_own hown))
 have S6:=hid (hO.heap (S1.out.below B5.out S1.out.lt) (by
  simp only [List.mem_cons,List.not_mem_nil,or_false]
  omega))
 have O6:=hid ((OnlyIn.of_below [gc,gs,gd] (aC B1.out B5.out)).trans hO)
 have C6:=hid hC
 have x1:w6.cell? ⟨gf,1,none⟩=some (.pointer (some ⟨gx,0,none⟩)):=by
  have hne:gf ∉ [gc,gs,gd]:=by
   obtain ⟨cd,hd⟩:=H.out.cache.disk.blk
   have n1:=cL H.out.head H.out.cache.cache.head (by decide)
   have n2:=cL H.out.head H.out.cache.cache.slots (by decide)
   have n3:=cL H.out.head hd (by decide)
   simp only [List.mem_cons,List.not_mem_nil,or_false]
   omega
  have hB5:=(H1.out.later B5.out).head
  exact (aG (hO.heap hB5 hne) 1).trans rfl
 clear hown hC hO hfr6 HS5 hlts HSz HSp HOp
 go_wp2_with (go_at_call 34; fail)
 refine HO6.out.mono ?_
 rintro e w7 ⟨Af,cf,rfl,htl,hcf,hfr,hrow,hb7⟩
 obtain ⟨p,hp⟩:∃ p:FrH × FrameV,(⟨⟨Af,cf⟩,OF⟩:FrH × FrameV)=p:=⟨_,rfl⟩
 have hpc:aY OF (.slice Af OF.tones.length cf)=(frC p).toArray:=by rw [<-hp]; rfl
 rw [hpc]
 have HPc:=hid hpc
 have hpl:(frC p).length=29:=kI (by rw [<-hp]; exact HL.out)
 have Hp1:=hid (mL p)
 obtain ⟨fl,hfl⟩:∃ fl,frC p=fl:=⟨_,rfl⟩
 rw [hfl] at Hp1 hpl HPc ⊢
 have hfs:fl.toArray.size=29:=by rw [List.size_toArray,hpl]
 have HFf:=hid (show (Tryz.prog.info? 50).map (·.size)=some fl.toArray.size by rw [hfs]; exact bX)
 have Hf1:=hid (show fl.toArray.all (·.oneCell')=true by
  rw [Array.all_eq_true_iff_forall_mem]
  intro v hv
  exact Hp1.out v (by simpa using hv))
 have HZ2:=hid (show bK.size=fl.toArray.size by rw [hfs]; rfl)
 have S7:=hid (show w7.heap[w.heap.size]? = some (.cells bK 50 (0,0)) from aF S6.out hb7)
 have HE:=hid (HFin.out (.returned (.tuple #[.agg fl.toArray,.int .i64 OE])) (w7.setRow w.heap.size fl.toArray) ⟨⟨Af,cf,by rw [HPc.out],htl,hcf,hfr.imp id fun ⟨g',h1,h2⟩=>⟨g',h1,by have:=O6.out.size; omega⟩,lQ (hfr.imp id fun ⟨g',h1,h2⟩=>⟨g',h1,h2⟩) (hlt S6.out) fl.toArray hrow⟩,?_,?_⟩)
 rotate_left
 ·exact (O6.out.trans (OnlyIn.of_below _ hb7)).grown (cZ (World.grownBy.refl w7 (some w.heap.size)) _) (fun k hk=>by rw [<-Option.some.inj hk]; exact Nat.le_refl _)
 ·have C7:=C6.out.later hb7
  have hS7:Blk w7 w.heap.size 50 bK.toList:=S7.out
  have hl:=H.out.cache.lts
  have hA:=H.out.cache.img_lt (by omega)
  have hO7:=OnlyIn.of_own (cZ (World.grownBy.refl w7 (some w.heap.size)) fl.toArray)
  refine ⟨rd',v',C7.only hO7 ?_ ?_ ?_ ?_ ?_ ?_⟩
  ·simp only [Option.toList_some,List.mem_singleton]; omega
  ·simp only [Option.toList_some,List.mem_singleton]; omega
  ·simp only [Option.toList_some,List.mem_singleton]; omega
  ·simp only [Option.toList_some,List.mem_singleton]; omega
  ·intro ad had
   have:=hA ad had
   simp only [Option.toList_some,List.mem_singleton]; omega
  ·intro s hs hf g' hg' hm
   simp only [Option.toList_some,List.mem_singleton] at hm
   obtain ⟨p',gb',_,_,h3,_,_,h6⟩:=C7.full s hs hf
   rw [hg'] at h3
   injection h3 with h3
   injection h3 with h3
   rw [<-h3,hm] at h6
   exact cL h6 hS7 (by decide) rfl
 clear htl hcf hfr hrow hb7 hp hpc hpl hfl hfs
 go_wp2_with (refine aA rfl 50 (.tmp 10) (.tmp 41) rfl w.heap.size rfl _ _ fl.toArray rfl S7.out HFf.out HZ2.out Hf1.out ?_)
 refine bodyPost_ret (v:=.tuple #[.agg fl.toArray,.int .i64 OE]) (aU Tryz.results88 _ _ w.heap.size 50 fl.toArray (0,0) _ _ rfl rfl (setRow_heap _ _ _ _ _ _ S7.out) Tryz.underlying50 rfl HFf.out) rfl ?_
 exact HE.out
end
section
open Go.RowKit Go.Lib
theorem CacheOk.typed {w w':World} {bs:List Nat} {gc gd gs:Nat} {Ai:Option Addr} {gm K:Nat} {rd:Int} {v:CacheV} (h:CacheOk w bs gc gd gs Ai gm K rd v) {r:Nat} {T:TypeId} {xs:List Value} (hr:Blk w r T xs) (h1:188 ≠ T) (h2:247 ≠ T) (h3:232 ≠ T) (h4:5 ≠ T)
  (hA:∀ ad,Ai=some ad->ad.block ≠ r) (hO:OnlyIn [r] w w'):CacheOk w' bs gc gd gs Ai gm K rd v:=by
 obtain ⟨cd,hd⟩:=h.disk.blk
 refine h.only hO ?_ ?_ ?_ ?_ ?_ ?_
 ·simpa using cL h.cache.head hr h1
 ·simpa using cL h.cache.slots hr h2
 ·simpa using cL hd hr h3
 ·simpa using vV hr h.disk.2.2
 ·intro ad had
  simpa using hA ad had
 ·intro s hs hf g' hg' hm
  have hm:g'=r:=by simpa using hm
  obtain ⟨p',gb',_,_,e3,_,_,e6⟩:=h.full s hs hf
  rw [hg'] at e3
  injection e3 with e3
  injection e3 with e3
  rw [<-e3,hm] at e6
  exact cL e6 hr h4 rfl
theorem FetchOk.step {wB w w':World} {bs:List Nat} {size:Nat} {D:List MetaV} {gx gc gd gs gf:Nat} {Ai:Option Addr} {gm K K':Nat} {rd rd':Int} {v v':CacheV} {fr lo:Int} (h:FetchOk wB w bs size D gx gc gd gs gf Ai gm K rd v fr lo) (hO:OnlyIn [gc,gs,gd] w w') (hC:CacheOk w' bs gc gd gs Ai gm K' rd' v') (hK:K<=K'):FetchOk wB w' bs size D gx gc gd gs gf Ai gm K' rd' v' fr lo:=by
 obtain ⟨cd,hd⟩:=h.cache.disk.blk
 have n1:=cL h.head h.cache.cache.head (by decide)
 have n2:=cL h.head h.cache.cache.slots (by decide)
 have n3:=cL h.head hd (by decide)
 have a1:=h.cN
 have a2:=h.sN
 have a3:=h.dN
 refine ⟨h.bank,h.fit,h.even,h.old.trans (hO.below (fun x hx=>?_) h.old.size),h.cN,h.sN,h.dN,h.fN,h.img,hO.heap h.head ?_,hC,by have:=h.cnt; omega⟩
 ·simp only [List.mem_cons,List.not_mem_nil,or_false] at hx
  omega
 ·simp only [List.mem_cons,List.not_mem_nil,or_false]
  omega
theorem FetchOk.more {wB w:World} {bs:List Nat} {size:Nat} {D:List MetaV} {gx gc gd gs gf:Nat} {Ai:Option Addr} {gm K K':Nat} {rd:Int} {v:CacheV} {fr lo:Int} (h:FetchOk wB w bs size D gx gc gd gs gf Ai gm K rd v fr lo) (hK:K<=K'):FetchOk wB w bs size D gx gc gd gs gf Ai gm K' rd v fr lo :=
 h.step (OnlyIn.refl _ _) (h.cache.more hK) hK
theorem FetchOk.count {wB w w':World} {bs:List Nat} {size:Nat} {D:List MetaV} {gx gc gd gs gf:Nat} {Ai:Option Addr} {gm K:Nat} {rd:Int} {v:CacheV} {fr lo fr' lo':Int} (h:FetchOk wB w bs size D gx gc gd gs gf Ai gm K rd v fr lo) (hO:OnlyIn [gf] w w') (hh:Blk w' gf 44 [.pointer (some ⟨gc,0,none⟩),.pointer (some ⟨gx,0,none⟩),.int .i64 fr',.int .i64 lo']) (hc:(0<=fr'/\fr'<=K)/\(0<=lo'/\lo'<=K)):FetchOk wB w' bs size D gx gc gd gs gf Ai gm K rd v fr' lo' :=
 ⟨h.bank,h.fit,h.even,h.old.trans (hO.below (fun x hx=>by rw [List.mem_singleton.1 hx]; exact h.fN) h.old.size),h.cN,h.sN,h.dN,h.fN,h.img,hh,h.cache.typed h.head (by decide) (by decide) (by decide) (by decide) h.img hO,hc⟩
theorem FetchOk.other {wB w w':World} {bs:List Nat} {size:Nat} {D:List MetaV} {gx gc gd gs gf:Nat} {Ai:Option Addr} {gm K:Nat} {rd:Int} {v:CacheV} {fr lo:Int} (h:FetchOk wB w bs size D gx gc gd gs gf Ai gm K rd v fr lo) {r:Nat} {xs:List Value} (hr:Blk w r 50 xs) (hN:wB.heap.size<=r) (hA:∀ ad,Ai=some ad->ad.block ≠ r) (hO:OnlyIn [r] w w'):FetchOk wB w' bs size D gx gc gd gs gf Ai gm K rd v fr lo :=
 ⟨h.bank,h.fit,h.even,h.old.trans (hO.below (fun x hx=>by rw [List.mem_singleton.1 hx]; exact hN) h.old.size),h.cN,h.sN,h.dN,h.fN,h.img,hO.heap h.head (by simpa using cL h.head hr (by decide)),h.cache.typed hr (by decide) (by decide) (by decide) (by decide) hA hO,h.cnt⟩
theorem OnlyIn.cellSet (w:World) (g j:Nat) (x:Value):OnlyIn [g] w (w.setCell ⟨g,j,none⟩ x):=OnlyIn.of_grown (grownBy_setB (World.grownBy.refl _ _) _ _) (List.mem_singleton.2 rfl)
theorem OnlyIn.rowSet (w:World) (g:Nat) (xs:Array Value):OnlyIn [g] w (w.setRow g xs):=OnlyIn.of_grown (cZ (World.grownBy.refl w (some g)) _) (List.mem_singleton.2 rfl)
def CA (wB w:World) (bs:List Nat) (size:Nat) (D:List MetaV) (gx gc gd gs gf:Nat) (Ai:Option Addr) (gm K:Nat) (fr lo:Int) (i c b:Int) (e:Ending) (w':World):Prop :=
 FrmPost w (kZ D bs i c b (cA bs (bN D size i c b).toNat size)) (gQ D bs i c b (cA bs (bN D size i c b).toNat size)) e w'/\OnlyIn [gc,gs,gd,gf] w w' /\
  ∃ rd' v',FetchOk wB w' bs size D gx gc gd gs gf Ai gm (K+97) rd' v' (if bW D i c b=0 then fr+1 else fr) (if bW D i c b=0/\gQ D bs i c b (cA bs (bN D size i c b).toNat size) ≠ 0 then lo+1 else lo)
theorem AD {D:List MetaV} {bs:List Nat} {i c b:Int} {B:List Nat} (h:bW D i c b ≠ 0):gQ D bs i c b B=bW D i c b/\kZ D bs i c b B=eR:=by
 have e:gQ D bs i c b B=bW D i c b:=by unfold gQ; rw [if_pos h]
 exact ⟨e,by unfold kZ; rw [e,if_neg h]⟩
theorem DJ {wB w:World} {bs:List Nat} {size:Nat} {D:List MetaV} {gx gc gd gs gf:Nat} {Ai:Option Addr} {gm K:Nat} {rd:Int} {v:CacheV} {fr lo:Int} (h:FetchOk wB w bs size D gx gc gd gs gf Ai gm K rd v fr lo) (i c b:Int) (hK:K+97<=1000000000000000) (h0:0 < bs.length) :
  Calls Tryz.prog 22 #[.pointer (some ⟨gf,0,none⟩),.int .i64 i,.int .i64 c,.int .i64 b] w (CA wB w bs size D gx gc gd gs gf Ai gm K fr lo i c b):=by
 have HFin:=hid (show ∀ e w',(FrmPost w (kZ D bs i c b (cA bs (bN D size i c b).toNat size)) (gQ D bs i c b (cA bs (bN D size i c b).toNat size)) e w'/\OnlyIn [gc,gs,gd,gf] w w' /\
  ∃ rd' v',FetchOk wB w' bs size D gx gc gd gs gf Ai gm (K+97) rd' v' (if bW D i c b=0 then fr+1 else fr) (if bW D i c b=0/\gQ D bs i c b (cA bs (bN D size i c b).toNat size) ≠ 0 then lo+1 else lo))->CA wB w bs size D gx gc gd gs gf Ai gm K fr lo i c b e w' from fun _ _ h=>h)
 have HFz:=hid (show (Tryz.prog.info? 50).map (·.size)=some bK.size from bX)
 have Hz1:=hid (show bK.all (·.oneCell')=true by simp [bK,Value.oneCell'])
 obtain ⟨w1,hw1⟩:∃ w1,w.alloc (.cells bK 50)=w1:=⟨_,rfl⟩
 have B1:=hid (show Below w.heap.size w w1 by rw [<-hw1]; exact aL w _)
 have S1:=hid (show Blk w1 w.heap.size 50 bK.toList by rw [<-hw1]; exact Blk.new w _ _)
 have hw1':w.alloc (.cells #[.int .i64 0,.int .i64 0,.int .i64 0,.int .i64 0,.slice none 0 0,.int .i64 0,.int .i64 0,.int .i64 0,.int .i64 0,.int .i64 0,.int .i64 0,.int .i64 0,.int .i64 0,.int .i64 0,.int .i64 0,.int .i64 0,.int .i64 0,.int .i64 0,.int .i64 0,.int .i64 0,.int .i64 0,.int .i64 0,.int .i64 0,.int .i64 0,.int .i64 0,.int .i64 0,.int .i64 0,.int .i64 0,.int .i64 0] 50)=w1:=hw1
 have H1:=hid (h.later B1.out)
 have HN:=hid (tM H1.out.head)
 have HW:=hid (IL gx size bs D i c b w1 H1.out.bankAt h.fit)
 unfold sG at HW
 have c1:w1.cell? ⟨gf,1,none⟩=some (.pointer (some ⟨gx,0,none⟩)):=H1.out.head.cell 1
 have H:=hid h
 have HAi:=hid (h.cache.img_lt h0)
 by_cases hE:bW D i c b=0
 rotate_left
 ·obtain ⟨e1,e2⟩:=AD (bs:=bs) (B:=cA bs (bN D size i c b).toNat size) hE
  rw [e1,e2] at HFin
  have t1:(bW D i c b != 0)=true:=by rw [bne_iff_ne]; exact hE
  have HX:=hid (fun W (hW:FetchOk wB W bs size D gx gc gd gs gf Ai gm K rd v fr lo)=>(show FetchOk wB W bs size D gx gc gd gs gf Ai gm (K+97) rd v (if bW D i c b=0 then fr+1 else fr) (if bW D i c b=0/\bW D i c b ≠ 0 then lo+1 else lo) by
   rw [if_neg hE,if_neg (by omega)]
   exact hW.more (by omega)))
  clear hw1 h hE e1 e2
  generalize CA wB w bs size D gx gc gd gs gf Ai gm K fr lo i c b=FP at *
  generalize bW D i c b=E at *
  generalize bN D size i c b=AT at *
  generalize fB D bs i c b=V at *
  go_enter Tryz.func22,Tryz.ntmps22
  go_wp2_with (first | (go_at_call 87; refine HN.out.mono ?_; rintro e w' ⟨rfl,rfl⟩) | (go_at_call 35; fail))
  clear hw1'
  refine HW.out.mono ?_
  rintro e w2 ⟨rfl,hb2⟩
  have S2:=hid (aF S1.out hb2)
  have B2:=hid (aC B1.out hb2)
  have H2:=hid (H1.out.later hb2)
  clear hb2
  go_wp2_with (refine aA rfl 50 (.tmp 8) (.tmp 31) rfl w.heap.size rfl _ _ bK rfl S2.out HFz.out (by rfl) Hz1.out ?_)
  refine bodyPost_ret (v:=.tuple #[.agg bK,.int .i64 E]) (aU Tryz.results22 _ _ w.heap.size 50 bK (0,0) _ _ rfl rfl (setRow_heap _ _ _ _ _ _ S2.out) Tryz.underlying50 rfl HFz.out) rfl ?_
  refine HFin.out _ _ ⟨FrmPost.zero _ _ _,(OnlyIn.of_below _ B2.out).grown (cZ (World.grownBy.refl w2 (some w.heap.size)) _) (fun k hk=>by rw [<-Option.some.inj hk]; exact Nat.le_refl _),rd,v,HX.out _ (H2.out.other (r:=w.heap.size) S2.out (H.out.old.size) (fun ad had=>by have:=HAi.out ad had; omega) (OnlyIn.rowSet _ _ _))⟩
 ·have HEw:=hid hE
  have t1:((0:Int) != 0)=false:=rfl
  obtain ⟨OF,hOF⟩:∃ OF,kZ D bs i c b (cA bs (bN D size i c b).toNat size)=OF:=⟨_,rfl⟩
  obtain ⟨OE,hOE⟩:∃ OE,gQ D bs i c b (cA bs (bN D size i c b).toNat size)=OE:=⟨_,rfl⟩
  have HL:=hid (show OF.Len by rw [<-hOF]; exact JO D bs i c b _)
  have HOp:=hid (fun (W:World) rd v fr (hW:FetchOk wB W bs size D gx gc gd gs gf Ai gm (K+1) rd v fr lo)=>GN hW i c b (by omega) hE)
  unfold KC at HOp
  rw [hOF,hOE] at HOp HFin
  have hcn:=h.cnt
  have hlts:=h.cache.lts
  have hgf:=h.head.lt
  have hwf:IntKind.i64.wrap (fr+1)=fr+1:=IntWalk.i64_in _ (by omega)
  have hwl:IntKind.i64.wrap (lo+1)=lo+1:=IntWalk.i64_in _ (by omega)
  have hhi:=h.fit.hi
  have hold:=h.old.size
  rw [if_pos hE] at HFin
  have HX:=hid (show (bW D i c b=0/\OE ≠ 0 ↔ OE ≠ 0) from ⟨fun h=>h.2,fun h=>⟨hE,h⟩⟩)
  simp only [HX.out] at HFin
  rw [hE] at HW
  have Hlts:=hid hlts
  have Hgf:=hid hgf
  have Hcn:=hid hcn
  have Hhi:=hid hhi
  have Hold:=hid hold
  clear hw1 h hE hOF hOE hcn hlts hgf hhi hold HX
  generalize CA wB w bs size D gx gc gd gs gf Ai gm K fr lo i c b=FP at *
  generalize bN D size i c b=AT at *
  generalize fB D bs i c b=V at *
  go_enter Tryz.func22,Tryz.ntmps22
  go_wp2_with (first | (go_at_call 87; refine HN.out.mono ?_; rintro e w' ⟨rfl,rfl⟩) | (go_at_call 35; fail))
  clear hw1'
  refine HW.out.mono ?_
  rintro e w2 ⟨rfl,hb2⟩
  have S2:=hid (S1.out.below hb2 S1.out.lt)
  have B2:=hid (aC B1.out hb2)
  have H2:=hid (H1.out.later hb2)
  clear hb2 HW
  have c2:w2.cell? ⟨gf,2,none⟩=some (.int .i64 fr):=H2.out.head.cell 2
  have f2:=H2.out.head.frozen 2
  obtain ⟨w3,hw3⟩:∃ w3,w2.setCell ⟨gf,2,none⟩ (.int .i64 (fr+1))=w3:=⟨_,rfl⟩
  have O3:=hid (show OnlyIn [gf] w2 w3 by rw [<-hw3]; exact OnlyIn.cellSet _ _ _ _)
  have X3:=hid (show Blk w3 gf 44 [.pointer (some ⟨gc,0,none⟩),.pointer (some ⟨gx,0,none⟩),.int .i64 (fr+1),.int .i64 lo] by rw [<-hw3]; exact H2.out.head.set_ 2 _)
  have H3:=hid ((H2.out.more (K':=K+1) (by omega)).count O3.out X3.out (by have:=Hcn.out; omega))
  have S3:=hid (O3.out.heap S2.out (by have:=Hgf.out; simp only [List.mem_singleton]; omega))
  have HO3:=hid (HOp.out w3 rd v (fr+1) H3.out)
  go_wp2_with (first | (go_at_call 88; fail))
  refine HO3.out.mono ?_
  rintro e w4 ⟨⟨Af,cf,rfl,htl,hcf,hfr,hrow⟩,hO4,rd',v',hC4⟩
  have H4:=hid (H3.out.step hO4 hC4 (by omega))
  have S4:=hid (hO4.heap S3.out (by have:=Hlts.out; simp only [List.mem_cons,List.not_mem_nil,or_false]; omega))
  have O4:=hid (((OnlyIn.of_below [gc,gs,gd,gf] B2.out).trans (O3.out.more (by simp))).trans (hO4.more (by simp)))
  clear hw3 c2 f2 hC4 hO4 HO3 HOp
  obtain ⟨p,hp⟩:∃ p:FrH × FrameV,(⟨⟨Af,cf⟩,OF⟩:FrH × FrameV)=p:=⟨_,rfl⟩
  have hpc:aY OF (.slice Af OF.tones.length cf)=(frC p).toArray:=by rw [<-hp]; rfl
  rw [hpc]
  have HPc:=hid hpc
  have hpl:(frC p).length=29:=kI (by rw [<-hp]; exact HL.out)
  have Hp1:=hid (mL p)
  obtain ⟨fl,hfl⟩:∃ fl,frC p=fl:=⟨_,rfl⟩
  rw [hfl] at Hp1 hpl HPc ⊢
  have hfs:fl.toArray.size=29:=by rw [List.size_toArray,hpl]
  have Hfs:=hid hfs
  have HFf:=hid (show (Tryz.prog.info? 50).map (·.size)=some fl.toArray.size by rw [hfs]; exact bX)
  have Hf1:=hid (show fl.toArray.all (·.oneCell')=true by
   rw [Array.all_eq_true_iff_forall_mem]
   intro v hv
   exact Hp1.out v (by simpa using hv))
  have HZ2:=hid (show bK.size=fl.toArray.size by rw [hfs]; rfl)
  obtain ⟨w5,hw5⟩:∃ w5,w4.alloc (.cells fl.toArray 50)=w5:=⟨_,rfl⟩
  have B5:=hid (show Below w4.heap.size w4 w5 by rw [<-hw5]; exact aL w4 _)
  have S5:=hid (show Blk w5 w.heap.size 50 bK.toList from aF S4.out B5.out)
  have F5:=hid (show Blk w5 w4.heap.size 50 fl by rw [<-hw5]; exact Blk.new w4 _ _)
  have H5:=hid (H4.out.later B5.out)
  have R5:=hid (hrow.later B5.out)
  have O5:=hid (O4.out.trans (OnlyIn.of_below _ B5.out))
  have Hw5:=hid hw5
  have Hfr:=hid (show OF.tones=[]\/∃ g',Af=some ⟨g',0,none⟩/\w3.heap.size<=g' from hfr)
  have H33:=hid (show w.heap.size < w3.heap.size from hlt S3.out)
  have Htl:=hid htl
  have Hcf:=hid hcf
  have HEnd:=hid (show ∀ W lo',OnlyIn [gc,gs,gd,gf] w W->(hS:Blk W w.heap.size 50 bK.toList)->Row W W.heap.size Af (aW OF.tones)->FetchOk wB W bs size D gx gc gd gs gf Ai gm (K+97) rd' v' (fr+1) lo'->lo'=(if OE ≠ 0 then lo+1 else lo)->FP (.returned (.tuple #[.agg fl.toArray,.int .i64 OE])) (W.setRow w.heap.size fl.toArray) from fun W lo' hO hS hR hK he=>by
   refine HFin.out _ _ ⟨⟨Af,cf,by rw [HPc.out],Htl.out,Hcf.out,Hfr.out.imp id fun ⟨g',h1,h2⟩=>⟨g',h1,by have:=H33.out; omega⟩,lQ (Hfr.out.imp id fun ⟨g',h1,h2⟩=>⟨g',h1,h2⟩) H33.out fl.toArray hR⟩,hO.grown (cZ (World.grownBy.refl W (some w.heap.size)) _) (fun k hk=>by rw [<-Option.some.inj hk]; exact Nat.le_refl _),rd',v',?_⟩
   rw [<-he]
   exact hK.other (r:=w.heap.size) hS (H.out.old.size) (fun ad had=>by have:=HAi.out ad had; omega) (OnlyIn.rowSet _ _ _))
  clear htl hcf hfr hrow hp hpc hpl hfl hfs hw5
  by_cases q:OE=0
  ·subst q
   have HE:=hid (HEnd.out w5 lo O5.out S5.out R5.out (H5.out.more (by have:=Hhi.out; omega)) (by simp))
   clear HEnd
   go_wp2_with (first | (refine aA rfl 50 (.tmp 13) (.tmp 47) rfl w4.heap.size rfl _ _ fl.toArray rfl (heap_alloc_new w4 _) HFf.out (by rw [Hfs.out]; rfl) Hf1.out ?_; rw [World.setRow_alloc_new,Hw5.out]) | (refine aB rfl 50 (.tmp 13) rfl w4.heap.size rfl _ fl.toArray _ _ F5.out Tryz.underlying50 rfl HFf.out ?_) | (refine aA rfl 50 (.tmp 8) (.tmp 58) rfl w.heap.size rfl _ _ fl.toArray rfl S5.out HFf.out HZ2.out Hf1.out ?_))
   refine bodyPost_ret (v:=.tuple #[.agg fl.toArray,.int .i64 0]) (aU Tryz.results22 _ _ w.heap.size 50 fl.toArray (0,0) _ _ rfl rfl (setRow_heap _ _ _ _ _ _ S5.out) Tryz.underlying50 rfl HFf.out) rfl ?_
   exact HE.out
  ·have t2:(OE != 0)=true:=by rw [bne_iff_ne]; exact q
   have c3:w5.cell? ⟨gf,3,none⟩=some (.int .i64 lo):=H5.out.head.cell 3
   have f3:=H5.out.head.frozen 3
   obtain ⟨w6,hw6⟩:∃ w6,w5.setCell ⟨gf,3,none⟩ (.int .i64 (lo+1))=w6:=⟨_,rfl⟩
   have O6:=hid (show OnlyIn [gf] w5 w6 by rw [<-hw6]; exact OnlyIn.cellSet _ _ _ _)
   have X6:=hid (show Blk w6 gf 44 [.pointer (some ⟨gc,0,none⟩),.pointer (some ⟨gx,0,none⟩),.int .i64 (fr+1),.int .i64 (lo+1)] by rw [<-hw6]; exact H5.out.head.set_ 3 _)
   have H6:=hid ((H5.out.more (K':=K+97) (by have:=Hhi.out; omega)).count O6.out X6.out (by have:=Hcn.out; omega))
   have S6:=hid (O6.out.heap S5.out (by have:=Hgf.out; simp only [List.mem_singleton]; omega))
   have F6:=hid (O6.out.heap F5.out (by have:=Hgf.out; have:=O4.out.size; simp only [List.mem_singleton]; omega))
   have R6:=hid (show Row w6 w6.heap.size Af (aW OF.tones) by
    have hgf:=Hgf.out
    have h33:=H33.out
    rcases Hfr.out with h0 | ⟨g',h1,h2⟩
    ·rw [h0]
     exact fun i v hv=>by simp [aW] at hv
    ·refine O6.out.row R5.out (fun ad had=>?_)
     rw [had] at h1
     injection h1 with h1
     rw [h1]
     simp only [List.mem_singleton]; omega)
   have HE:=hid (HEnd.out w6 (lo+1) (O5.out.trans (O6.out.more (by simp))) S6.out R6.out H6.out (by rw [if_pos q]))
   clear HEnd q
   go_wp2_with (first | (refine aA rfl 50 (.tmp 13) (.tmp 47) rfl w4.heap.size rfl _ _ fl.toArray rfl (heap_alloc_new w4 _) HFf.out (by rw [Hfs.out]; rfl) Hf1.out ?_; rw [World.setRow_alloc_new,Hw5.out]) | (refine aB rfl 50 (.tmp 13) rfl w4.heap.size rfl _ fl.toArray _ _ F6.out Tryz.underlying50 rfl HFf.out ?_) | (refine aA rfl 50 (.tmp 8) (.tmp 58) rfl w.heap.size rfl _ _ fl.toArray rfl S6.out HFf.out HZ2.out Hf1.out ?_))
   refine bodyPost_ret (v:=.tuple #[.agg fl.toArray,.int .i64 OE]) (aU Tryz.results22 _ _ w.heap.size 50 fl.toArray (0,0) _ _ rfl rfl (setRow_heap _ _ _ _ _ _ S6.out) Tryz.underlying50 rfl HFf.out) rfl ?_
   exact HE.out
theorem GM {w:World} {gf gc gx:Nat} {fr lo:Int} (h:Blk w gf 44 [.pointer (some ⟨gc,0,none⟩),.pointer (some ⟨gx,0,none⟩),.int .i64 fr,.int .i64 lo]):Calls Tryz.prog 24 #[.pointer (some ⟨gf,0,none⟩)] w fun e w'=>e=.returned (.pointer (some ⟨gx,0,none⟩))/\w=w':=by
 have HN:=hid (tM h)
 have c1:w.cell? ⟨gf,1,none⟩=some (.pointer (some ⟨gx,0,none⟩)):=(h.cell 1).trans rfl
 clear h
 go_enter Tryz.func24,Tryz.ntmps24
 go_wp2_with (go_at_call 87; refine HN.out.mono ?_; rintro e w' ⟨rfl,rfl⟩)
 go_ret
 exact ⟨rfl,rfl⟩
end
section
open Go.RowKit Go.Lib
def DT (V pl:List Value):List Value:=(aS V 0 pl).set 20 (.int .i64 0)
theorem aBt {V pl:List Value} (hp:pl.length=20) (hV:21<=V.length) {j:Nat} (hj:j < 20):(DT V pl)[j]? = pl[j]?:=by
 unfold DT aS
 rw [List.getElem?_set_ne (by omega),List.append_assoc,List.getElem?_append_right (by simp),List.length_take,Nat.min_eq_left (by omega),Nat.sub_zero,List.getElem?_append_left (by omega)]
def aAO (w:World) (gc:Nat) (T:TypeId) (V:List Value) (f:FrameV) (e:Ending) (w':World):Prop :=
 e=.returned (.agg (b9 f).toArray)/\Blk w' gc T (DT V (b9 f))/\OnlyIn [gc] w w'
theorem xE (f:FrameV) (A:Option Addr) (c:Nat) (w:World) (gc:Nat) (T:TypeId) (V:List Value) (h:RightF f) (hr:Row w w.heap.size A (aW f.tones)) (hB:Blk w gc T V) (hV:21<=V.length) :
  Calls Tryz.prog 158 #[.pointer (some ⟨gc,0,none⟩),.agg (aY f (.slice A f.tones.length c))] w (aAO w gc T V f):=by
 have HG:=hid (show ∀ e w',(e=.returned (.agg (b9 f).toArray)/\Blk w' gc T (DT V (b9 f))/\OnlyIn [gc] w w')->aAO w gc T V f e w' from fun _ _ h=>h)
 have HOf:=hid (fun W (hW:Below w.heap.size w W)=>WG f A c W h (hr.later hW))
 have hpl:=qI h.len
 have HPo:=hid (qJ f)
 have HPa:=hid (show (b9 f).toArray.all (·.oneCell')=true by
  rw [Array.all_eq_true_iff_forall_mem]
  intro v hv
  exact HPo.out v (by simpa using hv))
 have HFp:=hid (show (Tryz.prog.info? 93).map (·.size)=some (b9 f).toArray.size by rw [List.size_toArray,hpl]; exact o4)
 have HFl:=hid (show (Tryz.prog.info? 93).map (·.size)=some (b9 f).length by rw [hpl]; exact o4)
 have HPs:=hid (show (b9 f).toArray.size=20 by rw [List.size_toArray,hpl])
 have HPl:=hid hpl
 have hfs:=fJ h.len (.slice A f.tones.length c)
 have HFf:=hid (show (Tryz.prog.info? 50).map (·.size)=some (aY f (.slice A f.tones.length c)).size by rw [hfs]; exact bX)
 obtain ⟨fc,hfc⟩:∃ fc,aY f (.slice A f.tones.length c)=fc:=⟨_,rfl⟩
 rw [hfc] at HOf HFf ⊢
 generalize b9 f=pl at *
 generalize aAO w gc T V f=GP at *
 have hgl:=hB.lt
 obtain ⟨w1,hw1⟩:∃ w1,w.alloc (.cells fc 50)=w1:=⟨_,rfl⟩
 obtain ⟨w2,hw2⟩:∃ w2,w1.alloc (.cells #[.int .i64 0,.int .i64 0,.int .i64 0,.int .i64 0,.int .i64 0,.int .i64 0,.int .i64 0,.int .i64 0,.int .i64 0,.int .i64 0,.int .i64 0,.int .i64 0,.int .i64 0,.int .i64 0,.int .i64 0,.int .i64 0,.int .i64 0,.int .i64 0,.int .i64 0,.int .i64 0] 93)=w2:=⟨_,rfl⟩
 have hz1:w1.heap.size=w.heap.size+1:=by rw [<-hw1]; simp
 have B2:=hid (show Below w.heap.size w w2 by rw [<-hw2,<-hw1]; exact aC (aL w _) (aL _ _))
 have F2:=hid (show w2.heap[w.heap.size]? = some (.cells fc 50 (0,0)) by rw [<-hw2]; exact aF (by rw [<-hw1]; exact heap_alloc_new w _) (aL w1 _))
 have P2:=hid (show w2.heap[w.heap.size+1]? = some (.cells #[.int .i64 0,.int .i64 0,.int .i64 0,.int .i64 0,.int .i64 0,.int .i64 0,.int .i64 0,.int .i64 0,.int .i64 0,.int .i64 0,.int .i64 0,.int .i64 0,.int .i64 0,.int .i64 0,.int .i64 0,.int .i64 0,.int .i64 0,.int .i64 0,.int .i64 0,.int .i64 0] 93 (0,0)) by rw [<-hw2,<-hz1]; exact heap_alloc_new w1 _)
 have C2:=hid (hB.below B2.out hB.lt)
 have HV:=hid hV
 have Hgl:=hid hgl
 clear hpl hfs hfc h hr hB hV hgl
 go_enter Tryz.func158,Tryz.ntmps158
 go_wp2_with (first | (refine aB rfl 50 (.tmp 3) rfl w.heap.size rfl _ fc _ _ F2.out Tryz.underlying50 rfl HFf.out ?_) | (go_at_call 187; fail))
 refine (HOf.out w2 B2.out).mono ?_
 rintro e w3 ⟨rfl,hb3⟩
 have B3:=hid (aC B2.out hb3)
 have P3:=hid (aF P2.out hb3)
 have C3:=hid (C2.out.below hb3 C2.out.lt)
 clear hb3
 obtain ⟨w4,hw4⟩:∃ w4,w3.setRow gc (aS V 0 pl).toArray=w4:=⟨_,rfl⟩
 have C4:=hid (show Blk w4 gc T (aS V 0 pl) by rw [<-hw4]; exact bB w3 gc _ _ (aS V 0 pl).toArray C3.out)
 have O4:=hid (show OnlyIn [gc] w3 w4 by rw [<-hw4]; exact OnlyIn.rowSet _ _ _)
 have P4:=hid (O4.out.heap P3.out (by have:=Hgl.out; simp only [List.mem_singleton]; omega))
 have f20:=C4.out.frozen 20
 have c20:∃ v,w4.cell? ⟨gc,20,none⟩=some v:=by
  have hl:20 < (aS V 0 pl).length:=by rw [cT (by have:=HPl.out; have:=HV.out; omega)]; have:=HV.out; omega
  exact ⟨_,(C4.out.cell 20).trans (List.getElem?_eq_getElem hl)⟩
 obtain ⟨v20,c20⟩:=c20
 obtain ⟨w5,hw5⟩:∃ w5,w4.setCell ⟨gc,20,none⟩ (.int .i64 0)=w5:=⟨_,rfl⟩
 have C5:=hid (show Blk w5 gc T (DT V pl) by rw [<-hw5]; exact C4.out.set_ 20 _)
 have O5:=hid (show OnlyIn [gc] w4 w5 by rw [<-hw5]; exact OnlyIn.cellSet _ _ _ _)
 have P5:=hid (O5.out.heap P4.out (by have:=Hgl.out; simp only [List.mem_singleton]; omega))
 have HL5:=hid (fun (j:Nat) v (hv:pl[j]? = some v)=>(show w5.cell? ⟨gc,0+j,none⟩=some v from by
  have hj:j < 20:=by have:=(List.getElem?_eq_some_iff.1 hv).1; have:=HPl.out; omega
  rw [Nat.zero_add]
  exact (C5.out.cell j).trans ((aBt HPl.out HV.out hj).trans hv)))
 have Hw4:=hid hw4
 clear hw4
 go_wp2_with (first | (refine dQ rfl 93 (.tmp 13) (.tmp 11) rfl gc 0 rfl T V pl rfl C3.out HFl.out (by have:=HPl.out; have:=HV.out; omega) HPo.out ?_; rw [Hw4.out]) | (refine aN rfl 93 (.tmp 18) rfl gc 0 rfl pl _ HL5.out Tryz.underlying93 rfl HFl.out ?_) | (refine aA rfl 93 (.tmp 4) (.tmp 19) rfl (w.heap.size+1) rfl _ _ pl.toArray rfl P5.out HFp.out (by rw [HPs.out]; rfl) HPa.out ?_))
 refine bodyPost_ret (v:=.agg pl.toArray) (results_cell_row Tryz.results158 _ _ (w.heap.size+1) 93 pl.toArray (0,0) _ rfl (bB _ _ _ _ pl.toArray P5.out) Tryz.underlying93 rfl HFp.out) rfl ?_
 have hgl:=Hgl.out
 exact HG.out _ _ ⟨rfl,(OnlyIn.rowSet w5 (w.heap.size+1) pl.toArray).heap C5.out (by simp only [List.mem_singleton]; omega),(((OnlyIn.of_below [gc] B3.out).trans O4.out).trans O5.out).grown (cZ (World.grownBy.refl w5 (some (w.heap.size+1))) _) (fun k hk=>by rw [<-Option.some.inj hk]; omega)⟩
end
section
open Go.RowKit Go.Lib
theorem aBB:(Tryz.prog.info? 247).map (fun i=>(i.zero,i.size,i.bytes))=some (some (.agg #[.int .i64 0,.bool false,.bool false,.slice none 0 0]),4,40):=by kernel_rfl
theorem VU (n:Nat):(madeCells (Value.agg #[.int .i64 0,.bool false,.bool false,.slice none 0 0]).cells (n*4)).toList=dY (List.replicate n default):=by
 unfold madeCells
 rw [Array.toList_map,Array.toList_range]
 apply List.ext_getElem?
 intro j
 rw [List.getElem?_map]
 rcases Nat.lt_or_ge j (n*4) with hj | hj
 ·rw [List.getElem?_range hj,Option.map_some]
  have h1:(List.replicate n (default:SlotV))[j / 4]? = some default:=by rw [List.getElem?_replicate,if_pos (by omega)]
  have h2:=nH _ h1 (j % 4) (Nat.mod_lt _ (by omega))
  rw [show j / 4*4+j % 4=j by omega] at h2
  rw [h2]
  have h3:j % 4 < 4:=Nat.mod_lt _ (by omega)
  show some ((#[.int .i64 0,.bool false,.bool false,.slice none 0 0]:Array Value)[j % 4]!)=([.int .i64 0,.bool false,.bool false,.slice none 0 0]:List Value)[j % 4]?
  generalize j % 4=q at *
  rcases (show q=0\/q=1\/q=2\/q=3 by omega) with rfl | rfl | rfl | rfl <;> rfl
 ·rw [List.getElem?_eq_none (by simpa using hj),List.getElem?_eq_none (by rw [nI,List.length_replicate]; omega)]; rfl
def kD (s r:Int):Prop:=s < 1\/1024 < s\/r < 0\/8 < r
def MP (w:World) (gd:Nat) (s r:Int) (e:Ending) (w':World):Prop :=
 (kD s r/\e=.returned (.tuple #[.pointer none,.int .i64 1])/\w=w') \/
 (¬ kD s r/\∃ gc gs,e=.returned (.tuple #[.pointer (some ⟨gc,0,none⟩),.int .i64 0])/\w.heap.size<=gc/\w.heap.size<=gs/\CacheAt w' gc gd gs ⟨0,0,0,0,0,r.toNat,List.replicate s.toNat default⟩/\Below w.heap.size w w')
theorem KP (w:World) (gd:Nat) (s r:Int):Calls Tryz.prog 77 #[.pointer (some ⟨gd,0,none⟩),.int .i64 s,.int .i64 r] w (MP w gd s r):=by
 have HB:=hid (show ∀ e w',(kD s r/\e=.returned (.tuple #[.pointer none,.int .i64 1])/\w=w')->MP w gd s r e w' from fun _ _ h=>.inl h)
 have HG:=hid (show ∀ e w',(¬ kD s r/\∃ gc gs,e=.returned (.tuple #[.pointer (some ⟨gc,0,none⟩),.int .i64 0])/\w.heap.size<=gc/\w.heap.size<=gs/\CacheAt w' gc gd gs ⟨0,0,0,0,0,r.toNat,List.replicate s.toNat default⟩/\Below w.heap.size w w')->MP w gd s r e w' from fun _ _ h=>.inr h)
 generalize MP w gd s r=CP at *
 by_cases h1:s < 1
 ·have HE:=hid (HB.out _ _ ⟨.inl h1,rfl,rfl⟩)
  clear HB HG
  go_enter Tryz.func77,Tryz.ntmps77
  go_wp2
  exact HE.out
 by_cases h2:1024 < s
 ·have HE:=hid (HB.out _ _ ⟨.inr (.inl h2),rfl,rfl⟩)
  clear HB HG
  go_enter Tryz.func77,Tryz.ntmps77
  go_wp2
  exact HE.out
 by_cases h3:r < 0
 ·have HE:=hid (HB.out _ _ ⟨.inr (.inr (.inl h3)),rfl,rfl⟩)
  clear HB HG
  go_enter Tryz.func77,Tryz.ntmps77
  go_wp2
  exact HE.out
 by_cases h4:8 < r
 ·have HE:=hid (HB.out _ _ ⟨.inr (.inr (.inr h4)),rfl,rfl⟩)
  clear HB HG
  go_enter Tryz.func77,Tryz.ntmps77
  go_wp2
  exact HE.out
 have hnb:¬ kD s r:=by unfold kD; omega
 obtain ⟨n,rfl⟩:=Int.eq_ofNat_of_zero_le (show 0<=s by omega)
 obtain ⟨q,rfl⟩:=Int.eq_ofNat_of_zero_le (show 0<=r by omega)
 rw [Int.toNat_natCast,Int.toNat_natCast] at HG
 have Hnb:=hid hnb
 obtain ⟨i0,hi,hz0,hi1,hi2⟩:=info_parts aBB
 have hm:=VU n
 obtain ⟨mc,hmc⟩:∃ mc,madeCells (Value.agg #[.int .i64 0,.bool false,.bool false,.slice none 0 0]).cells (n*4)=mc:=⟨_,rfl⟩
 rw [hmc] at hm
 have hmr:mc=(dY (List.replicate n default)).toArray:=by rw [<-hm]
 have Hmr:=hid hmr
 have Hmc:=hid hmc
 clear hnb HB hm hmc hmr
 go_enter Tryz.func77,Tryz.ntmps77
 go_wp2_with (refine fY _ rfl (.tmp 27) (.tmp 27) 186 rfl 247 i0 (.agg #[.int .i64 0,.bool false,.bool false,.slice none 0 0]) 4 Tryz.underlying186 hi hz0 hi1 .i64 .i64 n rfl rfl (by rw [hi2]; omega) (by omega) ?_; rw [Hmc.out])
 have hsz:(w.alloc (.cells mc 247)).heap.size=w.heap.size+1:=by simp
 have hX:=Blk.new2 w (.cells mc 247) 188 [.int .i64 0,.int .i64 0,.int .i64 0,.int .i64 0,.pointer (some ⟨gd,0,none⟩),.slice (some ⟨w.heap.size,0,none⟩) n n,.int .i64 0,.int .i64 q]
 have hS:Blk (w.alloc (.cells mc 247)) w.heap.size 247 (dY (List.replicate n default)):=by
  rw [Hmr.out]; exact Blk.new w _ _
 have hln:(List.replicate n (default:SlotV)).length=n:=List.length_replicate
 refine HG.out _ _ ⟨Hnb.out,w.heap.size+1,w.heap.size,by rw [<-hsz],by omega,by omega,⟨?_,hS.below (aL _ _) hS.lt,by show (List.replicate n (default:SlotV)).length<=_; omega,by show 0 < (List.replicate n (default:SlotV)).length; omega,by show 0 < (List.replicate n (default:SlotV)).length; omega,by show q<=8; omega⟩,aC (aL w _) (aL _ _)⟩
 unfold CacheV.cells
 simp only [hln]
 exact hX
theorem CacheAt.fresh {w:World} {gc gd gs n q:Nat} (h:CacheAt w gc gd gs ⟨0,0,0,0,0,q,List.replicate n default⟩) {bs:List Nat} {Ai:Option Addr} {gm:Nat} (hd:DiskAt w gd bs 0 Ai gm) (hi:∀ ad,Ai=some ad->ad.block ≠ gc/\ad.block ≠ gs/\ad.block ≠ gd):CacheOk w bs gc gd gs Ai gm 0 0 ⟨0,0,0,0,0,q,List.replicate n default⟩ :=
 ⟨h,hd,hi,(fun s hs hf=>by
  have hs:s ∈ List.replicate n default:=hs
  rw [List.eq_of_mem_replicate hs] at hf
  cases hf),⟨⟨Int.le_refl _,Int.le_refl _⟩,⟨Int.le_refl _,Int.le_refl _⟩,⟨Int.le_refl _,Int.le_refl _⟩,⟨Int.le_refl _,Int.le_refl _⟩⟩⟩
theorem K7 {w:World} {g size:Nat} {bs:List Nat} {D:List MetaV} (hB:BankAt w g bs size D) (hs:0 < size) {gc gd gs:Nat} {v:CacheV} (hC:CacheAt w gc gd gs v) :
  Calls Tryz.prog 23 #[.pointer (some ⟨g,0,none⟩),.pointer (some ⟨gc,0,none⟩)] w fun e w'=>e=.returned (.tuple #[.pointer (some ⟨w.heap.size,0,none⟩),.int .i64 0])/\Blk w' w.heap.size 44 [.pointer (some ⟨gc,0,none⟩),.pointer (some ⟨g,0,none⟩),.int .i64 0,.int .i64 0]/\Below w.heap.size w w':=by
 have HS:=hid (IE hB hs)
 have HD:=hid (GG w gc gd gs v hC)
 have t1:((size:Int) == 0)=false:=beq_eq_false_iff_ne.2 (by omega)
 clear hB hC
 go_enter Tryz.func23,Tryz.ntmps23
 go_wp2_with (first | (go_at_call 85; refine HS.out.mono ?_; rintro e w' ⟨rfl,rfl⟩) | (go_at_call 89; refine HD.out.mono ?_; rintro e w' ⟨rfl,rfl⟩))
 refine bodyPost_ret (results_tmp2 Tryz.results23 _ _ _) rfl ?_
 exact ⟨rfl,Blk.new w _ _,aL w _⟩
end
section
open Go.RowKit Go.Lib
theorem CanP.even {size:Nat} {SS:List SampV} (h:CanP size SS):(bG size SS).length % 64=0:=by
 have h1:=h.len_eq
 rw [lL h]
 unfold upZ at h1
 omega
def MX (w:World) (size:Int) (ss:List SampV) (slots retry:Int) (e:Ending) (w':World):Prop :=
 Below w.heap.size w w'/\(((tU size ss ≠ 0\/kD slots retry)/\e=.returned (.pointer none)) \/
  (tU size ss=0/\¬ kD slots retry/\∃ (sz ga gx gc gd gs gf:Nat) (Ai:Option Addr) (gm gi:Nat) (wB:World),size=sz/\CanP sz (dF ss)/\e=.returned (.pointer (some ⟨ga,0,none⟩))/\w.heap.size<=wB.heap.size/\w.heap.size<=ga /\
   Blk w' ga 32 [.pointer (some ⟨gx,0,none⟩),.pointer (some ⟨gd,0,none⟩),.pointer (some ⟨gf,0,none⟩),.slice (some ⟨gi,0,none⟩) (bU sz (dF ss)) (bU sz (dF ss))] /\
   FetchOk wB w' (bG sz (dF ss)) sz (aH sz (dF ss)) gx gc gd gs gf Ai gm 0 0 ⟨0,0,0,0,0,retry.toNat,List.replicate slots.toNat default⟩ 0 0))
theorem PV (S:List SampV->Prop) (size:Int) (v:Value) (slots retry:Int) (w:World)
  (hF:Calls Tryz.prog 74 #[v] w fun e w'=>∃ A c M,e=.returned (.slice A (List.length M) c)/\S (List.map Prod.snd M)/\List.length M<=8/\(A=none->c=0)/\SampsAt w' w'.heap.size A M/\(∀ p ∈ M,p.2.small)/\Below w.heap.size w w') :
  Calls Tryz.prog 14 #[.int .i64 size,v,.int .i64 slots,.int .i64 retry] w fun e w'=>∃ ss,S ss/\MX w size ss slots retry e w':=by
 have HF:=hid hF
 clear hF
 go_enter Tryz.func14,Tryz.ntmps14
 go_wp2_with (go_at_call 74; fail)
 refine HF.out.mono ?_
 rintro e w1 ⟨A,c,M,rfl,hS,h8,hn,hs,hsm,hb1⟩
 have HP:=hid (aAW size M A c w1 h8 hn hs hsm)
 have B1:=hid hb1
 have HS:=hid hS
 generalize List.map Prod.snd M=ss at *
 generalize M.length=m at *
 unfold aDp at HP
 clear hS h8 hn hs hsm hb1 HF
 go_wp2_with (go_at_call 73; fail)
 refine HP.out.mono ?_
 rintro e w2 ⟨hb2,⟨hE,rfl⟩ | ⟨hE,sz,g,h24,hC,hg,hby,rfl⟩⟩
 ·have B2:=hid (aC B1.out hb2)
  have HE:=hid (show ∃ ss,S ss/\MX w size ss slots retry (.returned (.pointer none)) w2 from ⟨ss,HS.out,B2.out,.inl ⟨.inl hE,rfl⟩⟩)
  generalize hpe:tU size ss=E at *
  have t1:(E != 0)=true:=by rw [bne_iff_ne]; exact hE
  clear hE hpe hb2
  go_wp2
  go_ret
  exact HE.out
 ·have B2:=hid (aC B1.out hb2)
  have HC:=hid hC
  have HE:=hid hE
  have Hsz:=hid h24
  have HPa:=hid (KH hC g w2 hby)
  have hlb:=hC.len_bd
  have hll:=lL hC
  have HDn:=hid (fun (W:World) (hW:Below w2.heap.size w2 W)=>(show Calls Tryz.prog 76 #[.slice (some ⟨g,0,none⟩) (bU sz (dF ss)) (bU sz (dF ss))] W (MQ W (bG sz (dF ss))) from by
   have:=N9 (bG sz (dF ss)) (some ⟨g,0,none⟩) (bU sz (dF ss)) W (by rw [hll]; omega) ((vX hby).later hW)
   rw [hll] at this
   exact this))
  unfold MQ at HDn
  clear hE h24 hg hby hb2 hlb hll
  go_wp2_with (go_at_call 75; fail)
  refine HPa.out.mono ?_
  rintro e w3 ⟨x,rfl,hx,hB,hb3⟩
  have HB:=hid hB
  have B3:=hid (aC B2.out hb3)
  have HD3:=hid (HDn.out w3 hb3)
  have Hx:=hid (show w.heap.size<=x from Nat.le_trans B2.out.size hx)
  clear hB hb3 hx HPa HDn
  go_wp2_with (go_at_call 76; fail)
  refine HD3.out.mono ?_
  rintro e w4 ⟨gd,Ai,gm,rfl,hD,hgd,hgm,hmd,hAi,hb4⟩
  have HCn:=hid (KP w4 gd slots retry)
  have D4:=hid hD
  have B4:=hid hb4
  have Hdd:=hid (show w3.heap.size<=gd/\w3.heap.size<=gm/\gm < gd/\(∀ ad,Ai=some ad->w3.heap.size<=ad.block/\ad.block < gm)/\gd < w4.heap.size from ⟨hgd,hgm,hmd,hAi,by obtain ⟨ci,hd⟩:=hD.blk; exact hd.lt⟩)
  unfold MP at HCn
  clear hD hgd hgm hmd hAi hb4 HD3
  go_wp2_with (go_at_call 77; fail)
  refine HCn.out.mono ?_
  rintro e w5 (⟨hbad,rfl,rfl⟩ | ⟨hok,gc,gs,rfl,hgc,hgs,hC5,hb5⟩)
  ·have HE:=hid (show ∃ ss,S ss/\MX w size ss slots retry (.returned (.pointer none)) w4 from ⟨ss,HS.out,aC B3.out B4.out,.inl ⟨.inr hbad,rfl⟩⟩)
   clear hbad
   go_wp2
   go_ret
   exact HE.out
  ·have C5:=hid hC5
   have B5:=hid hb5
   have Hok:=hid hok
   have Hcs:=hid (show w4.heap.size<=gc/\w4.heap.size<=gs/\gc < w5.heap.size/\gs < w5.heap.size from ⟨hgc,hgs,hC5.head.lt,hC5.slots.lt⟩)
   have HFn:=hid (K7 (HB.out.later (aC B4.out B5.out)) (by have:=HC.out.lo; omega) hC5)
   clear hC5 hb5 hok hgc hgs HCn
   go_wp2_with (go_at_call 23; refine HFn.out.mono ?_; rintro e w6 ⟨rfl,hX6,hb6⟩)
   have hE7:=aL w6 (.cells #[.pointer (some ⟨x,0,none⟩),.pointer (some ⟨gd,0,none⟩),.pointer (some ⟨w5.heap.size,0,none⟩),.slice (some ⟨g,0,none⟩) (bU sz (dF ss)) (bU sz (dF ss))] 32)
   have hG7:Blk (w6.alloc (.cells #[.pointer (some ⟨x,0,none⟩),.pointer (some ⟨gd,0,none⟩),.pointer (some ⟨w5.heap.size,0,none⟩),.slice (some ⟨g,0,none⟩) (bU sz (dF ss)) (bU sz (dF ss))] 32)) w6.heap.size 32 [.pointer (some ⟨x,0,none⟩),.pointer (some ⟨gd,0,none⟩),.pointer (some ⟨w5.heap.size,0,none⟩),.slice (some ⟨g,0,none⟩) (bU sz (dF ss)) (bU sz (dF ss))]:=Blk.new w6 _ _
   have hD:=Hdd.out
   have hc:=Hcs.out
   have s3:=B3.out.size
   have s4:=B4.out.size
   have s5:=B5.out.size
   have s6:=hb6.size
   have hB57:=aC (aC B5.out hb6) hE7
   generalize w6.alloc (.cells #[.pointer (some ⟨x,0,none⟩),.pointer (some ⟨gd,0,none⟩),.pointer (some ⟨w5.heap.size,0,none⟩),.slice (some ⟨g,0,none⟩) (bU sz (dF ss)) (bU sz (dF ss))] 32)=w7 at *
   have hH:=hX6.below hE7 hX6.lt
   have hCK:CacheOk w7 (bG sz (dF ss)) gc gd gs Ai gm 0 0 ⟨0,0,0,0,0,retry.toNat,List.replicate slots.toNat default⟩:=(C5.out.below (aC hb6 hE7)).fresh (D4.out.later hB57) (fun ad had=>by have:=hD.2.2.2.1 ad had; omega)
   have hOK:FetchOk w3 w7 (bG sz (dF ss)) sz (aH sz (dF ss)) x gc gd gs w5.heap.size Ai gm 0 0 ⟨0,0,0,0,0,retry.toNat,List.replicate slots.toNat default⟩ 0 0 :=
    ⟨HB.out,HC.out.fit,HC.out.even,aC B4.out hB57,by omega,by omega,by omega,by omega,fun ad had=>by have:=hD.2.2.2.1 ad had; omega,hH,hCK,⟨⟨Int.le_refl _,Int.le_refl _⟩,⟨Int.le_refl _,Int.le_refl _⟩⟩⟩
   have HEnd:=hid (show ∃ ss,S ss/\MX w size ss slots retry (.returned (.pointer (some ⟨w6.heap.size,0,none⟩))) w7 from ⟨ss,HS.out,aC (aC B3.out B4.out) hB57,.inr ⟨HE.out,Hok.out,sz,w6.heap.size,x,gc,gd,gs,w5.heap.size,Ai,gm,g,w3,Hsz.out,HC.out,rfl,s3,by omega,hG7,hOK⟩⟩)
   clear hX6 hb6 hE7 hG7 hD hc s3 s4 s5 s6 hB57 hH hCK hOK
   go_ret
   exact HEnd.out
end
section
open Go.RowKit Go.Lib
theorem ZM (L:List (HSamp × SampV)) (A:Option Addr) (cap:Nat) (size slots retry:Int) (w:World) (hs:SampsAt w w.heap.size A L) (h8:L.length<=8) (hsm:∀ p ∈ L,p.2.small) :
  Calls Tryz.prog 14 #[.int .i64 size,.slice A L.length cap,.int .i64 slots,.int .i64 retry] w (MX w size (L.map Prod.snd) slots retry):=by
 refine (PV (fun ss=>ss=L.map Prod.snd) size _ slots retry w ((aAN L A cap w hs h8 (fun p hp=>hsm p hp)).mono ?_)).mono ?_
 ·rintro e w' ⟨A',c,M,he,hm,_,_,hn,hs',hb⟩
  refine ⟨A',c,M,he,hm,?_,hn,hs',fun p hp=>?_,hb⟩
  ·have:=congrArg List.length hm
   simp only [List.length_map] at this
   omega
  ·have:p.2 ∈ L.map Prod.snd:=by rw [<-hm]; exact List.mem_map.2 ⟨p,hp,rfl⟩
   obtain ⟨q,hq,e1⟩:=List.mem_map.1 this
   rw [<-e1]; exact hsm q hq
 ·rintro e w' ⟨ss,rfl,h⟩
  exact h
theorem CanP.had {size:Nat} {SS:List SampV} (h:CanP size SS) {i c b:Int} (hE:bW (aH size SS) i c b=0):gQ (aH size SS) (bG size SS) i c b (cA (bG size SS) (bN (aH size SS) size i c b).toNat size)=0 /\
  kZ (aH size SS) (bG size SS) i c b (cA (bG size SS) (bN (aH size SS) size i c b).toNat size)=rdF (cA (bG size SS) (bN (aH size SS) size i c b).toNat size)/\n7 (cA (bG size SS) (bN (aH size SS) size i c b).toNat size)=0:=by
 obtain ⟨m,s,d,x,e1,e2,e3,e4,e5,e6⟩:=h.asked hE
 have hc:c=(c.toNat:Nat)/\b=(b.toNat:Nat):=by
  unfold bW at hE
  split at hE
  ·cases hE
  split at hE
  ·cases hE
  omega
 obtain ⟨_,q2,q3,_⟩:=h.opened e2 e3 e4
 have hx:gQ (aH size SS) (bG size SS) i c b (cA (bG size SS) (bN (aH size SS) size i c b).toNat size)=0:=by
  rw [e5,e1,hc.1,hc.2]; exact q3
 refine ⟨hx,?_,?_⟩
 ·unfold kZ
  rw [if_pos hx]
 ·unfold gQ at hx
  rw [if_neg (by simpa using hE)] at hx
  split at hx
  ·cases hx
  split at hx
  ·cases hx
  ·rename_i h1
   simpa using h1
theorem FetchOk.keep {wB w w':World} {bs:List Nat} {size:Nat} {D:List MetaV} {gx gc gd gs gf:Nat} {Ai:Option Addr} {gm K:Nat} {rd:Int} {v:CacheV} {fr lo:Int} (h:FetchOk wB w bs size D gx gc gd gs gf Ai gm K rd v fr lo) {r:Nat} {T:TypeId} {xs:List Value} (hr:Blk w r T xs) (h1:188 ≠ T) (h2:247 ≠ T) (h3:232 ≠ T) (h4:44 ≠ T) (hO:OnlyIn [gc,gs,gd,gf] w w'):Blk w' r T xs:=by
 obtain ⟨cd,hd⟩:=h.cache.disk.blk
 have n1:=cL h.cache.cache.head hr h1
 have n2:=cL h.cache.cache.slots hr h2
 have n3:=cL hd hr h3
 have n4:=cL h.head hr h4
 refine hO.heap hr ?_
 simp only [List.mem_cons,List.not_mem_nil,or_false]
 omega
end
section
open Go.RowKit Go.Lib
noncomputable def tG (D:List MetaV) (bs:List Nat) (size:Nat) (i c b:Int):FrameV:=if bW D i c b=0 then rdF (cA bs (bN D size i c b).toNat size) else eR
theorem aBu (D:List MetaV) (bs:List Nat) (size:Nat) (i c b:Int):(tG D bs size i c b).Len:=by
 unfold tG
 split
 ·exact wP _
 ·exact ⟨rfl,rfl,rfl,rfl⟩
def aDK (wB w:World) (bs:List Nat) (size:Nat) (D:List MetaV) (gx gc gd gs gf:Nat) (Ai:Option Addr) (gm K:Nat) (fr:Int) (i c b:Int) (e:Ending) (w':World):Prop :=
 ∃ (fl:List Value) (A:Option Addr) (cc:Nat),e=.returned (.tuple #[.agg fl.toArray,.int .i64 (bW D i c b)])/\fl=frC ⟨⟨A,cc⟩,tG D bs size i c b⟩/\fl.length=29/\(∀ v ∈ fl,v.oneCell'=true)/\Row w' w'.heap.size A (aW (tG D bs size i c b).tones)/\((tG D bs size i c b).tones=[]\/∃ g,A=some ⟨g,0,none⟩/\w.heap.size<=g) /\
  OnlyIn [gc,gs,gd,gf] w w'/\∃ rd' v',FetchOk wB w' bs size D gx gc gd gs gf Ai gm (K+97) rd' v' (if bW D i c b=0 then fr+1 else fr) 0
theorem DO {w w':World} {f:FrameV} {er:Int} {e:Ending} (hl:f.Len) (h:FrmPost w f er e w'):∃ (fl:List Value) (A:Option Addr) (c:Nat),e=.returned (.tuple #[.agg fl.toArray,.int .i64 er])/\fl=frC ⟨⟨A,c⟩,f⟩/\fl.length=29/\(∀ v ∈ fl,v.oneCell'=true)/\Row w' w'.heap.size A (aW f.tones)/\(f.tones=[]\/∃ g,A=some ⟨g,0,none⟩/\w.heap.size<=g):=by
 obtain ⟨A,c,rfl,h1,h2,h3,h4⟩:=h
 exact ⟨frC ⟨⟨A,c⟩,f⟩,A,c,rfl,rfl,kI hl,mL _,h4,h3⟩
theorem aCV {SS:List SampV} {wB w:World} {size:Nat} {gx gc gd gs gf:Nat} {Ai:Option Addr} {gm K:Nat} {rd:Int} {v:CacheV} {fr:Int} (hC:CanP size SS) (h:FetchOk wB w (bG size SS) size (aH size SS) gx gc gd gs gf Ai gm K rd v fr 0) (i c b:Int) (hK:K+97<=1000000000000000) :
  Calls Tryz.prog 22 #[.pointer (some ⟨gf,0,none⟩),.int .i64 i,.int .i64 c,.int .i64 b] w (aDK wB w (bG size SS) size (aH size SS) gx gc gd gs gf Ai gm K fr i c b):=by
 have h0:0 < (bG size SS).length:=by
  rw [lL hC]
  have:=hC.len_bd
  omega
 refine (DJ h i c b hK h0).mono ?_
 rintro e w' ⟨hF,hO,rd',v',hK'⟩
 by_cases hE:bW (aH size SS) i c b=0
 ·obtain ⟨h1,h2,_⟩:=hC.had hE
  rw [show (if bW (aH size SS) i c b=0/\gQ (aH size SS) (bG size SS) i c b (cA (bG size SS) (bN (aH size SS) size i c b).toNat size) ≠ 0 then (0:Int)+1 else 0)=0 from if_neg (fun h=>h.2 h1)] at hK'
  rw [h1,h2] at hF
  have hh:tG (aH size SS) (bG size SS) size i c b=rdF (cA (bG size SS) (bN (aH size SS) size i c b).toNat size):=if_pos hE
  obtain ⟨fl,A,cc,he,hfl,hl,h1c,hr,hfr⟩:=DO (wP _) hF
  exact ⟨fl,A,cc,by rw [hE]; exact he,by rw [hh]; exact hfl,hl,h1c,by rw [hh]; exact hr,by rw [hh]; exact hfr,hO,rd',v',hK'⟩
 ·obtain ⟨h1,h2⟩:=AD (bs:=bG size SS) (B:=cA (bG size SS) (bN (aH size SS) size i c b).toNat size) hE
  rw [show (if bW (aH size SS) i c b=0/\gQ (aH size SS) (bG size SS) i c b (cA (bG size SS) (bN (aH size SS) size i c b).toNat size) ≠ 0 then (0:Int)+1 else 0)=0 from if_neg (fun h=>hE h.1)] at hK'
  rw [h1,h2] at hF
  have hh:tG (aH size SS) (bG size SS) size i c b=eR:=if_neg hE
  obtain ⟨fl,A,cc,he,hfl,hl,h1c,hr,hfr⟩:=DO (f:=eR) ⟨rfl,rfl,rfl,rfl⟩ hF
  exact ⟨fl,A,cc,he,by rw [hh]; exact hfl,hl,h1c,by rw [hh]; exact hr,by rw [hh]; exact hfr,hO,rd',v',hK'⟩
end
section
open Go.RowKit Go.Lib
def bT (pc:List Value) (gf:Nat) (s c len:Int) (kp:Value) (fr:Int):List Value:=pc ++ (.int .i64 0 :: (fA.toList ++ [.pointer (some ⟨gf,0,none⟩),.int .i64 s,.int .i64 c,.int .i64 len,kp,.slice none 0 0,.int .i64 fr]))
theorem iI:fA.toList.length=32:=by rw [Array.length_toList]; exact iW
theorem zF {pc:List Value} (h:pc.length=20) (gf:Nat) (s c len:Int) (kp:Value) (fr:Int):(bT pc gf s c len kp fr).length=60:=by
 unfold bT
 rw [List.length_append,List.length_cons,List.length_append,iI,h]
 rfl
theorem bQ {pc:List Value} (h:pc.length=20) (gf:Nat) (s c len:Int) (kp:Value) (fr:Int) (j:Nat):(bT pc gf s c len kp fr)[53+j]? = ([.pointer (some ⟨gf,0,none⟩),.int .i64 s,.int .i64 c,.int .i64 len,kp,.slice none 0 0,.int .i64 fr]:List Value)[j]?:=by
 unfold bT
 rw [List.getElem?_append_right (by omega),h,show 53+j - 20=(32+j)+1 by omega,List.getElem?_cons_succ,List.getElem?_append_right (by rw [iI]; omega),iI,show 32+j - 32=j by omega]
theorem NZ {pc:List Value} (h:pc.length=20) (gf:Nat) (s c len:Int) (kp:Value) (fr fr':Int):(bT pc gf s c len kp fr).set 59 (.int .i64 fr')=bT pc gf s c len kp fr':=by
 unfold bT
 rw [List.set_append_right _ _ (by omega),h,show 59 - 20=38+1 by omega,List.set_cons_succ,List.set_append_right _ _ (by rw [iI]; omega),iI]
 rfl
theorem KX {pc:List Value} (h:pc.length=20) (gf:Nat) (s c len:Int) (kp kp':Value) (fr:Int):(bT pc gf s c len kp fr).set 57 kp'=bT pc gf s c len kp' fr:=by
 unfold bT
 rw [List.set_append_right _ _ (by omega),h,show 57 - 20=36+1 by omega,List.set_cons_succ,List.set_append_right _ _ (by rw [iI]; omega),iI]
 rfl
theorem vY {pc pl:List Value} (h:pc.length=20) (hp:pl.length=20) (gf:Nat) (s c len:Int) (kp:Value) (fr:Int):DT (bT pc gf s c len kp fr) pl=bT pl gf s c len kp fr:=by
 unfold DT bT aS
 rw [List.take_zero,List.nil_append,Nat.zero_add,hp,List.drop_append_of_le_length (by omega),List.drop_of_length_le (by omega),List.nil_append,List.set_append_right _ _ (by omega),hp]
 rfl
theorem zG {pc:List Value} (h:pc.length=20) (gf:Nat) (s c len:Int) (kp:Value) (fr:Int) {j:Nat} {v:Value} (hv:bI.toList[j]? = some v):(bT pc gf s c len kp fr)[37+j]? = some v:=by
 have hj:j < 16:=by have:=(List.getElem?_eq_some_iff.1 hv).1; rw [Array.length_toList,cH] at this; exact this
 have ht:bI.toList.length=16:=by rw [Array.length_toList]; exact cH
 unfold bT
 rw [List.getElem?_append_right (by omega),h,show 37+j - 20=(16+j)+1 by omega,List.getElem?_cons_succ,List.getElem?_append_left (by rw [iI]; omega)]
 have e:fA.toList=bI.toList ++ bI.toList:=by simp [fA]
 rw [e,List.getElem?_append_right (by omega),ht,show 16+j - 16=j by omega]
 exact hv
def dH (f:FrameV) (n:Int):List Value:=.int .i64 n :: ((kJ (cD f)).map (Value.int .i64) ++ f.gains.map (Value.int .i64))
theorem lH (b:List Int):(kJ b).length=16:=by simp [kJ,CT,mS]
theorem gO {f:FrameV} (h:f.Len) (n:Int):(dH f n).length=21:=by
 unfold dH
 rw [List.length_cons,List.length_append,List.length_map,List.length_map,lH,h.g]
theorem oO (f:FrameV) (n:Int):∀ v ∈ dH f n,v.oneCell'=true:=fun v hv=>by
 unfold dH at hv
 rcases List.mem_cons.1 hv with rfl | hv
 ·rfl
 ·rcases List.mem_append.1 hv with hv | hv
  ·obtain ⟨x,_,rfl⟩:=List.mem_map.1 hv; rfl
  ·obtain ⟨x,_,rfl⟩:=List.mem_map.1 hv; rfl
theorem YK {s g:List Int} (n:Int) (hs:s.length=16) (hg:g.length=4):Tryz.prog.built 195 [(0,.int .i64 n),(1,aT s),(2,aT g)]=some (.int .i64 n :: (s.map (Value.int .i64) ++ g.map (Value.int .i64))).toArray:=by
 obtain ⟨g0,g1,g2,g3,rfl⟩:=sP hg
 obtain ⟨a0,a1,a2,a3,a4,a5,a6,a7,a8,a9,b0,b1,b2,b3,b4,b5,rfl⟩:=vD hs
 kernel_rfl
theorem eZ:(Tryz.prog.info? 195).map (·.size)=some 21:=by kernel_rfl
theorem FetchOk.apart {wB w w':World} {bs:List Nat} {size:Nat} {D:List MetaV} {gx gc gd gs gf:Nat} {Ai:Option Addr} {gm K:Nat} {rd:Int} {v:CacheV} {fr lo:Int} (h:FetchOk wB w bs size D gx gc gd gs gf Ai gm K rd v fr lo) {r:Nat} {T:TypeId} {xs:List Value} (hr:Blk w r T xs) (h1:188 ≠ T) (h2:247 ≠ T) (h3:232 ≠ T) (h4:5 ≠ T) (h5:44 ≠ T) (hN:wB.heap.size<=r) (hA:∀ ad,Ai=some ad->ad.block ≠ r) (hO:OnlyIn [r] w w'):FetchOk wB w' bs size D gx gc gd gs gf Ai gm K rd v fr lo :=
 ⟨h.bank,h.fit,h.even,h.old.trans (hO.below (fun x hx=>by rw [List.mem_singleton.1 hx]; exact hN) h.old.size),h.cN,h.sN,h.dN,h.fN,h.img,hO.heap h.head (by simpa using cL h.head hr h5),h.cache.typed hr h1 h2 h3 h4 hA hO,h.cnt⟩
def WP (wB w:World) (bs:List Nat) (size:Nat) (D:List MetaV) (gx gc gd gs gf:Nat) (Ai:Option Addr) (gm K:Nat) (ff:Int) (gr:Nat) (s c len:Int) (kp:Value) (fr n:Int) (e:Ending) (w':World):Prop :=
 e=.returned (.agg (dH (tG D bs size s c n) n).toArray)/\Blk w' gr 107 (bT (b9 (tG D bs size s c n)) gf s c len kp (fr+1))/\OnlyIn [gc,gs,gd,gf,gr] w w'/\∃ rd' v',FetchOk wB w' bs size D gx gc gd gs gf Ai gm (K+97) rd' v' (ff+1) 0
theorem aCg {SS:List SampV} {wB w:World} {size gx gc gd gs gf:Nat} {Ai:Option Addr} {gm K:Nat} {rd:Int} {v:CacheV} {ff:Int} {gr:Nat} {pc:List Value} {s c len:Int} {kp:Value} {fr:Int} (hC:CanP size SS)
  (h:FetchOk wB w (bG size SS) size (aH size SS) gx gc gd gs gf Ai gm K rd v ff 0) (hR:Blk w gr 107 (bT pc gf s c len kp fr)) (hpc:pc.length=20) (hN:wB.heap.size<=gr) (hK:K+97<=1000000000000000) (hfr:0<=fr/\fr<=1000000000000000) (n:Int)
  (hE:bW (aH size SS) s c n=0) (hRF:RightF (tG (aH size SS) (bG size SS) size s c n)) (hAi:∀ ad,Ai=some ad->ad.block ≠ gr) :
  Calls Tryz.prog 151 #[.pointer (some ⟨gr,0,none⟩),.int .i64 n] w (WP wB w (bG size SS) size (aH size SS) gx gc gd gs gf Ai gm K ff gr s c len kp fr n):=by
 have hfs:=hC.len_bd
 have hpl:=lL hC
 have HFr:=hid (fun W rd v (hW:FetchOk wB W (bG size SS) size (aH size SS) gx gc gd gs gf Ai gm K rd v ff 0)=>aCV hC hW s c n hK)
 unfold aDK at HFr
 rw [hE,if_pos rfl] at HFr
 have HP:=hid (show ∀ e w',(e=.returned (.agg (dH (tG (aH size SS) (bG size SS) size s c n) n).toArray)/\Blk w' gr 107 (bT (b9 (tG (aH size SS) (bG size SS) size s c n)) gf s c len kp (fr+1))/\OnlyIn [gc,gs,gd,gf,gr] w w'/\∃ rd' v',FetchOk wB w' (bG size SS) size (aH size SS) gx gc gd gs gf Ai gm (K+97) rd' v' (ff+1) 0)->WP wB w (bG size SS) size (aH size SS) gx gc gd gs gf Ai gm K ff gr s c len kp fr n e w' from fun _ _ h=>h)
 have hb0:0 < (bG size SS).length:=by omega
 have HbL:=hid hb0
 have HwB:=hid h.old.size
 have Himg:=hid (h.cache.img_lt hb0)
 generalize WP wB w (bG size SS) size (aH size SS) gx gc gd gs gf Ai gm K ff gr s c len kp fr n=TP at *
 generalize bG size SS=bs at *
 generalize aH size SS=D at *
 obtain ⟨F,hF⟩:∃ F,tG D bs size s c n=F:=⟨_,rfl⟩
 rw [hF] at HFr HP hRF
 have HRF:=hid hRF
 have hpiece:=qI hRF.len
 have HInv:=hid (fun W=>(show Calls Tryz.prog 159 #[.agg bI,aT (cD F)] W fun e w'=>e=.returned (aT (kJ (cD F)))/\Below W.heap.size W w' from by
  have:=MV bI (cD F) 2147483648 W cH RO (i7 F) (by omega) (fun k hk=>QX F hk)
  rw [aDJ (i7 F)] at this
  exact this))
 have HBu:=hid (YK n (lH (cD F)) hRF.gains.1)
 have hblk:=gO hRF.len n
 have Hb1:=hid (oO F n)
 have Hba:=hid (show (dH F n).toArray.all (·.oneCell')=true by
  rw [Array.all_eq_true_iff_forall_mem]
  intro v hv
  exact Hb1.out v (by simpa using hv))
 have Hbs:=hid (show (dH F n).toArray.size=21 by rw [List.size_toArray,hblk])
 have HFb:=hid (show (Tryz.prog.info? 195).map (·.size)=some (dH F n).toArray.size by rw [List.size_toArray,hblk]; exact eZ)
 have hr:=h.head.lt
 have hNe:=cL hR h.head (by decide)
 obtain ⟨w1,hw1⟩:∃ w1,w.alloc (.cells #[.int .i64 0,.int .i64 0,.int .i64 0,.int .i64 0,.int .i64 0,.int .i64 0,.int .i64 0,.int .i64 0,.int .i64 0,.int .i64 0,.int .i64 0,.int .i64 0,.int .i64 0,.int .i64 0,.int .i64 0,.int .i64 0,.int .i64 0,.int .i64 0,.int .i64 0,.int .i64 0,.int .i64 0] 195)=w1:=⟨_,rfl⟩
 have B1:=hid (show Below w.heap.size w w1 by rw [<-hw1]; exact aL w _)
 have S1:=hid (show Blk w1 w.heap.size 195 (#[.int .i64 0,.int .i64 0,.int .i64 0,.int .i64 0,.int .i64 0,.int .i64 0,.int .i64 0,.int .i64 0,.int .i64 0,.int .i64 0,.int .i64 0,.int .i64 0,.int .i64 0,.int .i64 0,.int .i64 0,.int .i64 0,.int .i64 0,.int .i64 0,.int .i64 0,.int .i64 0,.int .i64 0]:Array Value).toList by rw [<-hw1]; exact Blk.new w _ _)
 have K1:=hid (h.later B1.out)
 have R1:=hid (hR.below B1.out hR.lt)
 have c59:w1.cell? ⟨gr,59,none⟩=some (.int .i64 fr):=(R1.out.cell 59).trans (bQ hpc gf s c len kp fr 6)
 have f59:=R1.out.frozen 59
 have hwf:IntKind.i64.wrap (fr+1)=fr+1:=IntWalk.i64_in _ (by omega)
 obtain ⟨w2,hw2⟩:∃ w2,w1.setCell ⟨gr,59,none⟩ (.int .i64 (fr+1))=w2:=⟨_,rfl⟩
 have R2:=hid (show Blk w2 gr 107 (bT pc gf s c len kp (fr+1)) by
  have h:=R1.out.set_ 59 (.int .i64 (fr+1))
  rw [NZ hpc] at h
  rw [<-hw2]; exact h)
 have O2:=hid (show OnlyIn [gr] w1 w2 by rw [<-hw2]; exact OnlyIn.cellSet _ _ _ _)
 have K2:=hid (K1.out.apart R1.out (by decide) (by decide) (by decide) (by decide) (by decide) hN hAi O2.out)
 have hgr:=hR.lt
 have S2:=hid (show Blk w2 w.heap.size 195 (#[.int .i64 0,.int .i64 0,.int .i64 0,.int .i64 0,.int .i64 0,.int .i64 0,.int .i64 0,.int .i64 0,.int .i64 0,.int .i64 0,.int .i64 0,.int .i64 0,.int .i64 0,.int .i64 0,.int .i64 0,.int .i64 0,.int .i64 0,.int .i64 0,.int .i64 0,.int .i64 0,.int .i64 0]:Array Value).toList from O2.out.heap S1.out (by simp only [List.mem_singleton]; omega))
 have x53:=fun (z:GW w2)=>(show z.1.cell? ⟨gr,53,none⟩=some (.pointer (some ⟨gf,0,none⟩)) from (z.2.cell (p:=⟨gr,53,none⟩) R2.out.lt).trans ((R2.out.cell 53).trans (bQ hpc gf s c len kp (fr+1) 0)))
 have x54:=fun (z:GW w2)=>(show z.1.cell? ⟨gr,54,none⟩=some (.int .i64 s) from (z.2.cell (p:=⟨gr,54,none⟩) R2.out.lt).trans ((R2.out.cell 54).trans (bQ hpc gf s c len kp (fr+1) 1)))
 have x55:=fun (z:GW w2)=>(show z.1.cell? ⟨gr,55,none⟩=some (.int .i64 c) from (z.2.cell (p:=⟨gr,55,none⟩) R2.out.lt).trans ((R2.out.cell 55).trans (bQ hpc gf s c len kp (fr+1) 2)))
 have Hpc:=hid hpc
 have Hpi:=hid hpiece
 have HN:=hid hN
 have HAi:=hid hAi
 have Hgr:=hid hgr
 clear h hR hpc hN hE hRF hAi hfs hpl hb0 hF hpiece hblk hr hNe hgr hC
 go_enter Tryz.func151,Tryz.ntmps151
 go_wp2_with fail
 refine rG 13 (o:=.cells bK 50) (by kernel_rfl) rfl (by kernel_rfl) rfl rfl rfl rfl (fun _ _=>rfl) (fun c a' w' d v h=>by cases d <;> exact h) ?_
 simp only [List.take_succ_cons,List.take_zero]
 simp only [Act.put]
 repeat (go_big_quiet_step (fail))
 refine wpQuiet_nil ?_
 intro w9 hw'
 have B9:=hid (aK hw')
 have K9:=hid (K2.out.later B9.out)
 have R9:=hid (R2.out.below B9.out R2.out.lt)
 have S9:=hid (S2.out.below B9.out S2.out.lt)
 clear hw' x53 x54 x55 c59 f59 hw1 hw2
 refine ⟨?A,?B⟩
 case' A =>
  have BA:=hid (aL w9 (.cells bK 50))
  have FA:=hid (show Blk (w9.alloc (.cells bK 50)) w9.heap.size 50 bK.toList from Blk.new w9 _ _)
  have KA:=hid (K9.out.later BA.out)
  have RA:=hid (R9.out.below BA.out R9.out.lt)
  have SA:=hid (S9.out.below BA.out S9.out.lt)
  have HFA:=hid (HFr.out _ rd v KA.out)
  go_wp2_with (go_at_call 22; fail)
  refine HFA.out.mono ?_
  intro e w10 hq
  obtain ⟨fl,At,ca,rfl,hfl,hl,h1c,hTr,hfr,hO,rdW,vW,hKW⟩:=hq
  have hfs:=(show fl.toArray.size=29 by rw [List.size_toArray,hl])
  have Hfs:=hid hfs
  have HFf:=hid (show (Tryz.prog.info? 50).map (·.size)=some fl.toArray.size by rw [hfs]; exact bX)
  have Hf1:=hid (show fl.toArray.all (·.oneCell')=true by
   rw [Array.all_eq_true_iff_forall_mem]
   intro v hv
   exact h1c v (by simpa using hv))
  have Hfl:=hid (show fl.toArray=aY F (.slice At F.tones.length ca) by rw [hfl]; rfl)
  obtain ⟨gF,hgF⟩:∃ gF,w9.heap.size=gF:=⟨_,rfl⟩
  have hza:(w9.alloc (.cells bK 50)).heap.size=gF+1:=by simp [hgF]
  have FA10:=hid (show Blk w10 gF 50 bK.toList by rw [<-hgF]; exact KA.out.keep FA.out (by decide) (by decide) (by decide) (by decide) hO)
  have R10:=hid (KA.out.keep RA.out (by decide) (by decide) (by decide) (by decide) hO)
  have S10:=hid (KA.out.keep SA.out (by decide) (by decide) (by decide) (by decide) hO)
  obtain ⟨W,hW⟩:∃ W,w10.setRow gF fl.toArray=W:=⟨_,rfl⟩
  have OF:=hid (show OnlyIn [gF] w10 W by rw [<-hW]; exact OnlyIn.rowSet _ _ _)
  have RW:=hid (show Blk W gr 107 (bT pc gf s c len kp (fr+1)) from OF.out.heap R10.out (by simpa using cL R10.out FA10.out (by decide)))
  have SW:=hid (show Blk W w.heap.size 195 (#[.int .i64 0,.int .i64 0,.int .i64 0,.int .i64 0,.int .i64 0,.int .i64 0,.int .i64 0,.int .i64 0,.int .i64 0,.int .i64 0,.int .i64 0,.int .i64 0,.int .i64 0,.int .i64 0,.int .i64 0,.int .i64 0,.int .i64 0,.int .i64 0,.int .i64 0,.int .i64 0,.int .i64 0]:Array Value).toList from OF.out.heap S10.out (by simpa using cL S10.out FA10.out (by decide)))
  have FW:=hid (show W.heap[gF]? = some (.cells fl.toArray 50 (0,0)) by rw [<-hW]; exact setRow_heap _ _ _ _ _ _ FA10.out)
  have TW:=hid (show Row W W.heap.size At (aW F.tones) by
   rcases hfr with h0 | ⟨g',h1,h2⟩
   ·rw [h0]
    exact fun i v hv=>by simp [aW] at hv
   ·refine OF.out.row hTr (fun ad had=>?_)
    rw [had] at h1
    injection h1 with h1
    rw [h1]
    simp only [List.mem_singleton]
    omega)
  have KW:=hid (hKW.other (r:=gF) FA10.out (by have:=K9.out.old.size; omega) (fun ad had=>by have:=K9.out.cache.img_lt HbL.out ad had; omega) OF.out)
  have OW:=hid (show OnlyIn [gc,gs,gd,gf,gr] w W by
   have h0:=(((OnlyIn.of_below [gc,gs,gd,gf,gr] B1.out).trans (O2.out.more (by simp))).trans (OnlyIn.of_below _ (aC B9.out BA.out))).trans (hO.more (by simp))
   rw [<-hW]
   exact h0.grown (cZ (World.grownBy.refl w10 (some gF)) _) (fun k hk=>by rw [<-Option.some.inj hk]; have:=B1.out.size; have:=O2.out.size; have:=B9.out.size; omega))
  have HW:=hid hW
  have HgF:=hid hgF
  clear hfl hl h1c hTr hfr hO hKW hfs hW hza hgF
  rw [HgF.out]
  go_wp2_with (refine aA rfl 50 (.tmp 5) (.tmp 30) rfl gF rfl _ _ fl.toArray rfl FA10.out HFf.out (by rw [Hfs.out]; rfl) Hf1.out ?_; rw [HW.out])
  clear HFA FA BA KA RA SA R10 S10 OF FA10 HW HgF
  obtain ⟨gp,hgp⟩:∃ gp,W.heap.size=gp:=⟨_,rfl⟩
  obtain ⟨V1,hV1⟩:∃ V1,W.alloc (.cells #[.int .i64 0,.int .i64 0,.int .i64 0,.int .i64 0,.int .i64 0,.int .i64 0,.int .i64 0,.int .i64 0,.int .i64 0,.int .i64 0,.int .i64 0,.int .i64 0,.int .i64 0,.int .i64 0,.int .i64 0,.int .i64 0,.int .i64 0,.int .i64 0,.int .i64 0,.int .i64 0] 93)=V1:=⟨_,rfl⟩
  have E1:=hid (show Below W.heap.size W V1 by rw [<-hV1]; exact aL W _)
  have P1:=hid (show V1.heap[gp]? = some (.cells #[.int .i64 0,.int .i64 0,.int .i64 0,.int .i64 0,.int .i64 0,.int .i64 0,.int .i64 0,.int .i64 0,.int .i64 0,.int .i64 0,.int .i64 0,.int .i64 0,.int .i64 0,.int .i64 0,.int .i64 0,.int .i64 0,.int .i64 0,.int .i64 0,.int .i64 0,.int .i64 0] 93 (0,0)) by rw [<-hV1,<-hgp]; exact heap_alloc_new W _)
  have F1:=hid (aF FW.out E1.out)
  have P0:=fC F1.out
  have Hgp:=hid (show w.heap.size < gp/\gr < gp by
   have h1:=SW.out.lt
   have h2:=RW.out.lt
   omega)
  have HgpE:=hid hgp
  clear hgp
  go_wp2_with fail
  try rw [hV1]
  rw [HgpE.out]
  refine aI 4 (by kernel_rfl) (by kernel_rfl) ?_
  simp only [List.take_succ_cons,List.take_zero,List.drop_succ_cons,List.drop_zero]
  repeat (first | (go_big_quiet_want; refine bO 50 (.tmp 5) rfl gF rfl _ fl.toArray _ _ P0 Tryz.underlying50 rfl HFf.out ?_; go_simp; go_big_quiet_on) | go_big_quiet_step (fail))
  refine wpQuiet_nil ?_
  intro V2 hw'
  have E2:=hid (aC E1.out (aK hw'))
  have P2:=hid (aF P1.out (aK hw'))
  have R2':=hid (RW.out.below E2.out RW.out.lt)
  have S2':=hid (SW.out.below E2.out SW.out.lt)
  have HGd:=hid (show Calls Tryz.prog 158 #[.pointer (some ⟨gr,0,none⟩),.agg fl.toArray] V2 _ from by
   rw [Hfl.out]
   exact xE F At ca V2 gr 107 _ HRF.out (TW.out.later E2.out) R2'.out (by rw [zF Hpc.out]; omega))
  clear hw' P0 hV1
  go_wp2_with (go_at_call 158; fail)
  refine HGd.out.mono ?_
  rintro e V3 ⟨rfl,hG3,hO3⟩
  rw [vY Hpc.out Hpi.out] at hG3
  have R3:=hid hG3
  have O3:=hid hO3
  have hgpp:=Hgp.out
  have P3:=hid (hO3.heap P2.out (by simp only [List.mem_singleton]; omega))
  have S3:=hid (show Blk V3 w.heap.size 195 (#[.int .i64 0,.int .i64 0,.int .i64 0,.int .i64 0,.int .i64 0,.int .i64 0,.int .i64 0,.int .i64 0,.int .i64 0,.int .i64 0,.int .i64 0,.int .i64 0,.int .i64 0,.int .i64 0,.int .i64 0,.int .i64 0,.int .i64 0,.int .i64 0,.int .i64 0,.int .i64 0,.int .i64 0]:Array Value).toList from hO3.heap S2'.out (by have:=cL S2'.out R2'.out (by decide); simpa using this))
  have HFp:=hid (show (Tryz.prog.info? 93).map (·.size)=some (b9 F).toArray.size by rw [List.size_toArray,Hpi.out]; exact o4)
  have HPs:=hid (show (b9 F).toArray.size=20 by rw [List.size_toArray,Hpi.out])
  have HPa:=hid (show (b9 F).toArray.all (·.oneCell')=true by
   rw [Array.all_eq_true_iff_forall_mem]
   intro v hv
   exact qJ F v (by simpa using hv))
  obtain ⟨V4,hV4⟩:∃ V4,V3.setRow gp (b9 F).toArray=V4:=⟨_,rfl⟩
  have O4:=hid (show OnlyIn [gp] V3 V4 by rw [<-hV4]; exact OnlyIn.rowSet _ _ _)
  have P4:=hid (show V4.heap[gp]? = some (.cells (b9 F).toArray 93 (0,0)) by rw [<-hV4]; exact setRow_heap _ _ _ _ _ _ P3.out)
  have R4:=hid (show Blk V4 gr 107 (bT (b9 F) gf s c len kp (fr+1)) from O4.out.heap R3.out (by simp only [List.mem_singleton]; omega))
  have S4:=hid (show Blk V4 w.heap.size 195 (#[.int .i64 0,.int .i64 0,.int .i64 0,.int .i64 0,.int .i64 0,.int .i64 0,.int .i64 0,.int .i64 0,.int .i64 0,.int .i64 0,.int .i64 0,.int .i64 0,.int .i64 0,.int .i64 0,.int .i64 0,.int .i64 0,.int .i64 0,.int .i64 0,.int .i64 0,.int .i64 0,.int .i64 0]:Array Value).toList from O4.out.heap S3.out (by simp only [List.mem_singleton]; omega))
  have HV4:=hid hV4
  clear hG3 hO3 hgpp hV4 HGd
  go_wp2_with (refine aA rfl 93 (.tmp 7) (.tmp 38) rfl gp rfl _ _ (b9 F).toArray rfl P3.out HFp.out (by rw [HPs.out]; rfl) HPa.out ?_; rw [HV4.out])
  try simp only [Act.put]
  have hsl:((cD F).map (Value.int .i64)).length=16:=by rw [List.length_map]; exact i7 F
  have hgl:(F.gains.map (Value.int .i64)).length=4:=by rw [List.length_map]; exact HRF.out.gains.1
  have htl:bI.toList.length=16:=by rw [Array.length_toList]; exact cH
  have HT:=hid (fun w' (hC:∃ x:GW V4,w'=x.1) j v (hv:bI.toList[j]? = some v)=>(show w'.cell? ⟨gr,37+j,none⟩=some v by
   obtain ⟨x,rfl⟩:=hC
   exact (x.2.cell (p:=⟨gr,37+j,none⟩) R4.out.lt).trans ((R4.out.cell (37+j)).trans (zG Hpi.out gf s c len kp (fr+1) hv))))
  have HS:=hid (fun w' (hC:∃ x:GW V4,w'=x.1) j v (hv:((cD F).map (Value.int .i64))[j]? = some v)=>(show w'.cell? ⟨gp,0+j,none⟩=some v by
   obtain ⟨x,rfl⟩:=hC
   have hj:=(List.getElem?_eq_some_iff.1 hv).1
   refine (cell_of_row _ _ _ _ _ _ (aF P4.out x.2)).trans ?_
   rw [Nat.zero_add,List.getElem?_toArray]
   unfold b9
   rw [List.map_append,List.getElem?_append_left hj]
   exact hv))
  have HGn:=hid (fun w' (hC:∃ x:GW V4,w'=x.1) j v (hv:(F.gains.map (Value.int .i64))[j]? = some v)=>(show w'.cell? ⟨gp,16+j,none⟩=some v by
   obtain ⟨x,rfl⟩:=hC
   refine (cell_of_row _ _ _ _ _ _ (aF P4.out x.2)).trans ?_
   rw [List.getElem?_toArray]
   unfold b9
   rw [List.map_append,List.getElem?_append_right (by rw [hsl]; omega),hsl,show 16+j - 16=j by omega]
   exact hv))
  have HF16:=hid (show (Tryz.prog.info? 48).map (·.size)=some ((cD F).map (Value.int .i64)).length by rw [hsl]; kernel_rfl)
  have HF4:=hid (show (Tryz.prog.info? 45).map (·.size)=some (F.gains.map (Value.int .i64)).length by rw [hgl]; exact bY)
  have HFn:=hid (show (Tryz.prog.info? 102).map (·.size)=some bI.toList.length by rw [htl]; exact BF)
  have HInv2:=hid (fun (W:World)=>(show Calls Tryz.prog 159 #[.agg bI.toList.toArray,.agg ((cD F).map (Value.int .i64)).toArray] W fun e w'=>e=.returned (.agg ((kJ (cD F)).map (Value.int .i64)).toArray)/\Below W.heap.size W w' from by
   have h:=HInv.out W
   unfold aT at h
   rw [Array.toArray_toList]
   exact h))
  have HBu2:=hid (show Tryz.prog.built 195 [(0,.int .i64 n),(1,.agg ((kJ (cD F)).map (Value.int .i64)).toArray),(2,.agg (F.gains.map (Value.int .i64)).toArray)]=some (dH F n).toArray from HBu.out)
  clear hsl hgl htl
  generalize (cD F).map (Value.int .i64)=sv at *
  generalize F.gains.map (Value.int .i64)=gv at *
  generalize (kJ (cD F)).map (Value.int .i64)=iv at *
  generalize bI.toList=tl at *
  go_wp2_with fail
  refine aI 11 (by kernel_rfl) (by kernel_rfl) ?_
  simp only [List.take_succ_cons,List.take_zero,List.drop_succ_cons,List.drop_zero]
  repeat (first | (go_big_quiet_want; refine bA 102 (.tmp 57) rfl gr 37 rfl tl _ HT.out Tryz.underlying102 rfl HFn.out ?_; go_simp; go_big_quiet_on) | (go_big_quiet_want; refine bA 48 (.tmp 59) rfl gp 0 rfl sv _ HS.out Tryz.underlying48 rfl HF16.out ?_; go_simp; go_big_quiet_on) | (go_big_quiet_want; refine bA 45 (.tmp 62) rfl gp 16 rfl gv _ HGn.out Tryz.underlying45 rfl HF4.out ?_; go_simp; go_big_quiet_on) | go_big_quiet_step ((go_at_call 159; exact bZ (HInv2.out _))))
  refine wpQuiet_nil ?_
  intro V5 hw'
  have E5:=hid (aK hw')
  have S5:=hid (show V5.heap[w.heap.size]? = some (.cells #[.int .i64 0,.int .i64 0,.int .i64 0,.int .i64 0,.int .i64 0,.int .i64 0,.int .i64 0,.int .i64 0,.int .i64 0,.int .i64 0,.int .i64 0,.int .i64 0,.int .i64 0,.int .i64 0,.int .i64 0,.int .i64 0,.int .i64 0,.int .i64 0,.int .i64 0,.int .i64 0,.int .i64 0] 195 (0,0)) from S4.out.below E5.out S4.out.lt)
  have R5:=hid (R4.out.below E5.out R4.out.lt)
  clear hw'
  go_wp2_with (first | (refine cX rfl 195 _ rfl (dH F n).toArray (by simpa [Act.eval] using HBu2.out) ?_) | (refine aA rfl 195 (.tmp 4) (.tmp 64) rfl w.heap.size rfl _ _ (dH F n).toArray rfl S5.out HFb.out (by rw [Hbs.out]; rfl) Hba.out ?_))
  refine bodyPost_ret (v:=.agg (dH F n).toArray) (results_cell_row Tryz.results151 _ _ w.heap.size 195 (dH F n).toArray (0,0) _ rfl (bB _ _ _ _ (dH F n).toArray S5.out) Tryz.underlying195 rfl HFb.out) rfl ?_
  have hgpp:=Hgp.out
  have hgr:=Hgr.out
  refine HP.out _ _ ⟨rfl,(OnlyIn.rowSet V5 w.heap.size (dH F n).toArray).heap R5.out (by simp only [List.mem_singleton]; omega),?_,rdW,vW,?_⟩
  ·have h0:=(((OW.out.trans (OnlyIn.of_below _ E2.out)).trans (O3.out.more (by simp))).grown (w2:=V4) (ow:=some gp) (by rw [<-HV4.out]; exact cZ (World.grownBy.refl V3 (some gp)) _) (fun k hk=>by rw [<-Option.some.inj hk]; omega)).trans (OnlyIn.of_below _ E5.out)
   exact h0.grown (cZ (World.grownBy.refl V5 (some w.heap.size)) _) (fun k hk=>by rw [<-Option.some.inj hk]; exact Nat.le_refl _)
  ·have P3':Blk V3 gp 93 (#[.int .i64 0,.int .i64 0,.int .i64 0,.int .i64 0,.int .i64 0,.int .i64 0,.int .i64 0,.int .i64 0,.int .i64 0,.int .i64 0,.int .i64 0,.int .i64 0,.int .i64 0,.int .i64 0,.int .i64 0,.int .i64 0,.int .i64 0,.int .i64 0,.int .i64 0,.int .i64 0]:Array Value).toList:=P3.out
   have S5':Blk V5 w.heap.size 195 (#[.int .i64 0,.int .i64 0,.int .i64 0,.int .i64 0,.int .i64 0,.int .i64 0,.int .i64 0,.int .i64 0,.int .i64 0,.int .i64 0,.int .i64 0,.int .i64 0,.int .i64 0,.int .i64 0,.int .i64 0,.int .i64 0,.int .i64 0,.int .i64 0,.int .i64 0,.int .i64 0,.int .i64 0]:Array Value).toList:=S5.out
   have himg:=Himg.out
   have hwb:=HwB.out
   have k3:=(KW.out.later E2.out).apart R2'.out (by decide) (by decide) (by decide) (by decide) (by decide) HN.out HAi.out O3.out
   have k4:=k3.apart P3' (by decide) (by decide) (by decide) (by decide) (by decide) (by omega) (fun ad had=>by have:=himg ad had; omega) O4.out
   exact (k4.later E5.out).apart S5' (by decide) (by decide) (by decide) (by decide) (by decide) hwb (fun ad had=>by have:=himg ad had; omega) (OnlyIn.rowSet V5 w.heap.size (dH F n).toArray)
 case' B =>
  have HFB:=hid (HFr.out _ rd v K9.out)
  go_wp2_with (go_at_call 22; fail)
  refine HFB.out.mono ?_
  intro e w10 hq
  obtain ⟨fl,At,ca,rfl,hfl,hl,h1c,hTr,hfr,hO,rdW,vW,hKW⟩:=hq
  have hfs:=(show fl.toArray.size=29 by rw [List.size_toArray,hl])
  have Hfs:=hid hfs
  have HFf:=hid (show (Tryz.prog.info? 50).map (·.size)=some fl.toArray.size by rw [hfs]; exact bX)
  have Hf1:=hid (show fl.toArray.all (·.oneCell')=true by
   rw [Array.all_eq_true_iff_forall_mem]
   intro v hv
   exact h1c v (by simpa using hv))
  have Hfl:=hid (show fl.toArray=aY F (.slice At F.tones.length ca) by rw [hfl]; rfl)
  have R10:=hid (K9.out.keep R9.out (by decide) (by decide) (by decide) (by decide) hO)
  have S10:=hid (K9.out.keep S9.out (by decide) (by decide) (by decide) (by decide) hO)
  obtain ⟨gF,hgF⟩:∃ gF,w10.heap.size=gF:=⟨_,rfl⟩
  obtain ⟨W,hW⟩:∃ W,w10.alloc (.cells fl.toArray 50)=W:=⟨_,rfl⟩
  have B2:=hid (show Below w10.heap.size w10 W by rw [<-hW]; exact aL w10 _)
  have RW:=hid (R10.out.below B2.out R10.out.lt)
  have SW:=hid (S10.out.below B2.out S10.out.lt)
  have FW:=hid (show W.heap[gF]? = some (.cells fl.toArray 50 (0,0)) by rw [<-hW,<-hgF]; exact heap_alloc_new w10 _)
  have TW:=hid (hTr.later B2.out)
  have KW:=hid (hKW.later B2.out)
  have OW:=hid (show OnlyIn [gc,gs,gd,gf,gr] w W from ((((OnlyIn.of_below [gc,gs,gd,gf,gr] B1.out).trans (O2.out.more (by simp))).trans (OnlyIn.of_below _ B9.out)).trans (hO.more (by simp))).trans (OnlyIn.of_below _ B2.out))
  have HW:=hid hW
  have HgF:=hid hgF
  clear hfl hl h1c hTr hfr hO hKW hfs hW hgF
  go_wp2_with (refine aA rfl 50 (.tmp 5) (.tmp 30) rfl w10.heap.size rfl _ _ fl.toArray rfl (heap_alloc_new w10 _) HFf.out (by rw [Hfs.out]; rfl) Hf1.out ?_; rw [World.setRow_alloc_new,HW.out])
  rw [HgF.out]
  clear HFB R10 S10 B2 HW HgF
  obtain ⟨gp,hgp⟩:∃ gp,W.heap.size=gp:=⟨_,rfl⟩
  obtain ⟨V1,hV1⟩:∃ V1,W.alloc (.cells #[.int .i64 0,.int .i64 0,.int .i64 0,.int .i64 0,.int .i64 0,.int .i64 0,.int .i64 0,.int .i64 0,.int .i64 0,.int .i64 0,.int .i64 0,.int .i64 0,.int .i64 0,.int .i64 0,.int .i64 0,.int .i64 0,.int .i64 0,.int .i64 0,.int .i64 0,.int .i64 0] 93)=V1:=⟨_,rfl⟩
  have E1:=hid (show Below W.heap.size W V1 by rw [<-hV1]; exact aL W _)
  have P1:=hid (show V1.heap[gp]? = some (.cells #[.int .i64 0,.int .i64 0,.int .i64 0,.int .i64 0,.int .i64 0,.int .i64 0,.int .i64 0,.int .i64 0,.int .i64 0,.int .i64 0,.int .i64 0,.int .i64 0,.int .i64 0,.int .i64 0,.int .i64 0,.int .i64 0,.int .i64 0,.int .i64 0,.int .i64 0,.int .i64 0] 93 (0,0)) by rw [<-hV1,<-hgp]; exact heap_alloc_new W _)
  have F1:=hid (aF FW.out E1.out)
  have P0:=fC F1.out
  have Hgp:=hid (show w.heap.size < gp/\gr < gp by
   have h1:=SW.out.lt
   have h2:=RW.out.lt
   omega)
  have HgpE:=hid hgp
  clear hgp
  go_wp2_with fail
  try rw [hV1]
  rw [HgpE.out]
  refine aI 4 (by kernel_rfl) (by kernel_rfl) ?_
  simp only [List.take_succ_cons,List.take_zero,List.drop_succ_cons,List.drop_zero]
  repeat (first | (go_big_quiet_want; refine bO 50 (.tmp 5) rfl gF rfl _ fl.toArray _ _ P0 Tryz.underlying50 rfl HFf.out ?_; go_simp; go_big_quiet_on) | go_big_quiet_step (fail))
  refine wpQuiet_nil ?_
  intro V2 hw'
  have E2:=hid (aC E1.out (aK hw'))
  have P2:=hid (aF P1.out (aK hw'))
  have R2':=hid (RW.out.below E2.out RW.out.lt)
  have S2':=hid (SW.out.below E2.out SW.out.lt)
  have HGd:=hid (show Calls Tryz.prog 158 #[.pointer (some ⟨gr,0,none⟩),.agg fl.toArray] V2 _ from by
   rw [Hfl.out]
   exact xE F At ca V2 gr 107 _ HRF.out (TW.out.later E2.out) R2'.out (by rw [zF Hpc.out]; omega))
  clear hw' P0 hV1
  go_wp2_with (go_at_call 158; fail)
  refine HGd.out.mono ?_
  rintro e V3 ⟨rfl,hG3,hO3⟩
  rw [vY Hpc.out Hpi.out] at hG3
  have R3:=hid hG3
  have O3:=hid hO3
  have hgpp:=Hgp.out
  have P3:=hid (hO3.heap P2.out (by simp only [List.mem_singleton]; omega))
  have S3:=hid (show Blk V3 w.heap.size 195 (#[.int .i64 0,.int .i64 0,.int .i64 0,.int .i64 0,.int .i64 0,.int .i64 0,.int .i64 0,.int .i64 0,.int .i64 0,.int .i64 0,.int .i64 0,.int .i64 0,.int .i64 0,.int .i64 0,.int .i64 0,.int .i64 0,.int .i64 0,.int .i64 0,.int .i64 0,.int .i64 0,.int .i64 0]:Array Value).toList from hO3.heap S2'.out (by have:=cL S2'.out R2'.out (by decide); simpa using this))
  have HFp:=hid (show (Tryz.prog.info? 93).map (·.size)=some (b9 F).toArray.size by rw [List.size_toArray,Hpi.out]; exact o4)
  have HPs:=hid (show (b9 F).toArray.size=20 by rw [List.size_toArray,Hpi.out])
  have HPa:=hid (show (b9 F).toArray.all (·.oneCell')=true by
   rw [Array.all_eq_true_iff_forall_mem]
   intro v hv
   exact qJ F v (by simpa using hv))
  obtain ⟨V4,hV4⟩:∃ V4,V3.setRow gp (b9 F).toArray=V4:=⟨_,rfl⟩
  have O4:=hid (show OnlyIn [gp] V3 V4 by rw [<-hV4]; exact OnlyIn.rowSet _ _ _)
  have P4:=hid (show V4.heap[gp]? = some (.cells (b9 F).toArray 93 (0,0)) by rw [<-hV4]; exact setRow_heap _ _ _ _ _ _ P3.out)
  have R4:=hid (show Blk V4 gr 107 (bT (b9 F) gf s c len kp (fr+1)) from O4.out.heap R3.out (by simp only [List.mem_singleton]; omega))
  have S4:=hid (show Blk V4 w.heap.size 195 (#[.int .i64 0,.int .i64 0,.int .i64 0,.int .i64 0,.int .i64 0,.int .i64 0,.int .i64 0,.int .i64 0,.int .i64 0,.int .i64 0,.int .i64 0,.int .i64 0,.int .i64 0,.int .i64 0,.int .i64 0,.int .i64 0,.int .i64 0,.int .i64 0,.int .i64 0,.int .i64 0,.int .i64 0]:Array Value).toList from O4.out.heap S3.out (by simp only [List.mem_singleton]; omega))
  have HV4:=hid hV4
  clear hG3 hO3 hgpp hV4 HGd
  go_wp2_with (refine aA rfl 93 (.tmp 7) (.tmp 38) rfl gp rfl _ _ (b9 F).toArray rfl P3.out HFp.out (by rw [HPs.out]; rfl) HPa.out ?_; rw [HV4.out])
  try simp only [Act.put]
  have hsl:((cD F).map (Value.int .i64)).length=16:=by rw [List.length_map]; exact i7 F
  have hgl:(F.gains.map (Value.int .i64)).length=4:=by rw [List.length_map]; exact HRF.out.gains.1
  have htl:bI.toList.length=16:=by rw [Array.length_toList]; exact cH
  have HT:=hid (fun w' (hC:∃ x:GW V4,w'=x.1) j v (hv:bI.toList[j]? = some v)=>(show w'.cell? ⟨gr,37+j,none⟩=some v by
   obtain ⟨x,rfl⟩:=hC
   exact (x.2.cell (p:=⟨gr,37+j,none⟩) R4.out.lt).trans ((R4.out.cell (37+j)).trans (zG Hpi.out gf s c len kp (fr+1) hv))))
  have HS:=hid (fun w' (hC:∃ x:GW V4,w'=x.1) j v (hv:((cD F).map (Value.int .i64))[j]? = some v)=>(show w'.cell? ⟨gp,0+j,none⟩=some v by
   obtain ⟨x,rfl⟩:=hC
   have hj:=(List.getElem?_eq_some_iff.1 hv).1
   refine (cell_of_row _ _ _ _ _ _ (aF P4.out x.2)).trans ?_
   rw [Nat.zero_add,List.getElem?_toArray]
   unfold b9
   rw [List.map_append,List.getElem?_append_left hj]
   exact hv))
  have HGn:=hid (fun w' (hC:∃ x:GW V4,w'=x.1) j v (hv:(F.gains.map (Value.int .i64))[j]? = some v)=>(show w'.cell? ⟨gp,16+j,none⟩=some v by
   obtain ⟨x,rfl⟩:=hC
   refine (cell_of_row _ _ _ _ _ _ (aF P4.out x.2)).trans ?_
   rw [List.getElem?_toArray]
   unfold b9
   rw [List.map_append,List.getElem?_append_right (by rw [hsl]; omega),hsl,show 16+j - 16=j by omega]
   exact hv))
  have HF16:=hid (show (Tryz.prog.info? 48).map (·.size)=some ((cD F).map (Value.int .i64)).length by rw [hsl]; kernel_rfl)
  have HF4:=hid (show (Tryz.prog.info? 45).map (·.size)=some (F.gains.map (Value.int .i64)).length by rw [hgl]; exact bY)
  have HFn:=hid (show (Tryz.prog.info? 102).map (·.size)=some bI.toList.length by rw [htl]; exact BF)
  have HInv2:=hid (fun (W:World)=>(show Calls Tryz.prog 159 #[.agg bI.toList.toArray,.agg ((cD F).map (Value.int .i64)).toArray] W fun e w'=>e=.returned (.agg ((kJ (cD F)).map (Value.int .i64)).toArray)/\Below W.heap.size W w' from by
   have h:=HInv.out W
   unfold aT at h
   rw [Array.toArray_toList]
   exact h))
  have HBu2:=hid (show Tryz.prog.built 195 [(0,.int .i64 n),(1,.agg ((kJ (cD F)).map (Value.int .i64)).toArray),(2,.agg (F.gains.map (Value.int .i64)).toArray)]=some (dH F n).toArray from HBu.out)
  clear hsl hgl htl
  generalize (cD F).map (Value.int .i64)=sv at *
  generalize F.gains.map (Value.int .i64)=gv at *
  generalize (kJ (cD F)).map (Value.int .i64)=iv at *
  generalize bI.toList=tl at *
  go_wp2_with fail
  refine aI 11 (by kernel_rfl) (by kernel_rfl) ?_
  simp only [List.take_succ_cons,List.take_zero,List.drop_succ_cons,List.drop_zero]
  repeat (first | (go_big_quiet_want; refine bA 102 (.tmp 57) rfl gr 37 rfl tl _ HT.out Tryz.underlying102 rfl HFn.out ?_; go_simp; go_big_quiet_on) | (go_big_quiet_want; refine bA 48 (.tmp 59) rfl gp 0 rfl sv _ HS.out Tryz.underlying48 rfl HF16.out ?_; go_simp; go_big_quiet_on) | (go_big_quiet_want; refine bA 45 (.tmp 62) rfl gp 16 rfl gv _ HGn.out Tryz.underlying45 rfl HF4.out ?_; go_simp; go_big_quiet_on) | go_big_quiet_step ((go_at_call 159; exact bZ (HInv2.out _))))
  refine wpQuiet_nil ?_
  intro V5 hw'
  have E5:=hid (aK hw')
  have S5:=hid (show V5.heap[w.heap.size]? = some (.cells #[.int .i64 0,.int .i64 0,.int .i64 0,.int .i64 0,.int .i64 0,.int .i64 0,.int .i64 0,.int .i64 0,.int .i64 0,.int .i64 0,.int .i64 0,.int .i64 0,.int .i64 0,.int .i64 0,.int .i64 0,.int .i64 0,.int .i64 0,.int .i64 0,.int .i64 0,.int .i64 0,.int .i64 0] 195 (0,0)) from S4.out.below E5.out S4.out.lt)
  have R5:=hid (R4.out.below E5.out R4.out.lt)
  clear hw'
  go_wp2_with (first | (refine cX rfl 195 _ rfl (dH F n).toArray (by simpa [Act.eval] using HBu2.out) ?_) | (refine aA rfl 195 (.tmp 4) (.tmp 64) rfl w.heap.size rfl _ _ (dH F n).toArray rfl S5.out HFb.out (by rw [Hbs.out]; rfl) Hba.out ?_))
  refine bodyPost_ret (v:=.agg (dH F n).toArray) (results_cell_row Tryz.results151 _ _ w.heap.size 195 (dH F n).toArray (0,0) _ rfl (bB _ _ _ _ (dH F n).toArray S5.out) Tryz.underlying195 rfl HFb.out) rfl ?_
  have hgpp:=Hgp.out
  have hgr:=Hgr.out
  refine HP.out _ _ ⟨rfl,(OnlyIn.rowSet V5 w.heap.size (dH F n).toArray).heap R5.out (by simp only [List.mem_singleton]; omega),?_,rdW,vW,?_⟩
  ·have h0:=(((OW.out.trans (OnlyIn.of_below _ E2.out)).trans (O3.out.more (by simp))).grown (w2:=V4) (ow:=some gp) (by rw [<-HV4.out]; exact cZ (World.grownBy.refl V3 (some gp)) _) (fun k hk=>by rw [<-Option.some.inj hk]; omega)).trans (OnlyIn.of_below _ E5.out)
   exact h0.grown (cZ (World.grownBy.refl V5 (some w.heap.size)) _) (fun k hk=>by rw [<-Option.some.inj hk]; exact Nat.le_refl _)
  ·have P3':Blk V3 gp 93 (#[.int .i64 0,.int .i64 0,.int .i64 0,.int .i64 0,.int .i64 0,.int .i64 0,.int .i64 0,.int .i64 0,.int .i64 0,.int .i64 0,.int .i64 0,.int .i64 0,.int .i64 0,.int .i64 0,.int .i64 0,.int .i64 0,.int .i64 0,.int .i64 0,.int .i64 0,.int .i64 0]:Array Value).toList:=P3.out
   have S5':Blk V5 w.heap.size 195 (#[.int .i64 0,.int .i64 0,.int .i64 0,.int .i64 0,.int .i64 0,.int .i64 0,.int .i64 0,.int .i64 0,.int .i64 0,.int .i64 0,.int .i64 0,.int .i64 0,.int .i64 0,.int .i64 0,.int .i64 0,.int .i64 0,.int .i64 0,.int .i64 0,.int .i64 0,.int .i64 0,.int .i64 0]:Array Value).toList:=S5.out
   have himg:=Himg.out
   have hwb:=HwB.out
   have k3:=(KW.out.later E2.out).apart R2'.out (by decide) (by decide) (by decide) (by decide) (by decide) HN.out HAi.out O3.out
   have k4:=k3.apart P3' (by decide) (by decide) (by decide) (by decide) (by decide) (by omega) (fun ad had=>by have:=himg ad had; omega) O4.out
   exact (k4.later E5.out).apart S5' (by decide) (by decide) (by decide) (by decide) (by decide) hwb (fun ad had=>by have:=himg ad had; omega) (OnlyIn.rowSet V5 w.heap.size (dH F n).toArray)
end
section
open Go.RowKit Go.Lib
def f4 (F:Nat->FrameV) (ns:List Nat):List Value:=(ns.map fun (n:Nat)=>dH (F n) (n:Int)).flatten
theorem eY (F:Nat->FrameV) (n:Nat) (ns:List Nat):f4 F (n :: ns)=dH (F n) (n:Int) ++ f4 F ns:=rfl
theorem xM (F:Nat->FrameV):∀ a b:List Nat,f4 F (a ++ b)=f4 F a ++ f4 F b
 | [],b=>rfl
 | x :: a,b=>by rw [List.cons_append,eY,xM F a b,eY,List.append_assoc]
theorem sK {F:Nat->FrameV} (hF:∀ n,(F n).Len):∀ ns:List Nat,(f4 F ns).length=ns.length*21
 | []=>rfl
 | x :: a=>by rw [eY,List.length_append,gO (hF x),sK hF a,List.length_cons]; omega
theorem xN {F:Nat->FrameV} {ns:List Nat}:∀ v ∈ f4 F ns,v.oneCell'=true:=fun v hv=>by
 unfold f4 at hv
 obtain ⟨l,hl,hv⟩:=List.mem_flatten.1 hv
 obtain ⟨n,_,rfl⟩:=List.mem_map.1 hl
 exact oO _ _ v hv
theorem pY {F:Nat->FrameV} (hF:∀ n,(F n).Len):∀ (ns:List Nat) (i:Nat),(f4 F ns).take (i*21)=f4 F (ns.take i)
 | [],i=>by simp [f4]
 | x :: a,0=>by simp [f4]
 | x :: a,i+1=>by
  have hx:=gO (hF x) (x:Int)
  rw [List.take_succ_cons,eY,eY,<-pY hF a i,List.take_append,hx,List.take_of_length_le (by omega),show (i+1)*21 - 21=i*21 by omega]
theorem pX {F:Nat->FrameV} (hF:∀ n,(F n).Len):∀ (ns:List Nat) (i:Nat),(f4 F ns).drop (i*21)=f4 F (ns.drop i)
 | [],i=>by simp [f4]
 | x :: a,0=>by simp
 | x :: a,i+1=>by
  have hx:=gO (hF x) (x:Int)
  rw [List.drop_succ_cons,eY,<-pX hF a i,List.drop_append,hx,List.drop_of_length_le (by omega),List.nil_append,show (i+1)*21 - 21=i*21 by omega]
theorem YJ {F:Nat->FrameV} (hF:∀ n,(F n).Len) {ns:List Nat} {i n:Nat} (h:ns[i]? = some n) {j:Nat} (hj:j < 21):(f4 F ns)[i*21+j]? = (dH (F n) (n:Int))[j]?:=by
 have hi:=(List.getElem?_eq_some_iff.1 h)
 rw [<-List.getElem?_drop,pX hF,List.drop_eq_getElem_cons hi.1,hi.2,eY,List.getElem?_append_left (by rw [gO (hF n)]; exact hj)]
def kT (n:Nat) (ns:List Nat):List Nat:=if n ∈ ns then n :: ns.erase n else n :: ns.take 3
def iC (n:Nat) (ns:List Nat):Nat:=if n ∈ ns then 0 else 1
theorem zL:∀ (ns:List Nat) (i n:Nat),ns[i]? = some n->(∀ j,j < i->ns[j]? ≠ some n)->ns.erase n=ns.take i ++ ns.drop (i+1)
 | [],_,_,h,_=>by simp at h
 | x :: r,0,n,h,_=>by
  have:x=n:=by simpa using h
  subst this
  simp
 | x :: r,i+1,n,h,hj=>by
  have hx:x ≠ n:=fun e=>hj 0 (by omega) (by rw [e]; rfl)
  rw [List.erase_cons_tail (by simpa using hx),zL r i n (by simpa using h) (fun j hj'=>by simpa using hj (j+1) (by omega))]
  rfl
theorem RT {ns:List Nat} {i n:Nat} (h:ns[i]? = some n) (hj:∀ j,j < i->ns[j]? ≠ some n):kT n ns=n :: (ns.take i ++ ns.drop (i+1))/\iC n ns=0:=by
 have hm:n ∈ ns:=List.mem_of_getElem? h
 unfold kT iC
 rw [if_pos hm,if_pos hm,zL ns i n h hj]
 exact ⟨rfl,rfl⟩
theorem aAH {ns:List Nat} {n:Nat} (h:∀ j,j < ns.length->ns[j]? ≠ some n):kT n ns=n :: ns.take 3/\iC n ns=1:=by
 have hm:n ∉ ns:=fun hm=>by
  obtain ⟨j,hj⟩:=List.mem_iff_getElem?.1 hm
  exact h j (List.getElem?_eq_some_iff.1 hj).1 hj
 unfold kT iC
 rw [if_neg hm,if_neg hm]
 exact ⟨rfl,rfl⟩
theorem aCo {n:Nat} {ns:List Nat} (h:ns.length<=4):(kT n ns).length<=4/\0 < (kT n ns).length:=by
 unfold kT
 split
 ·rename_i hm
  rw [List.length_cons,List.length_erase_of_mem hm]
  omega
 ·rw [List.length_cons,List.length_take]
  omega
theorem EJ {cur b:List Value} {n i:Nat} (hn:n*21<=cur.length) (hi:i < n) (hb:b.length=21):(aS (aS cur 21 (cur.take (i*21))) 0 b).take (n*21)=b ++ ((cur.take (n*21)).take (i*21) ++ (cur.take (n*21)).drop ((i+1)*21)):=by
 have hl:(cur.take (i*21)).length=i*21:=by rw [List.length_take]; omega
 have e1:aS cur 21 (cur.take (i*21))=cur.take 21 ++ (cur.take (i*21) ++ cur.drop (21+i*21)):=by
  unfold aS
  rw [hl,List.append_assoc]
 have h21:(cur.take 21).length=21:=by rw [List.length_take]; omega
 have e2:aS (aS cur 21 (cur.take (i*21))) 0 b=b ++ (cur.take (i*21) ++ cur.drop (21+i*21)):=by
  rw [e1]
  unfold aS
  rw [List.take_zero,List.nil_append,Nat.zero_add,hb,List.drop_append,h21,List.drop_of_length_le (by omega),List.nil_append]
  rfl
 rw [e2,List.take_append,List.take_of_length_le (by omega),List.take_append,hl,List.take_of_length_le (l:=cur.take (i*21)) (by omega),List.take_take,Nat.min_eq_left (by omega),List.drop_take,hb,
  show n*21 - 21 - i*21=n*21 - (i+1)*21 by omega,show 21+i*21=(i+1)*21 by omega]
end
section
open Go.RowKit Go.Lib
theorem wR {P:Program} (w:World) (dT sT ty elem:TypeId) (g o dLen dCap:Nat) (a:Addr) (sLen sCap size:Nat) (t:TypeId) (old cs:List Value)
  (hu:P.underlying dT=some (.slice elem)) (hs:(P.info? elem).map (·.size)=some size) (hn:cs.length=Nat.min sLen dLen*size) (hg:w.heap[g]? = some (.cells old.toArray t (0,0)))
  (hsrc:∀ j v,cs[j]? = some v->w.cell? (a.add j)=some v) (ho:o+cs.length<=old.length) (h1:∀ v ∈ cs,v.oneCell'=true) :
  (Builtin.copy_ #[dT,sT] ty #[.slice (some ⟨g,o,none⟩) dLen dCap,.slice (some a) sLen sCap]).run P w=.ok (goInt (Nat.min sLen dLen)) (w.setRow g (aS old o cs).toArray):=by
 have hl:=run_loadCells_list (P:=P) w a cs hsrc
 have hst:=run_storeCells_at P g o t cs 0 old.toArray w hg (by simpa using ho) h1
 rw [Nat.add_zero] at hst
 have hst2:(storeCells ⟨g,o,none⟩ cs 0).run P w=.ok () (w.setRow g (aS old o cs).toArray):=hst
 rw [hn] at hl
 cases hq:P.info? elem with
 | none=>simp [hq] at hs
 | some i =>
  have hi:i.size=size:=by simpa [hq] using hs
  simp [Builtin.copy_,run_underlying hu,Builtin.lenOf,Builtin.firstCells,sizeOf,typeInfo,hq,hi,hl,hst2]
theorem EP {w w':World} {base:Nat} {e:TypeId} {size n c:Nat} {A:Option Addr} {xs:List Value} {S:List Nat} (h:w.ownsRow base e size (.slice A n c) n xs) (hO:OnlyIn S w w') (hS:∀ ad,A=some ad->ad.block ∉ S):w'.ownsRow base e size (.slice A n c) n xs:=by
 refine ⟨h.1,?_⟩
 rcases h.2 with hn | ⟨g',cap',cur,hv,hb,hh,hr⟩
 ·exact .inl hn
 ·refine .inr ⟨g',cap',cur,hv,hb,hO.heap hh ?_,hr⟩
  injection hv with e1 _ _
  exact hS _ e1
theorem wN {w:World} {base:Nat} {e:TypeId} {size n c:Nat} {A:Option Addr} {xs:List Value} (h:w.ownsRow base e size (.slice A n c) n xs) {j:Nat} {cs:List Value} {T:TypeId} (hj:Blk w j T cs) (hT:T ≠ e):∀ ad,A=some ad->ad.block ≠ j:=fun ad had he=>by
 have:=VC h hj hT
 rw [had,<-he] at this
 exact this rfl
theorem QL {w:World} {base:Nat} {e:TypeId} {size n:Nat} {v:Value} {xs:List Value} (h:w.ownsRow base e size v n xs) (hn:0 < n):∃ g c,v=.slice (some ⟨g,0,none⟩) n c/\base<=g/\g < w.heap.size/\n<=c/\c<=9223372036854775807:=by
 rcases h.2 with ⟨_,h0⟩ | ⟨g,cap,cur,hv,hb,hh,hnc,hm,_⟩
 ·omega
 ·exact ⟨g,cap,hv,hb,hlt hh,hnc,by simpa only [maxLen] using hm⟩
theorem QK {w:World} {N:Nat} (e:TypeId) {xs:List Value} (hx:xs.length=21) (hN:N<=w.heap.size):(w.alloc (.cells xs.toArray e)).ownsRow N e 21 (.slice (some ⟨w.heap.size,0,none⟩) 1 1) 1 xs :=
 ⟨by rw [hx],.inr ⟨w.heap.size,1,xs.toArray,rfl,hN,heap_alloc_new w _,Nat.le_refl _,by simp [maxLen],by rw [List.size_toArray,hx],by rw [List.toList_toArray,List.take_of_length_le (by omega)]⟩⟩
theorem XD {w:World} {base size n cap g:Nat} {e:TypeId} {xs:List Value} (h:w.ownsRow base e size (.slice (some ⟨g,0,none⟩) n cap) n xs) :
  ∃ old:List Value,w.heap[g]? = some (.cells old.toArray e (0,0))/\n*size<=old.length/\old.take (n*size)=xs/\old.length=cap*size:=by
 rcases h.2 with ⟨h',_⟩ | ⟨g',cap',cur,h',hb,hg,hnc,hcm,hcs,htake⟩
 ·simp at h'
 ·simp only [Value.slice.injEq,Option.some.injEq,Addr.mk.injEq,and_true,true_and] at h'
  obtain ⟨rfl,rfl⟩:=h'
  refine ⟨cur.toList,by rw [Array.toArray_toList]; exact hg,?_,htake,by rw [Array.length_toList,hcs]⟩
  rw [Array.length_toList,hcs]
  exact Nat.mul_le_mul_right _ hnc
theorem NW:∃ i,Tryz.prog.info? 195=some i/\(∃ z,i.zero=some z/\z.cells.size=21)/\i.size=21/\i.bytes=168:=by
 have h:(Tryz.prog.info? 195).map (fun i=>(i.zero.map (fun z=>z.cells.size),i.size,i.bytes))=some (some 21,21,168):=by kernel_rfl
 cases hi:Tryz.prog.info? 195 with
 | none=>rw [hi] at h; cases h
 | some i =>
  rw [hi] at h
  simp at h
  obtain ⟨⟨z,hz,hzs⟩,h2,h3⟩:=h
  exact ⟨i,rfl,⟨z,hz,hzs⟩,h2,h3⟩
theorem IM (g j:Nat):(⟨g,0,none⟩:Addr).add j=⟨g,j,none⟩:=by
 unfold Addr.add
 split
 ·rename_i h
  rw [h]
 ·rw [Nat.zero_add]
theorem qK (l:List Value) (o:Nat):aS l o []=l:=by
 unfold aS
 rw [List.append_nil,List.length_nil,Nat.add_zero,List.take_append_drop]
theorem lT {P:Program} {o:Oper} {a:Act} {w:World} {K:Act->World->Prop} {Q:Exit->Act->World->Prop} (t e:TypeId) (x:Operand) (ho:o.op=.buildSlice t 1 #[(0,x)])
  (ie:TypeInfo) (z:Value) (s:Nat) (hu:P.underlying t=some (.slice e)) (hie:P.info? e=some ie) (hz:ie.zero=some z) (hs:ie.size=s) (h0:0 < s) (hs2:s<=1000000) (cs:Array Value) (hx:(a.eval x).cells=cs) (hcs:cs.size=s)
  (h:K (a.put o.dst (.slice (some ⟨w.heap.size,0,none⟩) 1 1)) (w.alloc (.cells cs e))):o.wp P a w K Q:=by
 refine wp_buildSlice t e 1 #[(0,x)] ho cs ie z hu hie hz (by rw [hs]; omega) (by rw [hs]; omega) ?_ h
 rw [hs]
 have:=Great.fill_whole (s:=s) h0 [a.eval x] ((Array.range (1*s)).map (z.cells[· % z.cells.size]!)) (fun v hv=>by rw [List.mem_singleton] at hv; rw [hv,hx,hcs]) (by simp)
 simpa [hx] using this
theorem aDm {P:Program} {o:Oper} {a:Act} {w:World} {K:Act->World->Prop} {Q:Exit->Act->World->Prop} (s x:Operand) (t:TypeId) (hop:o.op=Op.call { callee:=Callee.builtin Builtin.append,args:=#[s,x],argTypes:=#[t,t] })
  (base:Nat) (e:TypeId) (i:TypeInfo) (z:Value) (size bytes:Nat) (ht:P.underlying t=some (.slice e)) (hi:P.info? e=some i) (hz:i.zero=some z)
  (hsize:i.size=size) (hby:i.bytes=bytes) (hzs:z.cells.size=size) (hsz:0 < size)
  (v:Value) (n:Nat) (xs:List Value) (hs:a.eval s=v) (hown:w.ownsRow base e size v n xs)
  (B:Nat) (A:Option Addr) (m c:Nat) (news:List Value) (hx:a.eval x=.slice A m c) (hl:news.length=m*size) (hr:Row w B A news) (h1:∀ u ∈ news,u.oneCell'=true)
  (h63:n+m<=9223372036854775807) (hbytes:(n+m)*bytes<=140737488355328) (hbase:base<=w.heap.size)
  (hK:∀ A' c' w',w'.ownsRow base e size (.slice A' (n+m) c') (n+m) (xs ++ news)->w.grownBy w' v.ownBlock ->
   ((Value.slice A' (n+m) c').ownBlock=v.ownBlock\/(Value.slice A' (n+m) c').ownBlock=some w.heap.size)->n+m<=c'->K (a.put o.dst (.slice A' (n+m) c')) w'):o.wp P a w K Q:=by
 obtain ⟨A',c',w',hrun,h2,h3,h4,h5⟩:=LU (P:=P) w base t o.type e i z size bytes ht hi hz hsize hby hzs hsz v n xs hown B A m c news hl hr h1 h63 hbytes hbase
 unfold Oper.wp
 simp [execOp,hop,resolve,invoke,builtin,hs,hx,hrun,Result.andThen]
 exact hK _ _ _ h2 h3 h4 h5
noncomputable def mU (size:Nat) (SS:List SampV) (s c:Int) (n:Nat):FrameV:=tG (aH size SS) (bG size SS) size s c n
theorem NV (size:Nat) (SS:List SampV) (s c:Int) (n:Nat):(mU size SS s c n).Len:=aBu _ _ _ _ _ _
structure CurAt (w:World) (N:Nat) (F:Nat->FrameV) (gr gf:Nat) (s c len:Int) (A:Option Addr) (cap:Nat) (ns:List Nat) (fr:Int) (pc:List Value):Prop where
 head:Blk w gr 107 (bT pc gf s c len (.slice A ns.length cap) fr)
 pcl:pc.length=20
 own:w.ownsRow N 195 21 (.slice A ns.length cap) ns.length (f4 F ns)
 lo:N<=gr
theorem CurAt.later {w w':World} {N:Nat} {F:Nat->FrameV} {gr gf:Nat} {s c len:Int} {A:Option Addr} {cap:Nat} {ns:List Nat} {fr:Int} {pc:List Value} (h:CurAt w N F gr gf s c len A cap ns fr pc) (hb:Below w.heap.size w w'):CurAt w' N F gr gf s c len A cap ns fr pc :=
 ⟨h.head.below hb h.head.lt,h.pcl,cS h.own hb,h.lo⟩
def rO:Option Addr->List Nat
 | none=>[]
 | some a=>[a.block]
theorem ZO {A:Option Addr} {x:Nat} (h:x ∈ rO A):∃ ad,A=some ad/\ad.block=x:=by
 cases A with
 | none=>simp [rO] at h
 | some a=>exact ⟨a,rfl,(List.mem_singleton.1 h).symm⟩
def xG (wB w:World) (size:Nat) (SS:List SampV) (gx gc gd gs gf:Nat) (Ai:Option Addr) (gm K:Nat) (ff:Int) (N gr:Nat) (s c len:Int) (A:Option Addr) (ns:List Nat) (fr:Int) (n:Nat) (e:Ending) (w':World):Prop :=
 ∃ g' cap' pc',e=.returned (.pointer (some ⟨g',0,none⟩))/\CurAt w' N (mU size SS s c) gr gf s c len (some ⟨g',0,none⟩) cap' (kT n ns) (fr+(iC n ns:Nat)) pc'/\(A=some ⟨g',0,none⟩\/w.heap.size<=g') /\
  OnlyIn (gc :: gs :: gd :: gf :: gr :: rO A) w w'/\∃ rd' v',FetchOk wB w' (bG size SS) size (aH size SS) gx gc gd gs gf Ai gm (K+97) rd' v' (ff+(iC n ns:Nat)) 0
theorem IR {SS:List SampV} {wB w:World} {size gx gc gd gs gf:Nat} {Ai:Option Addr} {gm K:Nat} {rd:Int} {v:CacheV} {ff:Int} {N gr:Nat} {s c len:Int} {A:Option Addr} {cap:Nat} {ns:List Nat} {fr:Int} {pc:List Value} (hC:CanP size SS)
  (h:FetchOk wB w (bG size SS) size (aH size SS) gx gc gd gs gf Ai gm K rd v ff 0) (hA:CurAt w N (mU size SS s c) gr gf s c len A cap ns fr pc) (hns:ns.length<=4) (hK:K+97<=1000000000000000) (hfr:0<=fr/\fr<=1000000000000000) (n:Nat)
  (hE:bW (aH size SS) s c n=0) (hRF:RightF (mU size SS s c n)) (hN:wB.heap.size<=N) (hAi:∀ ad,Ai=some ad->ad.block < N) :
  Calls Tryz.prog 110 #[.pointer (some ⟨gr,0,none⟩),.int .i64 n] w (xG wB w size SS gx gc gd gs gf Ai gm K ff N gr s c len A ns fr n):=by
 obtain ⟨i0,hi,⟨z0,hz0,hz0s⟩,hi1,hi2⟩:=NW
 have HTk:=hid (aCg hC h hA.head hA.pcl (Nat.le_trans hN hA.lo) hK hfr n hE hRF (fun ad had=>by have:=hAi ad had; have:=hA.lo; omega))
 unfold WP at HTk
 obtain ⟨TP,hTP⟩:∃ TP,xG wB w size SS gx gc gd gs gf Ai gm K ff N gr s c len A ns fr n=TP:=⟨_,rfl⟩
 have HP:=hid (show ∀ e w',xG wB w size SS gx gc gd gs gf Ai gm K ff N gr s c len A ns fr n e w'->TP e w' from fun _ _ h=>hTP ▸ h)
 rw [hTP]
 unfold xG at HP
 have HF:=hid (fun k=>NV size SS s c k)
 rw [show tG (aH size SS) (bG size SS) size s c (n:Int)=mU size SS s c n from rfl] at HTk
 clear hTP
 generalize bG size SS=bs at *
 generalize aH size SS=D at *
 generalize mU size SS s c=F at *
 have HA:=hid hA
 have HH:=hid h
 have HN:=hid hN
 have HAi:=hid hAi
 have Hns:=hid hns
 obtain ⟨m,hm⟩:∃ m,ns.length=m:=⟨_,rfl⟩
 have Hm:=hid hm
 rw [hm] at HTk
 have hd:=hA.head
 rw [hm] at hd
 have Hd:=hid hd
 have Hown:=hid (show w.ownsRow N 195 21 (.slice A m cap) m (f4 F ns) by rw [<-hm]; exact hA.own)
 have x57:w.cell? ⟨gr,57,none⟩=some (.slice A m cap):=(hd.cell 57).trans (bQ hA.pcl gf s c len _ fr 4)
 have H21:=hid (show (Tryz.prog.info? 195).map (·.size)=some 21 from eZ)
 have hm4:m<=4:=by omega
 clear hA h hns hK hfr hE hRF hN hAi hm hd hC
 go_enter Tryz.func110,Tryz.ntmps110
 go_wp2_with fail
 go_loopw [13] (fun i wr=>∃ k:Nat,k<=m/\i=.int .i64 k/\(∀ j,j < k->ns[j]? ≠ some n)/\wr=w) (fun i _=>m - (intOf i).toNat)
 case atStart=>exact ⟨0,Nat.zero_le _,rfl,fun j h=>absurd h (Nat.not_lt_zero _),rfl⟩
 case round =>
  obtain ⟨k,hk,rfl,hq,rfl⟩:=hrel
  have Hq:=hid hq
  clear hq
  by_cases hlt:k < m
  ·have t1:(k:Int) < (m:Int):=by omega
   have t2:(0:Int)<=(k:Int):=by omega
   obtain ⟨x,hx⟩:=aE (k:=k) Hm.out hlt
   obtain ⟨gA,cp,hv,hbN,hgA,hmc,hcm⟩:=QL Hown.out (by omega)
   injection hv with e1 _ e3
   subst e1 e3
   obtain ⟨old,hgO,hol,htk,hoc⟩:=XD Hown.out
   have HO:=hid hgO
   have Hol:=hid hol
   have Hoc:=hid hoc
   have Htk:=hid htk
   have Hx:=hid hx
   have HXw:=hid (fun (W:World) (hW:Below wr.heap.size wr W) (j:Nat) y (hy:(dH (F x) (x:Int))[j]? = some y)=>(show W.cell? ⟨gA,k*21+j,none⟩=some y from by
    have hj:j < 21:=by have:=(List.getElem?_eq_some_iff.1 hy).1; rwa [gO (HF.out x)] at this
    have h1:=YJ HF.out hx hj
    rw [hy,<-htk,List.getElem?_take,if_pos (by omega)] at h1
    exact (hW.cell (p:=⟨gA,k*21+j,none⟩) hgA).trans ((Blk.cell hgO _).trans h1)))
   have c0:wr.cell? ⟨gA,k*21,none⟩=some (.int .i64 x):=HXw.out wr (Below.refl _ _) 0 _ rfl
   clear hbN hgO hol htk hx hoc
   by_cases hxn:x=n
   ·subst hxn
    have u1:((x:Int) == (x:Int))=true:=beq_self_eq_true _
    obtain ⟨bl,hbl⟩:∃ bl,dH (F x) (x:Int)=bl:=⟨_,rfl⟩
    have hbn:bl.length=21:=by rw [<-hbl]; exact gO (HF.out x) _
    have Hb1:=hid (show ∀ v ∈ bl,v.oneCell'=true by rw [<-hbl]; exact oO _ _)
    have Hba:=hid (show bl.toArray.all (·.oneCell')=true by
     rw [Array.all_eq_true_iff_forall_mem]
     intro v hv
     exact Hb1.out v (by simpa using hv))
    have Hbs:=hid (show bl.toArray.size=21 by rw [List.size_toArray,hbn])
    have HFb:=hid (show (Tryz.prog.info? 195).map (·.size)=some bl.toArray.size by rw [List.size_toArray,hbn]; exact eZ)
    have HFl:=hid (show (Tryz.prog.info? 195).map (·.size)=some bl.length by rw [hbn]; exact eZ)
    have HXl:=hid (fun (j:Nat) y (hy:bl[j]? = some y)=>HXw.out wr (Below.refl _ _) j y (by rw [hbl]; exact hy))
    have Hbn:=hid hbn
    have Hbl:=hid hbl
    obtain ⟨w1,hw1⟩:∃ w1,wr.alloc (.cells bl.toArray 195)=w1:=⟨_,rfl⟩
    have B1:=hid (show Below wr.heap.size wr w1 by rw [<-hw1]; exact aL wr _)
    have L1:=hid (show w1.heap[wr.heap.size]? = some (.cells bl.toArray 195 (0,0)) by rw [<-hw1]; exact heap_alloc_new wr _)
    have Hw1:=hid hw1
    clear hbn hbl hw1
    go_wp2_with (first | (refine aN rfl 195 (.tmp 31) rfl gA (k*21) rfl bl _ HXl.out Tryz.underlying195 rfl HFl.out ?_) | (refine aA rfl 195 (.tmp 6) (.tmp 32) rfl wr.heap.size rfl _ _ bl.toArray rfl (heap_alloc_new wr _) HFb.out (by rw [Hbs.out]; rfl) Hba.out ?_; rw [World.setRow_alloc_new,Hw1.out]))
    have hcc:cap=1\/¬ cap=1:=by omega
    rcases hcc with hc1 | hc1
    ·subst hc1
     have xk:=fun (z:GW w1)=>(show z.1.cell? ⟨gr,57,none⟩=some (.slice (some ⟨gA,0,none⟩) m 1) from (z.2.cell (p:=⟨gr,57,none⟩) (Nat.lt_of_lt_of_le Hd.out.lt B1.out.size)).trans (((Hd.out.below B1.out Hd.out.lt).cell 57).trans (bQ HA.out.pcl gf s c len _ fr 4)))
     have v1:IntKind.i64.wrap ((k:Int)+1)=(k:Int)+1:=IntWalk.i64_in _ (by omega)
     have v2:(1:Int)<=(k:Int)+1:=by omega
     have v3:(k:Int)+1<=(1:Int):=by omega
     have v4:(k:Int)<=(1:Int):=by omega
     refine aI 13 (by kernel_rfl) (by kernel_rfl) ?_
     simp only [List.take_succ_cons,List.take_zero,List.drop_succ_cons,List.drop_zero]
     repeat (go_big_quiet_step (fail))
     refine wpQuiet_nil ?_
     intro w2 hw'
     have B2:=hid (aC B1.out (aK hw'))
     have L2:=hid (aF L1.out (aK hw'))
     have O2:=hid (show w2.heap[gA]? = some (.cells old.toArray 195 (0,0)) from aF HO.out B2.out)
     clear hw' xk
     have hkm:(k+1)*21<=m*21:=Nat.mul_le_mul_right _ hlt
     have hkl:(old.take (k*21)).length=k*21:=by rw [List.length_take,Nat.min_eq_left (by have:=Hol.out; omega)]
     have hpl:(aS old 21 (old.take (k*21))).length=old.length:=by rw [cT (by rw [hkl]; have:=Hol.out; omega)]
     have HPl:=hid hpl
     obtain ⟨w3,hw3⟩:∃ w3,w2.setRow gA (aS old 21 (old.take (k*21))).toArray=w3:=⟨_,rfl⟩
     have C2:=hid (show ∀ ty o c' cc,(o=21\/(o=0/\k=0))->(Builtin.copy_ #[105,105] ty #[.slice (some ⟨gA,o,none⟩) k c',.slice (some ⟨gA,0,none⟩) k cc]).run Tryz.prog w2=.ok (goInt (Nat.min k k)) w3 from fun ty o c' cc ho=>by
      have he:aS old 21 (old.take (k*21))=aS old o (old.take (k*21)):=by
       rcases ho with rfl | ⟨rfl,h0⟩
       ·rfl
       ·rw [h0,Nat.zero_mul,List.take_zero,qK,qK]
      rw [<-hw3,he]
      refine wR (P:=Tryz.prog) w2 _ _ ty 195 gA o _ _ ⟨gA,0,none⟩ _ _ 21 195 old (old.take (k*21)) Tryz.underlying105 eZ ?_ O2.out ?_ ?_ ?_
      ·have:Nat.min k k=k:=Nat.min_self k
       rw [hkl,this]
      ·intro j v hj
       rw [show (⟨gA,0,none⟩:Addr).add j=⟨gA,j,none⟩ from IM gA j]
       rw [List.getElem?_take] at hj
       split at hj
       ·exact (Blk.cell O2.out j).trans hj
       ·cases hj
      ·rw [hkl]; have:=Hol.out; omega
      ·intro v hv
       have e1:old.take (k*21)=(f4 F ns).take (k*21):=by rw [<-Htk.out,List.take_take,Nat.min_eq_left (by omega)]
       rw [e1] at hv
       exact xN v (List.mem_of_mem_take hv))
     have Hne:=hid (show wr.heap.size ≠ gA/\gr ≠ gA from ⟨by omega,fun e=>by
      have h1:=Hd.out
      rw [e] at h1
      exact absurd e.symm (by have:=cL (xs:=old) HO.out Hd.out (by decide); omega)⟩)
     have O3:=hid (show w3.heap[gA]? = some (.cells (aS old 21 (old.take (k*21))).toArray 195 (0,0)) by rw [<-hw3]; exact setRow_heap _ _ _ _ _ _ O2.out)
     have N3:=hid (show OnlyIn [gA] w2 w3 by rw [<-hw3]; exact OnlyIn.rowSet _ _ _)
     have L3:=hid (N3.out.heap L2.out (by simp only [List.mem_singleton]; exact Hne.out.1))
     have D3:=hid (show Blk w3 gr 107 (bT pc gf s c len (.slice (some ⟨gA,0,none⟩) m 1) fr) from N3.out.heap (Hd.out.below B2.out Hd.out.lt) (by simp only [List.mem_singleton]; exact Hne.out.2))
     clear hkm hkl hpl hw3
     have c2:=C2.out 3 0 0 1 (.inr ⟨rfl,by omega⟩)
     go_wp2_with fail
     clear c2
     have xk:=fun (z:GW w3)=>(show z.1.cell? ⟨gr,57,none⟩=some (.slice (some ⟨gA,0,none⟩) m 1) from (z.2.cell (p:=⟨gr,57,none⟩) D3.out.lt).trans ((D3.out.cell 57).trans (bQ HA.out.pcl gf s c len _ fr 4)))
     have P0:=fC L3.out
     have v5:(0:Int) < (m:Int):=by omega
     refine aI 6 (by kernel_rfl) (by kernel_rfl) ?_
     simp only [List.take_succ_cons,List.take_zero,List.drop_succ_cons,List.drop_zero]
     repeat (first | (go_big_quiet_want; refine bO 195 (.tmp 6) rfl wr.heap.size rfl _ bl.toArray _ _ P0 Tryz.underlying195 rfl HFb.out ?_; go_simp; go_big_quiet_on) | go_big_quiet_step (fail))
     refine wpQuiet_nil ?_
     intro w4 hw'
     have B4:=hid (aK hw')
     have O4:=hid (show w4.heap[gA]? = some (.cells (aS old 21 (old.take (k*21))).toArray 195 (0,0)) from aF O3.out B4.out)
     clear hw' xk P0
     obtain ⟨w5,hw5⟩:∃ w5,w4.setRow gA (aS (aS old 21 (old.take (k*21))) 0 bl).toArray=w5:=⟨_,rfl⟩
     have O5:=hid (show w5.heap[gA]? = some (.cells (aS (aS old 21 (old.take (k*21))) 0 bl).toArray 195 (0,0)) by rw [<-hw5]; exact setRow_heap _ _ _ _ _ _ O4.out)
     have N5:=hid (show OnlyIn [gA] w4 w5 by rw [<-hw5]; exact OnlyIn.rowSet _ _ _)
     have D5:=hid (show Blk w5 gr 107 (bT pc gf s c len (.slice (some ⟨gA,0,none⟩) m 1) fr) from N5.out.heap (D3.out.below B4.out D3.out.lt) (by simp only [List.mem_singleton]; exact Hne.out.2))
     have Hw5:=hid hw5
     have x5:w5.cell? ⟨gr,57,none⟩=some (.slice (some ⟨gA,0,none⟩) m 1):=(D5.out.cell 57).trans (bQ HA.out.pcl gf s c len _ fr 4)
     have HSz:=hid (show 0+bl.length<=(aS old 21 (old.take (k*21))).length by rw [HPl.out,Hbn.out,Hoc.out]; omega)
     clear hw5
     go_wp2_with (refine dQ rfl 195 (.tmp 52) (.tmp 51) rfl gA 0 rfl 195 (aS old 21 (old.take (k*21))) bl rfl O4.out HFl.out HSz.out Hb1.out ?_; rw [Hw5.out])
     obtain ⟨hu1,hu2⟩:=RT Hx.out Hq.out
     have hul:(kT x ns).length=m:=by rw [hu1,List.length_cons,List.length_append,List.length_take,List.length_drop,Hm.out]; omega
     have hN5:OnlyIn [gA] wr w5:=(((OnlyIn.of_below [gA] B2.out).trans N3.out).trans (OnlyIn.of_below _ B4.out)).trans N5.out
     refine HP.out _ _ ⟨gA,1,pc,rfl,⟨?_,HA.out.pcl,⟨?_,.inr ⟨gA,1,(aS (aS old 21 (old.take (k*21))) 0 bl).toArray,?_,?_,O5.out,?_,?_,?_,?_⟩⟩,HA.out.lo⟩,.inl rfl,?_,rd,v,?_⟩
     ·rw [hul,hu2,show fr+((0:Nat):Int)=fr by omega]
      exact D5.out
     ·rw [sK HF.out]
     ·rw [hul]
     ·exact bJ Hown.out gA rfl
     ·rw [hul]; exact hmc
     ·simpa only [maxLen] using hcm
     ·rw [List.size_toArray,cT HSz.out,HPl.out,Hoc.out]
     ·rw [List.toList_toArray,hul,EJ Hol.out hlt Hbn.out,hu1,eY,xM,<-pY HF.out,<-pX HF.out,Htk.out,Hbl.out]
     ·exact hN5.more (fun y hy=>by rw [List.mem_singleton.1 hy]; simp [rO])
     ·rw [hu2,show ff+((0:Nat):Int)=ff by omega]
      exact (HH.out.apart (r:=gA) (xs:=old) HO.out (by decide) (by decide) (by decide) (by decide) (by decide) (Nat.le_trans HN.out (bJ Hown.out gA rfl)) (fun ad had=>by have h1:=HAi.out ad had; have h2:=bJ Hown.out gA rfl; omega) hN5).more (by omega)
    ·have xk:=fun (z:GW w1)=>(show z.1.cell? ⟨gr,57,none⟩=some (.slice (some ⟨gA,0,none⟩) m cap) from (z.2.cell (p:=⟨gr,57,none⟩) (Nat.lt_of_lt_of_le Hd.out.lt B1.out.size)).trans (((Hd.out.below B1.out Hd.out.lt).cell 57).trans (bQ HA.out.pcl gf s c len _ fr 4)))
     have v1:IntKind.i64.wrap ((k:Int)+1)=(k:Int)+1:=IntWalk.i64_in _ (by omega)
     have v2:(1:Int)<=(k:Int)+1:=by omega
     have v3:(k:Int)+1<=(cap:Int):=by omega
     have v4:(k:Int)<=(cap:Int):=by omega
     refine aI 13 (by kernel_rfl) (by kernel_rfl) ?_
     simp only [List.take_succ_cons,List.take_zero,List.drop_succ_cons,List.drop_zero]
     repeat (go_big_quiet_step (fail))
     refine wpQuiet_nil ?_
     intro w2 hw'
     have B2:=hid (aC B1.out (aK hw'))
     have L2:=hid (aF L1.out (aK hw'))
     have O2:=hid (show w2.heap[gA]? = some (.cells old.toArray 195 (0,0)) from aF HO.out B2.out)
     clear hw' xk
     have hkm:(k+1)*21<=m*21:=Nat.mul_le_mul_right _ hlt
     have hkl:(old.take (k*21)).length=k*21:=by rw [List.length_take,Nat.min_eq_left (by have:=Hol.out; omega)]
     have hpl:(aS old 21 (old.take (k*21))).length=old.length:=by rw [cT (by rw [hkl]; have:=Hol.out; omega)]
     have HPl:=hid hpl
     obtain ⟨w3,hw3⟩:∃ w3,w2.setRow gA (aS old 21 (old.take (k*21))).toArray=w3:=⟨_,rfl⟩
     have C2:=hid (show ∀ ty o c' cc,(o=21\/(o=0/\k=0))->(Builtin.copy_ #[105,105] ty #[.slice (some ⟨gA,o,none⟩) k c',.slice (some ⟨gA,0,none⟩) k cc]).run Tryz.prog w2=.ok (goInt (Nat.min k k)) w3 from fun ty o c' cc ho=>by
      have he:aS old 21 (old.take (k*21))=aS old o (old.take (k*21)):=by
       rcases ho with rfl | ⟨rfl,h0⟩
       ·rfl
       ·rw [h0,Nat.zero_mul,List.take_zero,qK,qK]
      rw [<-hw3,he]
      refine wR (P:=Tryz.prog) w2 _ _ ty 195 gA o _ _ ⟨gA,0,none⟩ _ _ 21 195 old (old.take (k*21)) Tryz.underlying105 eZ ?_ O2.out ?_ ?_ ?_
      ·have:Nat.min k k=k:=Nat.min_self k
       rw [hkl,this]
      ·intro j v hj
       rw [show (⟨gA,0,none⟩:Addr).add j=⟨gA,j,none⟩ from IM gA j]
       rw [List.getElem?_take] at hj
       split at hj
       ·exact (Blk.cell O2.out j).trans hj
       ·cases hj
      ·rw [hkl]; have:=Hol.out; omega
      ·intro v hv
       have e1:old.take (k*21)=(f4 F ns).take (k*21):=by rw [<-Htk.out,List.take_take,Nat.min_eq_left (by omega)]
       rw [e1] at hv
       exact xN v (List.mem_of_mem_take hv))
     have Hne:=hid (show wr.heap.size ≠ gA/\gr ≠ gA from ⟨by omega,fun e=>by
      have h1:=Hd.out
      rw [e] at h1
      exact absurd e.symm (by have:=cL (xs:=old) HO.out Hd.out (by decide); omega)⟩)
     have O3:=hid (show w3.heap[gA]? = some (.cells (aS old 21 (old.take (k*21))).toArray 195 (0,0)) by rw [<-hw3]; exact setRow_heap _ _ _ _ _ _ O2.out)
     have N3:=hid (show OnlyIn [gA] w2 w3 by rw [<-hw3]; exact OnlyIn.rowSet _ _ _)
     have L3:=hid (N3.out.heap L2.out (by simp only [List.mem_singleton]; exact Hne.out.1))
     have D3:=hid (show Blk w3 gr 107 (bT pc gf s c len (.slice (some ⟨gA,0,none⟩) m cap) fr) from N3.out.heap (Hd.out.below B2.out Hd.out.lt) (by simp only [List.mem_singleton]; exact Hne.out.2))
     clear hkm hkl hpl hw3
     have c2:=C2.out 3 21 (cap - 1) cap (.inl rfl)
     go_wp2_with fail
     clear c2
     have xk:=fun (z:GW w3)=>(show z.1.cell? ⟨gr,57,none⟩=some (.slice (some ⟨gA,0,none⟩) m cap) from (z.2.cell (p:=⟨gr,57,none⟩) D3.out.lt).trans ((D3.out.cell 57).trans (bQ HA.out.pcl gf s c len _ fr 4)))
     have P0:=fC L3.out
     have v5:(0:Int) < (m:Int):=by omega
     refine aI 6 (by kernel_rfl) (by kernel_rfl) ?_
     simp only [List.take_succ_cons,List.take_zero,List.drop_succ_cons,List.drop_zero]
     repeat (first | (go_big_quiet_want; refine bO 195 (.tmp 6) rfl wr.heap.size rfl _ bl.toArray _ _ P0 Tryz.underlying195 rfl HFb.out ?_; go_simp; go_big_quiet_on) | go_big_quiet_step (fail))
     refine wpQuiet_nil ?_
     intro w4 hw'
     have B4:=hid (aK hw')
     have O4:=hid (show w4.heap[gA]? = some (.cells (aS old 21 (old.take (k*21))).toArray 195 (0,0)) from aF O3.out B4.out)
     clear hw' xk P0
     obtain ⟨w5,hw5⟩:∃ w5,w4.setRow gA (aS (aS old 21 (old.take (k*21))) 0 bl).toArray=w5:=⟨_,rfl⟩
     have O5:=hid (show w5.heap[gA]? = some (.cells (aS (aS old 21 (old.take (k*21))) 0 bl).toArray 195 (0,0)) by rw [<-hw5]; exact setRow_heap _ _ _ _ _ _ O4.out)
     have N5:=hid (show OnlyIn [gA] w4 w5 by rw [<-hw5]; exact OnlyIn.rowSet _ _ _)
     have D5:=hid (show Blk w5 gr 107 (bT pc gf s c len (.slice (some ⟨gA,0,none⟩) m cap) fr) from N5.out.heap (D3.out.below B4.out D3.out.lt) (by simp only [List.mem_singleton]; exact Hne.out.2))
     have Hw5:=hid hw5
     have x5:w5.cell? ⟨gr,57,none⟩=some (.slice (some ⟨gA,0,none⟩) m cap):=(D5.out.cell 57).trans (bQ HA.out.pcl gf s c len _ fr 4)
     have HSz:=hid (show 0+bl.length<=(aS old 21 (old.take (k*21))).length by rw [HPl.out,Hbn.out,Hoc.out]; omega)
     clear hw5
     go_wp2_with (refine dQ rfl 195 (.tmp 52) (.tmp 51) rfl gA 0 rfl 195 (aS old 21 (old.take (k*21))) bl rfl O4.out HFl.out HSz.out Hb1.out ?_; rw [Hw5.out])
     obtain ⟨hu1,hu2⟩:=RT Hx.out Hq.out
     have hul:(kT x ns).length=m:=by rw [hu1,List.length_cons,List.length_append,List.length_take,List.length_drop,Hm.out]; omega
     have hN5:OnlyIn [gA] wr w5:=(((OnlyIn.of_below [gA] B2.out).trans N3.out).trans (OnlyIn.of_below _ B4.out)).trans N5.out
     refine HP.out _ _ ⟨gA,cap,pc,rfl,⟨?_,HA.out.pcl,⟨?_,.inr ⟨gA,cap,(aS (aS old 21 (old.take (k*21))) 0 bl).toArray,?_,?_,O5.out,?_,?_,?_,?_⟩⟩,HA.out.lo⟩,.inl rfl,?_,rd,v,?_⟩
     ·rw [hul,hu2,show fr+((0:Nat):Int)=fr by omega]
      exact D5.out
     ·rw [sK HF.out]
     ·rw [hul]
     ·exact bJ Hown.out gA rfl
     ·rw [hul]; exact hmc
     ·simpa only [maxLen] using hcm
     ·rw [List.size_toArray,cT HSz.out,HPl.out,Hoc.out]
     ·rw [List.toList_toArray,hul,EJ Hol.out hlt Hbn.out,hu1,eY,xM,<-pY HF.out,<-pX HF.out,Htk.out,Hbl.out]
     ·exact hN5.more (fun y hy=>by rw [List.mem_singleton.1 hy]; simp [rO])
     ·rw [hu2,show ff+((0:Nat):Int)=ff by omega]
      exact (HH.out.apart (r:=gA) (xs:=old) HO.out (by decide) (by decide) (by decide) (by decide) (by decide) (Nat.le_trans HN.out (bJ Hown.out gA rfl)) (fun ad had=>by have h1:=HAi.out ad had; have h2:=bJ Hown.out gA rfl; omega) hN5).more (by omega)
   ·have u1:((x:Int) == (n:Int))=false:=beq_eq_false_iff_ne.2 (by omega)
    have Hxn:=hid hxn
    clear hxn
    go_wp2_with fail
    go_roundw
    case rel=>exact ⟨k+1,by omega,by go_num,fun j hj=>by
     by_cases hjk:j=k
     ·subst hjk
      rw [Hx.out]
      intro he
      exact Hxn.out (Option.some.inj he)
     ·exact Hq.out j (by omega),trivial⟩
    case measure=>simp [intOf]; omega
  ·have t1:¬ (k:Int) < (m:Int):=by omega
   obtain rfl:m=k:=by omega
   clear x57
   obtain ⟨r,hr⟩:∃ r,min m 3=r:=⟨_,rfl⟩
   have t3:min (m:Int) 3=(r:Int):=by omega
   have hrr:r<=3/\r<=m:=by omega
   have Hr:=hid hr
   clear hr
   go_wp2_with (go_at_call 151; fail)
   refine HTk.out.mono ?_
   rintro e w1 ⟨rfl,hR1,hO1,rd1,v1,hK1⟩
   have R1:=hid hR1
   have O1:=hid hO1
   have K1:=hid hK1
   have Own1:=hid (EP Hown.out hO1 (fun ad had=>by
    obtain ⟨cd,hcd⟩:=HH.out.cache.disk.blk
    have n1:=wN Hown.out HH.out.cache.cache.head (by decide) ad had
    have n2:=wN Hown.out HH.out.cache.cache.slots (by decide) ad had
    have n3:=wN Hown.out hcd (by decide) ad had
    have n4:=wN Hown.out HH.out.head (by decide) ad had
    have n5:=wN Hown.out Hd.out (by decide) ad had
    simp only [List.mem_cons,List.not_mem_nil,or_false]
    omega))
   clear hR1 hO1 hK1
   obtain ⟨bl,hbl⟩:∃ bl,dH (F n) (n:Int)=bl:=⟨_,rfl⟩
   rw [hbl]
   have hbn:bl.length=21:=by rw [<-hbl]; exact gO (HF.out n) _
   have Hb1:=hid (show ∀ v ∈ bl,v.oneCell'=true by rw [<-hbl]; exact oO _ _)
   have Hba:=hid (show bl.toArray.all (·.oneCell')=true by
    rw [Array.all_eq_true_iff_forall_mem]
    intro v hv
    exact Hb1.out v (by simpa using hv))
   have Hbs:=hid (show bl.toArray.size=21 by rw [List.size_toArray,hbn])
   have HFb:=hid (show (Tryz.prog.info? 195).map (·.size)=some bl.toArray.size by rw [List.size_toArray,hbn]; exact eZ)
   obtain ⟨w2,hw2⟩:∃ w2,w1.alloc (.cells bl.toArray 195)=w2:=⟨_,rfl⟩
   have B2:=hid (show Below w1.heap.size w1 w2 by rw [<-hw2]; exact aL w1 _)
   have R2:=hid (R1.out.below B2.out R1.out.lt)
   have K2:=hid (K1.out.later B2.out)
   have Own2:=hid (cS Own1.out B2.out)
   have Hw2:=hid hw2
   have LB2:=hid (show w2.heap[w1.heap.size]? = some (.cells bl.toArray 195 (0,0)) by rw [<-hw2]; exact heap_alloc_new w1 _)
   have Hbn:=hid hbn
   have Hbl:=hid hbl
   clear hw2 hbl hbn
   go_wp2_with (refine aA rfl 195 (.tmp 7) (.tmp 61) rfl w1.heap.size rfl _ _ bl.toArray rfl (heap_alloc_new w1 _) HFb.out (by rw [Hbs.out]; rfl) Hba.out ?_; rw [World.setRow_alloc_new,Hw2.out])
   have hcm:=sW Own2.out
   have hnew:(f4 F (ns.take 3)).length=r*21:=by rw [sK HF.out,List.length_take,Hm.out,<-Hr.out,Nat.min_comm]
   have HNew:=hid hnew
   have HRow:=hid (show Row w2 w2.heap.size A (f4 F (ns.take 3)) from fun j y hy=>by
    refine Row.of_own Own2.out j y ?_
    rw [<-pY HF.out,List.getElem?_take] at hy
    split at hy
    ·exact hy
    ·cases hy)
   have HSg:=hid (fun (W W':World) (hW:Below w2.heap.size w2 W) (hg:W.grownBy W' (some w2.heap.size))=>(show Blk W' gr 107 (bT (b9 (F n)) gf s c len (.slice A m cap) (fr+1)) from Blk.grown (R2.out.below hW R2.out.lt) hg (fun e=>by have h1:=R2.out.lt; injection e with e; omega)))
   have HPc:=hid (qI (HF.out n))
   have HNw:=hid (Nat.le_trans HA.out.lo (Nat.le_of_lt R2.out.lt))
   have t4:(0:Int)<=(r:Int):=by omega
   have t5:(r:Int)<=(cap:Int):=by omega
   have z57:w2.cell? ⟨gr,57,none⟩=some (.slice A m cap):=(R2.out.cell 57).trans (bQ HPc.out gf s c len _ (fr+1) 4)
   clear hnew
   obtain ⟨hu1,hu2⟩:=aAH (n:=n) (ns:=ns) (by rw [Hm.out]; exact Hq.out)
   have hul:(kT n ns).length=1+r:=by rw [hu1,List.length_cons,List.length_take,Hm.out]; have:=Hr.out; omega
   have HEnd:=hid (show ∀ g' c2 w9 wz gn,Below w2.heap.size w2 w9->w2.heap.size<=gn->w9.heap[gn]? = some (.cells bl.toArray 195 (0,0))->w9.grownBy wz (some gn)->wz.ownsRow N 195 21 (.slice (some ⟨g',0,none⟩) (1+r) c2) (1+r) (bl ++ f4 F (ns.take 3))->gn<=g'->TP (.returned (.pointer (some ⟨g',0,none⟩))) (wz.setCell ⟨gr,57,none⟩ (.slice (some ⟨g',0,none⟩) (1+r) c2)) from fun g' c2 w9 wz gn h29 hgn hg9 hgr how hgg=>by
    have r2:=R2.out.lt
    have r1:=R1.out.lt
    have s29:=h29.size
    have hRz:Blk wz gr 107 (bT (b9 (F n)) gf s c len (.slice A m cap) (fr+1)):=Blk.grown (R2.out.below h29 r2) hgr (fun e=>by injection e with e; omega)
    have hR10:Blk (wz.setCell ⟨gr,57,none⟩ (.slice (some ⟨g',0,none⟩) (1+r) c2)) gr 107 (bT (b9 (F n)) gf s c len (.slice (some ⟨g',0,none⟩) (1+r) c2) (fr+1)):=by
     have h:=hRz.set_ 57 (.slice (some ⟨g',0,none⟩) (1+r) c2)
     rwa [KX HPc.out] at h
    have hOz:OnlyIn [gn] w9 wz:=OnlyIn.of_grown hgr (List.mem_singleton.2 rfl)
    have hO10:OnlyIn [gr] wz (wz.setCell ⟨gr,57,none⟩ (.slice (some ⟨g',0,none⟩) (1+r) c2)):=OnlyIn.cellSet _ _ _ _
    have h1s:=O1.out.size
    have h12:=B2.out.size
    refine HP.out _ _ ⟨g',c2,b9 (F n),rfl,⟨?_,HPc.out,?_,HA.out.lo⟩,.inr (by omega),?_,rd1,v1,?_⟩
    ·rw [hul,hu2]
     exact hR10
    ·rw [hul,hu1,eY,Hbl.out]
     exact EP how hO10 (fun ad had=>by
      injection had with had
      rw [<-had,List.mem_singleton]
      show ¬ g'=gr
      omega)
    ·have h0:OnlyIn (gc :: gs :: gd :: gf :: gr :: rO A) wr w9:=((O1.out.more (by simp)).trans (OnlyIn.of_below _ B2.out)).trans (OnlyIn.of_below _ h29)
     exact (h0.grown hgr (fun k hk=>by injection hk with hk; omega)).trans (hO10.more (by simp))
    ·rw [hu2]
     have k9:=(K2.out.later h29).apart (r:=gn) (xs:=bl) hg9 (by decide) (by decide) (by decide) (by decide) (by decide) (by have:=HN.out; have:=HNw.out; omega) (fun ad had=>by have:=HAi.out ad had; have:=HNw.out; omega) hOz
     exact k9.apart hRz (by decide) (by decide) (by decide) (by decide) (by decide) (Nat.le_trans HN.out HA.out.lo) (fun ad had=>by have:=HAi.out ad had; have:=HA.out.lo; omega) hO10)
   clear hu1 hu2 hul
   have HCz:=hid (fun W W' hW hg=>((HSg.out W W' hW hg).cell 57).trans (bQ HPc.out gf s c len _ (fr+1) 4))
   have HFz:=hid (fun W W' hW hg=>(HSg.out W W' hW hg).frozen 57)
   obtain ⟨w8,hw8⟩:∃ w8,w2.drew=w8:=⟨_,rfl⟩
   have B8:=hid (show Below w2.heap.size w2 w8 by rw [<-hw8]; exact (Below.refl w2.heap.size w2).drew)
   have Hz8:=hid (show w2.heap.size=w8.heap.size by rw [<-hw8]; rfl)
   have Hw8:=hid hw8
   have X8:=hid (show w8.heap[w1.heap.size]? = some (.cells bl.toArray 195 (0,0)) from aF LB2.out B8.out)
   obtain ⟨w9,hw9⟩:∃ w9,w8.alloc (.cells bl.toArray 195)=w9:=⟨_,rfl⟩
   have B9:=hid (show Below w8.heap.size w8 w9 by rw [<-hw9]; exact aL w8 _)
   have Hz9:=hid (show w9.heap.size=w8.heap.size+1 by rw [<-hw9]; simp)
   have Hn9:=hid (show N<=w9.heap.size by have:=HNw.out; have:=Hz9.out; have:=Hz8.out; omega)
   have Ho9:=hid (show w9.ownsRow N 195 21 (.slice (some ⟨w8.heap.size,0,none⟩) 1 1) 1 bl by rw [<-hw9]; exact QK 195 Hbn.out (by have:=HNw.out; have:=Hz8.out; omega))
   have Hr9:=hid (HRow.out.later (aC B8.out B9.out))
   have Hcz:=hid (fun W' (hg:w9.grownBy W' (some w8.heap.size))=>HCz.out w9 W' (aC B8.out B9.out) (by rw [Hz8.out]; exact hg))
   have Hfz:=hid (fun W' (hg:w9.grownBy W' (some w8.heap.size))=>HFz.out w9 W' (aC B8.out B9.out) (by rw [Hz8.out]; exact hg))
   have Hx8:=hid (show w8.cell? ⟨gr,57,none⟩=some (.slice A m cap) from (B8.out.cell (p:=⟨gr,57,none⟩) R2.out.lt).trans z57)
   have Hx9:=hid (show w9.cell? ⟨gr,57,none⟩=some (.slice A m cap) from (B9.out.cell (p:=⟨gr,57,none⟩) (Nat.lt_of_lt_of_le R2.out.lt B8.out.size)).trans Hx8.out)
   have H9:=hid (show w9.heap[w8.heap.size]? = some (.cells bl.toArray 195 (0,0)) by rw [<-hw9]; exact heap_alloc_new w8 _)
   have Hw9:=hid hw9
   clear hw8 hw9 z57
   have hcs:(A=none/\m=0/\cap=0)\/∃ gA,A=some ⟨gA,0,none⟩:=by
    rcases Own2.out.2 with ⟨hv,hm0⟩ | ⟨gA,cp,cur,hv,_⟩
    ·injection hv with e1 e2 e3
     exact .inl ⟨e1,hm0,e3⟩
    ·injection hv with e1 _ e3
     exact .inr ⟨gA,e1⟩
   have t3z:min (0:Int) 3=0:=by decide
   have hrz:m=0->r=0:=fun h=>by omega
   rcases hcs with ⟨rfl,rfl,rfl⟩ | ⟨gA,rfl⟩
   rotate_left
   clear t3z
   rotate_left
   obtain rfl:=hrz rfl
   clear t3
   all_goals clear hrz
   all_goals
    refine wp_region_any (by kernel_rfl) ?_
    change wpAny _ _ _ _ _ _ _ (World.drew _)
    rw [Hw8.out]
    have x8:=Hx8.out
    have x9:=Hx9.out
    refine wpAny_take (i:=0) (v:=?_) rfl (by kernel_rfl) (by kernel_rfl) (by kernel_rfl) (fun _ _ _ h=>h) (Or.inl ⟨by rfl,?_⟩) ?_
    rotate_left
    ·intro w; go_simp; try (with_reducible rfl)
    simp only [Act.put,List.getElem_toArray,List.getElem_cons_zero,List.setIfInBounds_toArray,List.set_cons_succ,List.set_cons_zero]
    refine wpAny_take (i:=3) (v:=?_) rfl (by kernel_rfl) (by kernel_rfl) (by kernel_rfl) (fun _ _ _ h=>h) (Or.inl ⟨by rfl,?_⟩) ?_
    rotate_left
    ·intro w; go_simp; try (with_reducible rfl)
    simp only [Act.put,List.getElem_toArray,List.getElem_cons_succ,List.getElem_cons_zero,List.setIfInBounds_toArray,List.set_cons_succ,List.set_cons_zero]
    refine wpAny_take (i:=4) (v:=?_) rfl (by kernel_rfl) (by kernel_rfl) (by kernel_rfl) (fun _ _ _ h=>h) (Or.inl ⟨by rfl,?_⟩) ?_
    rotate_left
    ·intro w; go_simp; try (with_reducible rfl)
    simp only [Act.put,List.getElem_toArray,List.getElem_cons_succ,List.getElem_cons_zero,List.setIfInBounds_toArray,List.set_cons_succ,List.set_cons_zero]
    refine wpAny_take (i:=5) (v:=?_) rfl (by kernel_rfl) (by kernel_rfl) (by kernel_rfl) (fun _ _ _ h=>h) (Or.inl ⟨by rfl,?_⟩) ?_
    rotate_left
    ·intro w; go_simp; try (with_reducible rfl)
    simp only [Act.put,List.getElem_toArray,List.getElem_cons_succ,List.getElem_cons_zero,List.setIfInBounds_toArray,List.set_cons_succ,List.set_cons_zero]
    refine wpAny_take (i:=7) (v:=?_) rfl (by kernel_rfl) (by kernel_rfl) (by kernel_rfl) (fun _ _ _ h=>h) (Or.inl ⟨by rfl,?_⟩) ?_
    rotate_left
    ·intro w; go_simp; try (with_reducible rfl)
    simp only [Act.put,List.getElem_toArray,List.getElem_cons_succ,List.getElem_cons_zero,List.setIfInBounds_toArray,List.set_cons_succ,List.set_cons_zero]
    refine wpAny_take (i:=8) (v:=?_) rfl (by kernel_rfl) (by kernel_rfl) (by kernel_rfl) (fun _ _ _ h=>h) (Or.inl ⟨by rfl,?_⟩) ?_
    rotate_left
    ·intro w; go_simp; try (with_reducible rfl)
    simp only [Act.put,List.getElem_toArray,List.getElem_cons_succ,List.getElem_cons_zero,List.setIfInBounds_toArray,List.set_cons_succ,List.set_cons_zero]
    refine wpAny_take (i:=9) (v:=?_) rfl (by kernel_rfl) (by kernel_rfl) (by kernel_rfl) (fun _ _ _ h=>h) (Or.inl ⟨by rfl,?_⟩) ?_
    rotate_left
    ·intro w; go_simp; try (with_reducible rfl)
    simp only [Act.put,List.getElem_toArray,List.getElem_cons_succ,List.getElem_cons_zero,List.setIfInBounds_toArray,List.set_cons_succ,List.set_cons_zero]
   all_goals first | (refine wpAny_ready (rs:=[1,6,10]) (by decide +kernel) (by simp) ?_; refine AllReady.cons rfl (fun K hK=>?_) (AllReady.cons rfl (fun K hK=>?_) (AllReady.cons rfl (fun K hK=>?_) AllReady.nil)))
   all_goals
    first
    | refine wp_load_row 195 (.tmp 7) rfl w1.heap.size rfl 195 bl.toArray _ _ X8.out Tryz.underlying195 rfl HFb.out ?_
    | refine lT 105 195 (.tmp 63) rfl i0 z0 21 Tryz.underlying105 hi hz0 hi1 (by omega) (by omega) bl.toArray rfl Hbs.out ?_
    | go_simp
    refine hK _ _ ?_
    clear hK K
    try simp only [Act.put,List.getElem_toArray,List.getElem_cons_succ,List.getElem_cons_zero,List.setIfInBounds_toArray,List.set_cons_succ,List.set_cons_zero]
    try rw [Hw9.out]
    try
     refine wpAny_take (i:=11) (v:=?_) rfl (by kernel_rfl) (by decide +kernel) (by decide +kernel) (fun _ _ _ h=>h) (Or.inl ⟨by rfl,?_⟩) ?_
     rotate_left
     ·intro w; go_simp; try (with_reducible rfl)
     try simp only [Act.put,List.getElem_toArray,List.getElem_cons_succ,List.getElem_cons_zero,List.setIfInBounds_toArray,List.set_cons_succ,List.set_cons_zero]
     refine wpAny_take (i:=12) (v:=?_) rfl (by kernel_rfl) (by decide +kernel) (by decide +kernel) (fun _ _ _ h=>h) (Or.inl ⟨by rfl,?_⟩) ?_
     rotate_left
     ·intro w; go_simp; try (with_reducible rfl)
     try simp only [Act.put,List.getElem_toArray,List.getElem_cons_succ,List.getElem_cons_zero,List.setIfInBounds_toArray,List.set_cons_succ,List.set_cons_zero]
    try
     refine wpAny_take (i:=13) (v:=?_) rfl (by kernel_rfl) (by decide +kernel) (by decide +kernel) (fun _ _ _ h=>h) (Or.inl ⟨by rfl,?_⟩) ?_
     rotate_left
     ·intro w; go_simp; try (with_reducible rfl)
     try simp only [Act.put,List.getElem_toArray,List.getElem_cons_succ,List.getElem_cons_zero,List.setIfInBounds_toArray,List.set_cons_succ,List.set_cons_zero]
   all_goals first | (refine wpAny_ready (rs:=[1,6]) (by decide +kernel) (by simp) ?_; refine AllReady.cons rfl (fun K hK=>?_) (AllReady.cons rfl (fun K hK=>?_) AllReady.nil)) | (refine wpAny_ready (rs:=[1,10]) (by decide +kernel) (by simp) ?_; refine AllReady.cons rfl (fun K hK=>?_) (AllReady.cons rfl (fun K hK=>?_) AllReady.nil)) | (refine wpAny_ready (rs:=[2,6,10]) (by decide +kernel) (by simp) ?_; refine AllReady.cons rfl (fun K hK=>?_) (AllReady.cons rfl (fun K hK=>?_) (AllReady.cons rfl (fun K hK=>?_) AllReady.nil)))
   all_goals
    first
    | refine wp_load_row 195 (.tmp 7) rfl w1.heap.size rfl 195 bl.toArray _ _ X8.out Tryz.underlying195 rfl HFb.out ?_
    | refine lT 105 195 (.tmp 63) rfl i0 z0 21 Tryz.underlying105 hi hz0 hi1 (by omega) (by omega) bl.toArray rfl Hbs.out ?_
    | go_simp
    refine hK _ _ ?_
    clear hK K
    try simp only [Act.put,List.getElem_toArray,List.getElem_cons_succ,List.getElem_cons_zero,List.setIfInBounds_toArray,List.set_cons_succ,List.set_cons_zero]
    try rw [Hw9.out]
    try
     refine wpAny_take (i:=11) (v:=?_) rfl (by kernel_rfl) (by decide +kernel) (by decide +kernel) (fun _ _ _ h=>h) (Or.inl ⟨by rfl,?_⟩) ?_
     rotate_left
     ·intro w; go_simp; try (with_reducible rfl)
     try simp only [Act.put,List.getElem_toArray,List.getElem_cons_succ,List.getElem_cons_zero,List.setIfInBounds_toArray,List.set_cons_succ,List.set_cons_zero]
     refine wpAny_take (i:=12) (v:=?_) rfl (by kernel_rfl) (by decide +kernel) (by decide +kernel) (fun _ _ _ h=>h) (Or.inl ⟨by rfl,?_⟩) ?_
     rotate_left
     ·intro w; go_simp; try (with_reducible rfl)
     try simp only [Act.put,List.getElem_toArray,List.getElem_cons_succ,List.getElem_cons_zero,List.setIfInBounds_toArray,List.set_cons_succ,List.set_cons_zero]
    try
     refine wpAny_take (i:=13) (v:=?_) rfl (by kernel_rfl) (by decide +kernel) (by decide +kernel) (fun _ _ _ h=>h) (Or.inl ⟨by rfl,?_⟩) ?_
     rotate_left
     ·intro w; go_simp; try (with_reducible rfl)
     try simp only [Act.put,List.getElem_toArray,List.getElem_cons_succ,List.getElem_cons_zero,List.setIfInBounds_toArray,List.set_cons_succ,List.set_cons_zero]
   all_goals first | (refine wpAny_ready (rs:=[1]) (by decide +kernel) (by simp) ?_; refine AllReady.cons rfl (fun K hK=>?_) AllReady.nil) | (refine wpAny_ready (rs:=[2,6]) (by decide +kernel) (by simp) ?_; refine AllReady.cons rfl (fun K hK=>?_) (AllReady.cons rfl (fun K hK=>?_) AllReady.nil)) | (refine wpAny_ready (rs:=[2,10]) (by decide +kernel) (by simp) ?_; refine AllReady.cons rfl (fun K hK=>?_) (AllReady.cons rfl (fun K hK=>?_) AllReady.nil)) | (refine wpAny_ready (rs:=[6,10]) (by decide +kernel) (by simp) ?_; refine AllReady.cons rfl (fun K hK=>?_) (AllReady.cons rfl (fun K hK=>?_) AllReady.nil))
   all_goals
    first
    | refine wp_load_row 195 (.tmp 7) rfl w1.heap.size rfl 195 bl.toArray _ _ X8.out Tryz.underlying195 rfl HFb.out ?_
    | refine lT 105 195 (.tmp 63) rfl i0 z0 21 Tryz.underlying105 hi hz0 hi1 (by omega) (by omega) bl.toArray rfl Hbs.out ?_
    | go_simp
    refine hK _ _ ?_
    clear hK K
    try simp only [Act.put,List.getElem_toArray,List.getElem_cons_succ,List.getElem_cons_zero,List.setIfInBounds_toArray,List.set_cons_succ,List.set_cons_zero]
    try rw [Hw9.out]
    try
     refine wpAny_take (i:=11) (v:=?_) rfl (by kernel_rfl) (by decide +kernel) (by decide +kernel) (fun _ _ _ h=>h) (Or.inl ⟨by rfl,?_⟩) ?_
     rotate_left
     ·intro w; go_simp; try (with_reducible rfl)
     try simp only [Act.put,List.getElem_toArray,List.getElem_cons_succ,List.getElem_cons_zero,List.setIfInBounds_toArray,List.set_cons_succ,List.set_cons_zero]
     refine wpAny_take (i:=12) (v:=?_) rfl (by kernel_rfl) (by decide +kernel) (by decide +kernel) (fun _ _ _ h=>h) (Or.inl ⟨by rfl,?_⟩) ?_
     rotate_left
     ·intro w; go_simp; try (with_reducible rfl)
     try simp only [Act.put,List.getElem_toArray,List.getElem_cons_succ,List.getElem_cons_zero,List.setIfInBounds_toArray,List.set_cons_succ,List.set_cons_zero]
    try
     refine wpAny_take (i:=13) (v:=?_) rfl (by kernel_rfl) (by decide +kernel) (by decide +kernel) (fun _ _ _ h=>h) (Or.inl ⟨by rfl,?_⟩) ?_
     rotate_left
     ·intro w; go_simp; try (with_reducible rfl)
     try simp only [Act.put,List.getElem_toArray,List.getElem_cons_succ,List.getElem_cons_zero,List.setIfInBounds_toArray,List.set_cons_succ,List.set_cons_zero]
   all_goals first | (refine wpAny_ready (rs:=[2]) (by decide +kernel) (by simp) ?_; refine AllReady.cons rfl (fun K hK=>?_) AllReady.nil) | (refine wpAny_ready (rs:=[6]) (by decide +kernel) (by simp) ?_; refine AllReady.cons rfl (fun K hK=>?_) AllReady.nil) | (refine wpAny_ready (rs:=[10]) (by decide +kernel) (by simp) ?_; refine AllReady.cons rfl (fun K hK=>?_) AllReady.nil)
   all_goals
    first
    | refine wp_load_row 195 (.tmp 7) rfl w1.heap.size rfl 195 bl.toArray _ _ X8.out Tryz.underlying195 rfl HFb.out ?_
    | refine lT 105 195 (.tmp 63) rfl i0 z0 21 Tryz.underlying105 hi hz0 hi1 (by omega) (by omega) bl.toArray rfl Hbs.out ?_
    | go_simp
    refine hK _ _ ?_
    clear hK K
    try simp only [Act.put,List.getElem_toArray,List.getElem_cons_succ,List.getElem_cons_zero,List.setIfInBounds_toArray,List.set_cons_succ,List.set_cons_zero]
    try rw [Hw9.out]
    try
     refine wpAny_take (i:=11) (v:=?_) rfl (by kernel_rfl) (by decide +kernel) (by decide +kernel) (fun _ _ _ h=>h) (Or.inl ⟨by rfl,?_⟩) ?_
     rotate_left
     ·intro w; go_simp; try (with_reducible rfl)
     try simp only [Act.put,List.getElem_toArray,List.getElem_cons_succ,List.getElem_cons_zero,List.setIfInBounds_toArray,List.set_cons_succ,List.set_cons_zero]
     refine wpAny_take (i:=12) (v:=?_) rfl (by kernel_rfl) (by decide +kernel) (by decide +kernel) (fun _ _ _ h=>h) (Or.inl ⟨by rfl,?_⟩) ?_
     rotate_left
     ·intro w; go_simp; try (with_reducible rfl)
     try simp only [Act.put,List.getElem_toArray,List.getElem_cons_succ,List.getElem_cons_zero,List.setIfInBounds_toArray,List.set_cons_succ,List.set_cons_zero]
    try
     refine wpAny_take (i:=13) (v:=?_) rfl (by kernel_rfl) (by decide +kernel) (by decide +kernel) (fun _ _ _ h=>h) (Or.inl ⟨by rfl,?_⟩) ?_
     rotate_left
     ·intro w; go_simp; try (with_reducible rfl)
     try simp only [Act.put,List.getElem_toArray,List.getElem_cons_succ,List.getElem_cons_zero,List.setIfInBounds_toArray,List.set_cons_succ,List.set_cons_zero]
   all_goals
    refine wpAny_ready (rs:=[14]) (by kernel_rfl) (by simp) ?_
    refine AllReady.cons rfl (fun K hK=>?_) AllReady.nil
    refine aDm _ _ _ (by rfl) N 195 i0 z0 21 168 Tryz.underlying105 hi hz0 hi1 hi2 hz0s (by omega) (.slice (some ⟨w8.heap.size,0,none⟩) 1 1) 1 bl (by rfl) Ho9.out w9.heap.size _ _ _ (f4 F (ns.take 3)) (by rfl) HNew.out Hr9.out (fun u hu=>xN u hu) (by omega) (by omega) Hn9.out ?_
    intro A2 c2 wz hownz hgrz hatz hccz
    obtain ⟨g',c',hv,_,_,_,_⟩:=QL hownz (by omega)
    injection hv with e1 _ e3
    subst e1 e3
    have hgg:w8.heap.size<=g':=by
     have hz:=Hz9.out
     rcases hatz with h | h
     ·have:g'=w8.heap.size:=by simpa [Value.ownBlock] using h
      omega
     ·have:g'=w9.heap.size:=by simpa [Value.ownBlock] using h
      omega
    have cz:=Hcz.out _ hgrz
    have fz:=Hfz.out _ hgrz
    refine hK _ _ ?_
    clear hK K
    try simp only [Act.put,List.getElem_toArray,List.getElem_cons_succ,List.getElem_cons_zero,List.setIfInBounds_toArray,List.set_cons_succ,List.set_cons_zero]
    refine wpAny_take (i:=15) (v:=?_) rfl (by kernel_rfl) (by kernel_rfl) (by kernel_rfl) (fun _ _ _ h=>h) (Or.inl ⟨by rfl,?_⟩) ?_
    rotate_left
    ·intro w; go_simp; try (with_reducible rfl)
    simp only [Act.put,List.getElem_toArray,List.getElem_cons_succ,List.getElem_cons_zero,List.setIfInBounds_toArray,List.set_cons_succ,List.set_cons_zero]
    refine wpAny_take (i:=16) (v:=?_) rfl (by kernel_rfl) (by kernel_rfl) (by kernel_rfl) (fun _ _ _ h=>h) (Or.inl ⟨by rfl,?_⟩) ?_
    rotate_left
    ·intro w; go_simp; try (with_reducible rfl)
    simp only [Act.put,List.getElem_toArray,List.getElem_cons_succ,List.getElem_cons_zero,List.setIfInBounds_toArray,List.set_cons_succ,List.set_cons_zero]
    refine wpAny_ready (rs:=[17]) (by kernel_rfl) (by simp) ?_
    refine AllReady.cons rfl (fun K hK=>?_) AllReady.nil
    go_simp
    refine hK _ _ ?_
    clear hK K
    try simp only [Act.put,List.getElem_toArray,List.getElem_cons_succ,List.getElem_cons_zero,List.setIfInBounds_toArray,List.set_cons_succ,List.set_cons_zero]
    refine wpAny_done (by kernel_rfl) ?_ _
    go_wp2_with fail
    exact HEnd.out g' c2 _ _ w8.heap.size (aC B8.out B9.out) (by rw [Hz8.out]; exact Nat.le_refl _) H9.out hgrz hownz hgg
end
section
open Go.RowKit Go.Lib
def yV:List Value:=List.replicate 20 (.int .i64 0)
theorem KN (gf:Nat) (s c len:Int):Tryz.prog.built 107 [(1,.agg fA),(2,.pointer (some ⟨gf,0,none⟩)),(3,.int .i64 s),(4,.int .i64 c),(5,.int .i64 len)]=some (bT yV gf s c len (.slice none 0 0) 0).toArray:=by
 kernel_rfl
theorem nS {w:World} {gr gf:Nat} {s c len:Int} {kp:Value} {fr:Int} {pc:List Value} (h:Blk w gr 107 (bT pc gf s c len kp fr)) (hp:pc.length=20):Calls Tryz.prog 108 #[.pointer (some ⟨gr,0,none⟩)] w fun e w'=>e=.returned (.bool false)/\w=w':=by
 have x53:w.cell? ⟨gr,53,none⟩=some (.pointer (some ⟨gf,0,none⟩)):=(h.cell 53).trans (bQ hp gf s c len kp fr 0)
 clear h
 go_enter Tryz.func108,Tryz.ntmps108
 go_wp2
 go_ret
 exact ⟨rfl,rfl⟩
theorem GL {w:World} {gr gf:Nat} {s c len:Int} {kp:Value} {fr:Int} {pc:List Value} (h:Blk w gr 107 (bT pc gf s c len kp fr)) (hp:pc.length=20):Calls Tryz.prog 48 #[.pointer (some ⟨gr,0,none⟩)] w fun e w'=>e=.returned (.int .i64 len)/\w=w':=by
 have HN:=hid (nS h hp)
 have x56:w.cell? ⟨gr,56,none⟩=some (.int .i64 len):=(h.cell 56).trans (bQ hp gf s c len kp fr 3)
 clear h
 go_enter Tryz.func48,Tryz.ntmps48
 go_wp2_with (go_at_call 108; refine HN.out.mono ?_; rintro e w' ⟨rfl,rfl⟩)
 go_ret
 exact ⟨rfl,rfl⟩
theorem GK {w:World} {gr gf:Nat} {s c len:Int} {kp:Value} {fr:Int} {pc:List Value} (h:Blk w gr 107 (bT pc gf s c len kp fr)) (hp:pc.length=20):Calls Tryz.prog 45 #[.pointer (some ⟨gr,0,none⟩)] w fun e w'=>e=.returned (.int .i64 fr)/\w=w':=by
 have HN:=hid (nS h hp)
 have x59:w.cell? ⟨gr,59,none⟩=some (.int .i64 fr):=(h.cell 59).trans (bQ hp gf s c len kp fr 6)
 clear h
 go_enter Tryz.func45,Tryz.ntmps45
 go_wp2_with (go_at_call 108; refine HN.out.mono ?_; rintro e w' ⟨rfl,rfl⟩)
 go_ret
 exact ⟨rfl,rfl⟩
def MY (w:World) (size:Nat) (SS:List SampV) (gf:Nat) (s c:Int) (e:Ending) (w':World):Prop :=
 Below w.heap.size w w'/\((jJ (aH size SS) s ≠ 0/\e=.returned (.tuple #[.pointer none,.int .i64 (jJ (aH size SS) s)])) \/
  (jJ (aH size SS) s=0/\(c < 0\/(fK (aH size SS) s).channels<=c)/\e=.returned (.tuple #[.pointer none,.int .i64 5])) \/
  (jJ (aH size SS) s=0/\0<=c/\c < (fK (aH size SS) s).channels/\∃ gr,e=.returned (.tuple #[.pointer (some ⟨gr,0,none⟩),.int .i64 0])/\w.heap.size<=gr/\Blk w' gr 107 (bT yV gf s c (fK (aH size SS) s).length (.slice none 0 0) 0)))
theorem TS {SS:List SampV} {wB w:World} {size gx gc gd gs gf:Nat} {Ai:Option Addr} {gm K:Nat} {rd:Int} {v:CacheV} {ff:Int} (hC:CanP size SS) (h:FetchOk wB w (bG size SS) size (aH size SS) gx gc gd gs gf Ai gm K rd v ff 0) (s c:Int) :
  Calls Tryz.prog 42 #[.pointer (some ⟨gf,0,none⟩),.int .i64 s,.int .i64 c] w (MY w size SS gf s c):=by
 obtain ⟨TP,hTP⟩:∃ TP,MY w size SS gf s c=TP:=⟨_,rfl⟩
 have HP:=hid (show ∀ e w',MY w size SS gf s c e w'->TP e w' from fun _ _ h=>hTP ▸ h)
 rw [hTP]
 unfold MY at HP
 have HBk:=hid (fun W (hW:Below w.heap.size w W)=>GM (h.head.below hW h.head.lt))
 have HMe:=hid (ID gx size (bG size SS) (aH size SS) s w h.bankAt (by have:=hC.lo; omega) (by rw [fO]; have:=hC.many; omega))
 have HL:=hid EC
 clear hTP
 generalize aH size SS=D at *
 obtain ⟨ME,hME⟩:∃ ME,jJ D s=ME:=⟨_,rfl⟩
 obtain ⟨pm,hpm⟩:∃ pm,fK D s=pm:=⟨_,rfl⟩
 obtain ⟨nm,ml,rate,ch,lp,f,t,s0,f0⟩:=pm
 rw [hME,hpm] at HP HMe
 simp only [MetaV.cells] at HMe HP
 have HT:=hid (KN gf s c ml)
 obtain ⟨cl,hcl⟩:∃ cl,bT yV gf s c ml (.slice none 0 0) 0=cl:=⟨_,rfl⟩
 rw [hcl] at HT HP
 generalize fA=lv at *
 clear h hC hME hpm hcl
 by_cases hE:ME=0
 ·subst hE
  by_cases hc:c < 0\/ch<=c
  ·have Hc:=hid hc
   have d1:(c < 0/\decide (c < 0)=true)\/(¬ c < 0/\decide (c < 0)=false/\ch<=c/\decide (ch<=c)=true):=by
    by_cases h1:c < 0
    ·exact .inl ⟨h1,decide_eq_true h1⟩
    ·exact .inr ⟨h1,decide_eq_false h1,by omega,decide_eq_true (by omega)⟩
   clear hc
   rcases d1 with ⟨t1,t2⟩ | ⟨t1,t2,t3,t4⟩
   all_goals
    go_enter Tryz.func42,Tryz.ntmps42
    go_wp2_with (first | (go_at_call 24; refine (HBk.out _ (Below.refl _ _)).mono ?_; rintro e w' ⟨rfl,rfl⟩) | (go_at_call 31; fail))
    refine HMe.out.mono ?_
    rintro e w1 ⟨rfl,hb1⟩
    have B2:=hid (aC hb1 (aL w1 (.cells #[.string nm,.int .i64 ml,.int .i64 rate,.int .i64 ch,.bool lp,.int .i64 f,.int .i64 t,.int .i64 s0,.int .i64 f0] 37)))
    go_wp2_with (go_at_call 24; refine (HBk.out _ B2.out).mono ?_; rintro e w' ⟨rfl,rfl⟩)
    exact HP.out _ _ ⟨B2.out,.inr (.inl ⟨by trivial,Hc.out,rfl⟩)⟩
  ·have Hc:=hid (show 0<=c/\c < ch by omega)
   have t1:¬ c < 0:=by omega
   have t2:decide (c < 0)=false:=decide_eq_false t1
   have t3:¬ ch<=c:=by omega
   have t4:decide (ch<=c)=false:=decide_eq_false t3
   clear hc
   go_enter Tryz.func42,Tryz.ntmps42
   go_wp2_with (first | (go_at_call 24; refine (HBk.out _ (Below.refl _ _)).mono ?_; rintro e w' ⟨rfl,rfl⟩) | (go_at_call 31; fail))
   refine HMe.out.mono ?_
   rintro e w1 ⟨rfl,hb1⟩
   obtain ⟨w2,hw2⟩:∃ w2,w1.alloc (.cells #[.string nm,.int .i64 ml,.int .i64 rate,.int .i64 ch,.bool lp,.int .i64 f,.int .i64 t,.int .i64 s0,.int .i64 f0] 37)=w2:=⟨_,rfl⟩
   have B2:=hid (show Below w.heap.size w w2 by rw [<-hw2]; exact aC hb1 (aL w1 _))
   have X2:=hid (show Blk w2 w1.heap.size 37 [.string nm,.int .i64 ml,.int .i64 rate,.int .i64 ch,.bool lp,.int .i64 f,.int .i64 t,.int .i64 s0,.int .i64 f0] by rw [<-hw2]; exact Blk.new w1 _ _)
   have y3:w2.cell? ⟨w1.heap.size,3,none⟩=some (.int .i64 ch):=X2.out.cell 3
   clear hb1 HMe
   go_wp2_with (go_at_call 24; refine (HBk.out _ B2.out).mono ?_; rintro e w' ⟨rfl,rfl⟩)
   have x1:=fun (z:GW w2)=>(show z.1.cell? ⟨w1.heap.size,1,none⟩=some (.int .i64 ml) from (z.2.cell (p:=⟨w1.heap.size,1,none⟩) X2.out.lt).trans (X2.out.cell 1))
   refine aI 6 (by kernel_rfl) (by kernel_rfl) ?_
   simp only [List.take_succ_cons,List.take_zero,List.drop_succ_cons,List.drop_zero]
   repeat (go_big_quiet_step ((go_at_call 107; exact bZ (HL.out _))))
   refine wpQuiet_nil ?_
   intro w3 hw'
   have B3:=hid (aC B2.out (aK hw'))
   clear hw' x1 hw2
   go_wp2_with (refine cX rfl 107 _ rfl cl.toArray (by simpa [Act.eval,Act.put] using HT.out) ?_)
   exact HP.out _ _ ⟨aC B3.out (aL w3 _),.inr (.inr ⟨by trivial,Hc.out.1,Hc.out.2,w3.heap.size,rfl,B3.out.size,Blk.new w3 _ _⟩)⟩
 ·have t1:(ME != 0)=true:=by rw [bne_iff_ne]; exact hE
  have t2:(ME == 0)=false:=beq_eq_false_iff_ne.2 hE
  have HE:=hid hE
  clear hE
  go_enter Tryz.func42,Tryz.ntmps42
  go_wp2_with (first | (go_at_call 24; refine (HBk.out _ (Below.refl _ _)).mono ?_; rintro e w' ⟨rfl,rfl⟩) | (go_at_call 31; fail))
  refine HMe.out.mono ?_
  rintro e w1 ⟨rfl,hb1⟩
  have B2:=hid (aC hb1 (aL w1 (.cells #[.string nm,.int .i64 ml,.int .i64 rate,.int .i64 ch,.bool lp,.int .i64 f,.int .i64 t,.int .i64 s0,.int .i64 f0] 37)))
  go_wp2_with (go_at_call 24; refine (HBk.out _ B2.out).mono ?_; rintro e w' ⟨rfl,rfl⟩)
  exact HP.out _ _ ⟨B2.out,.inl ⟨HE.out,rfl⟩⟩
end
section
open Go.RowKit Go.Lib
theorem sO {size:Nat} {SS:List SampV} (hC:CanP size SS) {m k n:Nat} {S:SampV} {d:List Int} (hs:SS[m]? = some S) (hd:S.rows[k]? = some d) (hn:n < aV d.length) :
  bW (aH size SS) m k n=0/\(cO d size)[n]? = some (mU size SS m k n)/\RightF (mU size SS m k n):=by
 obtain ⟨x,hx⟩:∃ x,(cO d size)[n]? = some x:=⟨_,List.getElem?_eq_getElem (by rw [f7]; exact hn)⟩
 obtain ⟨q1,q2,q3,q4⟩:=hC.opened hs hd hx
 obtain ⟨p1,p2,p3⟩:=hC.had q1
 have e:mU size SS m k n=x:=by
  unfold mU tG
  rw [if_pos q1,<-p2,q2,q4]
 refine ⟨q1,by rw [e]; exact hx,?_⟩
 rw [e]
 exact (eS ((hC.fine S (List.mem_of_getElem? hs)).good.2 d (List.mem_of_getElem? hd)).2 (size:=(size:Int)) (by have:=hC.lo; omega) (by have:=hC.hi; omega) x (List.mem_of_getElem? hx)).1
def atV (F:Nat->FrameV) (len:Nat) (at_:Int):Int:=if 0<=at_/\at_ < len then atZ F len at_.toNat else 0
def atN (len:Nat) (at_:Int) (ns:List Nat):List Nat:=if 0<=at_/\at_ < len then kT (nD at_.toNat (aV len)) (kT (kY at_.toNat) ns) else ns
def atM (len:Nat) (at_:Int) (ns:List Nat):Nat:=if 0<=at_/\at_ < len then iC (kY at_.toNat) ns+iC (nD at_.toNat (aV len)) (kT (kY at_.toNat) ns) else 0
theorem aBN (n:Nat) (ns:List Nat):iC n ns<=1:=by unfold iC; split <;> omega
theorem U5 {k len:Nat} (h:k < len):kY k < aV len/\nD k (aV len) < aV len/\(k / 16=kY k\/k / 16=nD k (aV len))/\k / 16 < aV len:=by
 unfold kY nD aV
 obtain ⟨a,ha⟩:∃ a,k / 16=a:=⟨_,rfl⟩
 obtain ⟨c,hc⟩:∃ c,(len+15) / 16=c:=⟨_,rfl⟩
 have hac:a < c:=by omega
 rw [ha,hc]
 by_cases h8:k % 16 < 8
 ·rw [if_pos h8,if_pos h8]
  exact ⟨by omega,by omega,.inr rfl,hac⟩
 ·rw [if_neg h8,if_neg h8]
  exact ⟨hac,by omega,.inl rfl,hac⟩
theorem aDN {xs:List Int} {M N:Int} (h:BdL M xs) (hl:xs.length=16) (hN:M<=N):∀ j,j < 16->-N<=bgt xs j/\bgt xs j<=N:=fun j hj=>by
 have:=h j (by omega)
 omega
theorem D6 (f:FrameV):∀ j,j < 16->-1099511627776<=bgt (kJ (cD f)) j/\bgt (kJ (cD f)) j<=1099511627776 :=
 aDN (aC1 (M:=2147483648) (N:=12884901948) (i7 f) (fun j hj=>QX f (by rw [i7] at hj; exact hj)) (by omega) (by omega)) (lH _) (by omega)
theorem aCz {w:World} {g:Nat} {f:FrameV} {n:Int} (h:∀ j v,(dH f n)[j]? = some v->w.cell? ⟨g,j,none⟩=some v) (hg:g < w.heap.size):SixAt w g 1 (kJ (cD f)):=by
 refine ⟨lH _,hg,fun j hj=>h (1+j) _ ?_⟩
 unfold dH
 have hl:=lH (cD f)
 rw [show 1+j=j+1 by omega,List.getElem?_cons_succ,List.getElem?_append_left (by rw [List.length_map]; omega),List.getElem?_map,sR (by omega)]
 rfl
theorem aA9 {w:World} {g:Nat} {f:FrameV} {n:Int} (h:∀ j v,(dH f n)[j]? = some v->w.cell? ⟨g,j,none⟩=some v):∀ (j:Nat) v,(f.gains.map (Value.int .i64))[j]? = some v->w.cell? ⟨g,17+j,none⟩=some v:=fun j v hv=>by
 refine h (17+j) v ?_
 unfold dH
 have hl:=lH (cD f)
 rw [show 17+j=(16+j)+1 by omega,List.getElem?_cons_succ,List.getElem?_append_right (by rw [List.length_map]; omega),List.length_map,hl,show 16+j - 16=j by omega]
 exact hv
theorem NY {pc:List Value} (h:pc.length=20) (gf:Nat) (s c len:Int) (kp:Value) (fr:Int) {j:Nat} {v:Value} (hv:fA.toList[j]? = some v):(bT pc gf s c len kp fr)[21+j]? = some v:=by
 have hj:j < 32:=by have:=(List.getElem?_eq_some_iff.1 hv).1; rwa [iI] at this
 unfold bT
 rw [List.getElem?_append_right (by omega),h,show 21+j - 20=j+1 by omega,List.getElem?_cons_succ,List.getElem?_append_left (by rw [iI]; omega)]
 exact hv
theorem D7 {w:World} {N g cap n:Nat} {F:Nat->FrameV} {ns:List Nat} (hF:(F n).Len) (h:w.ownsRow N 195 21 (.slice (some ⟨g,0,none⟩) (n :: ns).length cap) (n :: ns).length (f4 F (n :: ns))):∀ (j:Nat) v,(dH (F n) (n:Int))[j]? = some v->w.cell? ⟨g,j,none⟩=some v:=fun j v hv=>by
 obtain ⟨old,hg,hl,ht,_⟩:=XD h
 have hj:j < 21:=by have:=(List.getElem?_eq_some_iff.1 hv).1; rwa [gO hF] at this
 refine (Blk.cell hg j).trans ?_
 have h1:(f4 F (n :: ns))[j]? = some v:=by
  rw [eY,List.getElem?_append_left (by rw [gO hF]; exact hj)]
  exact hv
 rw [<-ht,List.getElem?_take,if_pos (by rw [List.length_cons]; omega)] at h1
 exact h1
theorem J7 (n:Nat) (ns:List Nat):∃ r,kT n ns=n :: r:=by
 unfold kT
 split
 ·exact ⟨_,rfl⟩
 ·exact ⟨_,rfl⟩
theorem VM {f:FrameV} (h:RightF f):GainB f.gains:=by
 refine ⟨h.gains.1,?_⟩
 unfold gY
 rw [List.all_eq_true]
 intro x hx
 obtain ⟨j,hj⟩:=List.mem_iff_getElem?.1 hx
 have:=h.gains.2 j (by have:=(List.getElem?_eq_some_iff.1 hj).1; have:=h.gains.1; omega)
 rw [aD hj] at this
 unfold inB
 simp
 omega
theorem OnlyIn.transNew {S T:List Nat} {a b c:World} (h:OnlyIn S a b) (k:OnlyIn T b c) (hT:∀ x ∈ T,x ∈ S\/a.heap.size<=x):OnlyIn S a c :=
 ⟨k.os.trans h.os,k.tape.trans h.tape,k.output.trans h.output,Nat.le_trans h.size k.size,fun j h1 h2=>(k.block j (Nat.lt_of_lt_of_le h1 h.size) (fun hm=>by
  rcases hT j hm with h3 | h3
  ·exact h2 h3
  ·omega)).trans (h.block j h1 h2)⟩
def AtP (wB w:World) (size:Nat) (SS:List SampV) (gx gc gd gs gf:Nat) (Ai:Option Addr) (gm K:Nat) (ff:Int) (N gr:Nat) (m k len:Nat) (A:Option Addr) (ns:List Nat) (fr:Int) (at_:Int) (e:Ending) (w':World):Prop :=
 e=.returned (.int .i64 (atV (mU size SS m k) len at_))/\∃ A' cap' pc',CurAt w' N (mU size SS m k) gr gf m k len A' cap' (atN len at_ ns) (fr+(atM len at_ ns:Nat)) pc'/\(A'=A\/∀ ad,A'=some ad->w.heap.size<=ad.block) /\
  OnlyIn (gc :: gs :: gd :: gf :: gr :: rO A) w w'/\∃ rd' v',FetchOk wB w' (bG size SS) size (aH size SS) gx gc gd gs gf Ai gm (K+194) rd' v' (ff+(atM len at_ ns:Nat)) 0
theorem aBd {SS:List SampV} {wB w:World} {size gx gc gd gs gf:Nat} {Ai:Option Addr} {gm K:Nat} {rd:Int} {v:CacheV} {ff:Int} {N gr m k:Nat} {A:Option Addr} {cap:Nat} {ns:List Nat} {fr:Int} {pc:List Value} (hC:CanP size SS) {S:SampV} {d:List Int} (hs:SS[m]? = some S) (hd:S.rows[k]? = some d)
  (h:FetchOk wB w (bG size SS) size (aH size SS) gx gc gd gs gf Ai gm K rd v ff 0) (hA:CurAt w N (mU size SS m k) gr gf m k d.length A cap ns fr pc) (hns:ns.length<=4) (hK:K+194<=1000000000000000) (hfr:0<=fr/\fr+1<=1000000000000000)
  (hN:wB.heap.size<=N) (hAi:∀ ad,Ai=some ad->ad.block < N) (hl:d.length<=1048576) (q:Nat) (hq:q < d.length) :
  Calls Tryz.prog 44 #[.pointer (some ⟨gr,0,none⟩),.int .i64 q] w (AtP wB w size SS gx gc gd gs gf Ai gm K ff N gr m k d.length A ns fr q):=by
 obtain ⟨hn1,hn2,hn3,hn4⟩:=U5 hq
 have HB1:=hid (IR hC h hA hns (by omega) (by omega) (kY q) (sO hC hs hd hn1).1 (sO hC hs hd hn1).2.2 hN hAi)
 unfold xG at HB1
 have HB2:=hid (fun W (K':Nat) rd' v' ff' A' cap' ns' fr' pc' h' hA' h1 h2 h3=>IR (wB:=wB) (w:=W) (gx:=gx) (gc:=gc) (gd:=gd) (gs:=gs) (gf:=gf) (Ai:=Ai) (gm:=gm) (K:=K') (rd:=rd') (v:=v') (ff:=ff') (N:=N) (gr:=gr) (s:=m) (c:=k) (len:=d.length) (A:=A') (cap:=cap') (ns:=ns') (fr:=fr') (pc:=pc') hC h' hA' h1 h2 h3 (nD q (aV d.length)) (sO hC hs hd hn2).1 (sO hC hs hd hn2).2.2 hN hAi)
 unfold xG at HB2
 have HNd:=hid (fun W=>PG q (aV d.length) W (by unfold aV; omega) (by unfold aV; omega))
 have HCn:=hid (fun W=>xI d.length W (by omega))
 have HG:=hid (fun n (hn:n < aV d.length)=>VM (sO hC hs hd hn).2.2)
 have HF:=hid (fun n=>NV size SS m k n)
 obtain ⟨TP,hTP⟩:∃ TP,AtP wB w size SS gx gc gd gs gf Ai gm K ff N gr m k d.length A ns fr q=TP:=⟨_,rfl⟩
 have HP:=hid (show ∀ e w',AtP wB w size SS gx gc gd gs gf Ai gm K ff N gr m k d.length A ns fr q e w'->TP e w' from fun _ _ h=>hTP ▸ h)
 rw [hTP]
 unfold AtP at HP
 have hV:atV (mU size SS m k) d.length q=atZ (mU size SS m k) d.length q:=by unfold atV; rw [if_pos (by omega),Int.toNat_natCast]
 have hNs:atN d.length q ns=kT (nD q (aV d.length)) (kT (kY q) ns):=by unfold atN; rw [if_pos (by omega),Int.toNat_natCast]
 have hMs:atM d.length q ns=iC (kY q) ns+iC (nD q (aV d.length)) (kT (kY q) ns):=by unfold atM; rw [if_pos (by omega),Int.toNat_natCast]
 unfold atZ at hV
 rw [hV,hNs,hMs] at HP
 clear hV hNs hMs
 clear hTP
 generalize bG size SS=bs at *
 generalize aH size SS=D at *
 generalize mU size SS m k=F at *
 generalize hlen:d.length=len at *
 generalize hcnt:aV len=cnt at *
 generalize hn1e:kY q=n1 at *
 generalize hn2e:nD q cnt=n2 at *
 generalize hnq:q / 16=nq at *
 generalize hiq:q % 16=iq at *
 have hi16:iq < 16:=by omega
 have c55:w.cell? ⟨gr,57,none⟩=some (.slice A ns.length cap):=(hA.head.cell 57).trans (bQ hA.pcl gf m k len _ fr 4)
 have c56:w.cell? ⟨gr,56,none⟩=some (.int .i64 len):=(hA.head.cell 56).trans (bQ hA.pcl gf m k len _ fr 3)
 have HNo:=hid (nS hA.head hA.pcl)
 have t1:¬ (q:Int) < 0:=by omega
 have t2:¬ (len:Int)<=(q:Int):=by omega
 have t3:(q:Int).tdiv 16=(nq:Int):=by rw [<-hnq]; rfl
 have t4:(q:Int).tmod 16=(iq:Int):=by rw [<-hiq]; rfl
 have t5:IntKind.i64.wrap (nq:Int)=(nq:Int):=IntWalk.i64_in _ (by omega)
 have t6:IntKind.i64.wrap (iq:Int)=(iq:Int):=IntWalk.i64_in _ (by omega)
 have HA:=hid hA
 have HH:=hid h
 have Hn:=hid hns
 have Hq:=hid (show n1 < cnt/\n2 < cnt/\(nq=n1\/nq=n2)/\nq < cnt from ⟨hn1,hn2,hn3,hn4⟩)
 have HKf:=hid (show K+194<=1000000000000000/\(0<=fr/\fr+1<=1000000000000000) from ⟨hK,hfr⟩)
 have Hiq:=hid hi16
 clear hA h hns hK hfr hN hAi hl hq hn1 hn2 hn3 hn4 hnq hiq hn1e hn2e hcnt hlen hs hd hC hi16 c55
 go_enter Tryz.func44,Tryz.ntmps44
 go_wp2_with (first | (go_at_call 108; refine HNo.out.mono ?_; rintro e w' ⟨rfl,rfl⟩) | (go_at_call 90; refine (HCn.out _).mono ?_; rintro e w' ⟨rfl,rfl⟩) | (go_at_call 109; refine (HNd.out _).mono ?_; rintro e w' ⟨rfl,rfl⟩) | (go_at_call 110; fail))
 refine HB1.out.mono ?_
 rintro e w1 ⟨g1,cp1,pc1,rfl,hA1,hg1,hO1,rd1,v1,hK1⟩
 obtain ⟨r1,hr1⟩:=J7 n1 ns
 have hl1:=aCo (n:=n1) Hn.out
 have X1:=hid (show ∀ (j:Nat) v,(dH (F n1) (n1:Int))[j]? = some v->w1.cell? ⟨g1,j,none⟩=some v from by
  have ho:=hA1.own
  rw [hr1] at ho
  exact D7 (HF.out n1) ho)
 have A1:=hid hA1
 have K1:=hid hK1
 have O1:=hid hO1
 have G1:=hid hg1
 have hb1:=gO (HF.out n1) (n1:Int)
 have Hb1:=hid (oO (F n1) (n1:Int))
 have Hba1:=hid (show (dH (F n1) (n1:Int)).toArray.all (·.oneCell')=true by
  rw [Array.all_eq_true_iff_forall_mem]
  intro v hv
  exact Hb1.out v (by simpa using hv))
 have Hbs1:=hid (show (dH (F n1) (n1:Int)).toArray.size=21 by rw [List.size_toArray,hb1])
 have HFb1:=hid (show (Tryz.prog.info? 195).map (·.size)=some (dH (F n1) (n1:Int)).toArray.size by rw [List.size_toArray,hb1]; exact eZ)
 have HFl1:=hid (show (Tryz.prog.info? 195).map (·.size)=some (dH (F n1) (n1:Int)).length by rw [hb1]; exact eZ)
 have XL1:=hid (show ∀ (j:Nat) v,(dH (F n1) (n1:Int))[j]? = some v->w1.cell? ⟨g1,0+j,none⟩=some v from fun j v hv=>by rw [Nat.zero_add]; exact X1.out j v hv)
 obtain ⟨w2,hw2⟩:∃ w2,w1.alloc (.cells (dH (F n1) (n1:Int)).toArray 195)=w2:=⟨_,rfl⟩
 have B2:=hid (show Below w1.heap.size w1 w2 by rw [<-hw2]; exact aL w1 _)
 have L2:=hid (show Blk w2 w1.heap.size 195 (dH (F n1) (n1:Int)) by rw [<-hw2]; exact Blk.new w1 _ _)
 have Hw2:=hid hw2
 have HB2':=hid (HB2.out w2 (K+97) rd1 v1 _ _ cp1 (kT n1 ns) _ pc1 (K1.out.later B2.out) (A1.out.later B2.out) hl1.1 (by have:=HKf.out; omega) (by have:=HKf.out; have:=aBN n1 ns; omega))
 have Gg1:=hid (show g1 < w1.heap.size from wM A1.out.own g1 rfl)
 clear hA1 hK1 hO1 hg1 hb1 hw2 HB1 HB2 hr1 hl1
 go_wp2_with (first | (refine aN rfl 195 (.tmp 46) rfl g1 0 rfl (dH (F n1) (n1:Int)) _ XL1.out Tryz.underlying195 rfl HFl1.out ?_) | (refine aA rfl 195 (.tmp 10) (.tmp 47) rfl w1.heap.size rfl _ _ (dH (F n1) (n1:Int)).toArray rfl (heap_alloc_new w1 _) HFb1.out (by rw [Hbs1.out]; rfl) Hba1.out ?_; rw [World.setRow_alloc_new,Hw2.out]) | (go_at_call 110; fail))
 refine HB2'.out.mono ?_
 rintro e w3 ⟨g2,cp2,pc2,rfl,hA3,hg3,hO3,rd3,v3,hK3⟩
 obtain ⟨r2,hr2⟩:=J7 n2 (kT n1 ns)
 have X3:=hid (show ∀ (j:Nat) v,(dH (F n2) (n2:Int))[j]? = some v->w3.cell? ⟨g2,j,none⟩=some v from by
  have ho:=hA3.own
  rw [hr2] at ho
  exact D7 (HF.out n2) ho)
 have A3:=hid hA3
 have K3:=hid hK3
 have O3:=hid hO3
 have G3:=hid hg3
 have hb2:=gO (HF.out n2) (n2:Int)
 have Hb2:=hid (oO (F n2) (n2:Int))
 have Hba2:=hid (show (dH (F n2) (n2:Int)).toArray.all (·.oneCell')=true by
  rw [Array.all_eq_true_iff_forall_mem]
  intro v hv
  exact Hb2.out v (by simpa using hv))
 have Hbs2:=hid (show (dH (F n2) (n2:Int)).toArray.size=21 by rw [List.size_toArray,hb2])
 have HFb2:=hid (show (Tryz.prog.info? 195).map (·.size)=some (dH (F n2) (n2:Int)).toArray.size by rw [List.size_toArray,hb2]; exact eZ)
 have HFl2:=hid (show (Tryz.prog.info? 195).map (·.size)=some (dH (F n2) (n2:Int)).length by rw [hb2]; exact eZ)
 have XL2:=hid (show ∀ (j:Nat) v,(dH (F n2) (n2:Int))[j]? = some v->w3.cell? ⟨g2,0+j,none⟩=some v from fun j v hv=>by rw [Nat.zero_add]; exact X3.out j v hv)
 have L3:=hid (show Blk w3 w1.heap.size 195 (dH (F n1) (n1:Int)) from hO3.heap L2.out (by
  have h1:=K1.out.cache.lts
  have h2:=K1.out.head.lt
  have h3:=A1.out.head.lt
  have h4:=Gg1.out
  simp only [rO,List.mem_cons,List.not_mem_nil,or_false]
  omega))
 obtain ⟨w4,hw4⟩:∃ w4,w3.alloc (.cells (dH (F n2) (n2:Int)).toArray 195)=w4:=⟨_,rfl⟩
 have B4:=hid (show Below w3.heap.size w3 w4 by rw [<-hw4]; exact aL w3 _)
 have Lb:=hid (show Blk w4 w3.heap.size 195 (dH (F n2) (n2:Int)) by rw [<-hw4]; exact Blk.new w3 _ _)
 have La:=hid (L3.out.below B4.out L3.out.lt)
 have D4:=hid (A3.out.head.below B4.out A3.out.head.lt)
 have Hp4:=hid A3.out.pcl
 have Hw4:=hid hw4
 have XLap:=hid (show ∀ W,(∃ x:GW w4,W=x.1)->∀ (j:Nat) v,fA.toList[j]? = some v->W.cell? ⟨gr,21+j,none⟩=some v from by
  rintro _ ⟨z,rfl⟩ j v hv
  exact (z.2.cell (p:=⟨gr,21+j,none⟩) D4.out.lt).trans ((D4.out.cell (21+j)).trans (NY Hp4.out _ _ _ _ _ _ hv))) 
 have HFlap:=hid (show (Tryz.prog.info? 104).map (·.size)=some fA.toList.length by rw [iI]; kernel_rfl)
 have HSix:=hid (fun (W:World) (g n:Nat) (hb:Blk W g 195 (dH (F n) (n:Int)))=>aCz (f:=F n) (n:=(n:Int)) (fun j v hv=>(hb.cell j).trans hv) hb.lt)
 have HGn:=hid (fun (W:World) (g n:Nat) (hb:Blk W g 195 (dH (F n) (n:Int)))=>aA9 (f:=F n) (n:=(n:Int)) (fun j v hv=>(hb.cell j).trans hv))
 have HSat:=hid (fun v W=>(show Calls Tryz.prog 111 #[.int .i64 v] W fun e w'=>e=.returned (.int .i64 (VO v))/\Below W.heap.size W w' from (aCv v W).mono (by rintro e w' ⟨rfl,rfl⟩; exact ⟨rfl,Below.refl _ _⟩)))
 have HF4:=hid (fun n=>(show (Tryz.prog.info? 45).map (·.size)=some ((F n).gains.map (Value.int .i64)).length from by rw [List.length_map,(HF.out n).g]; exact bY))
 have HEnd:=hid (show ∀ w5,Below w3.heap.size w3 w5->CurAt w5 N F gr gf m k len (some ⟨g2,0,none⟩) cp2 (kT n2 (kT n1 ns)) (fr+((iC n1 ns+iC n2 (kT n1 ns):Nat):Int)) pc2/\(some ⟨g2,0,none⟩=A\/∀ ad,some (⟨g2,0,none⟩:Addr)=some ad->w.heap.size<=ad.block)/\OnlyIn (gc :: gs :: gd :: gf :: gr :: rO A) w w5 /\
   ∃ rd' v',FetchOk wB w5 bs size D gx gc gd gs gf Ai gm (K+194) rd' v' (ff+((iC n1 ns+iC n2 (kT n1 ns):Nat):Int)) 0 from fun w5 h5=>by
  have s1:=O1.out.size
  have s2:=B2.out.size
  refine ⟨?_,?_,?_,rd3,v3,?_⟩
  ·have:=A3.out.later h5
   rwa [show fr+((iC n1 ns:Nat):Int)+((iC n2 (kT n1 ns):Nat):Int)=fr+((iC n1 ns+iC n2 (kT n1 ns):Nat):Int) by push_cast; omega] at this
  ·rcases G3.out with h | h
   ·rcases G1.out with h' | h'
    ·exact .inl (by rw [h',h])
    ·refine .inr fun ad had=>?_
     rw [<-h] at had
     injection had with had
     rw [<-had]
     exact h'
   ·refine .inr fun ad had=>?_
    injection had with had
    rw [<-had]
    exact Nat.le_trans (Nat.le_trans s1 s2) h
  ·refine ((O1.out.trans (OnlyIn.of_below _ B2.out)).transNew O3.out (fun x hx=>?_)).trans (OnlyIn.of_below _ h5)
   simp only [List.mem_cons,rO,List.not_mem_nil,or_false] at hx ⊢
   rcases hx with h | h | h | h | h | h
   ·exact .inl (.inl h)
   ·exact .inl (.inr (.inl h))
   ·exact .inl (.inr (.inr (.inl h)))
   ·exact .inl (.inr (.inr (.inr (.inl h))))
   ·exact .inl (.inr (.inr (.inr (.inr (.inl h)))))
   ·rcases G1.out with h' | h'
    ·exact .inl (.inr (.inr (.inr (.inr (.inr (by rw [h',h]; simp))))))
    ·exact .inr (by rw [h]; exact h')
  ·have:=K3.out.later h5
   rwa [show ff+((iC n1 ns:Nat):Int)+((iC n2 (kT n1 ns):Nat):Int)=ff+((iC n1 ns+iC n2 (kT n1 ns):Nat):Int) by push_cast; omega,show K+97+97=K+194 by omega] at this)
 clear hA3 hK3 hO3 hg3 hb2 hw4 hr2 HB2' L3
 by_cases h12:n1=n2
 ·obtain rfl:nq=n1:=by have:=Hq.out; omega
  subst h12
  rw [if_pos rfl] at HP
  go_wp2_with (first | (refine aN rfl 195 (.tmp 51) rfl g2 0 rfl (dH (F nq) (nq:Int)) _ XL2.out Tryz.underlying195 rfl HFl2.out ?_) | (refine aA rfl 195 (.tmp 11) (.tmp 52) rfl w3.heap.size rfl _ _ (dH (F nq) (nq:Int)).toArray rfl (heap_alloc_new w3 _) HFb2.out (by rw [Hbs2.out]; rfl) Hba2.out ?_; rw [World.setRow_alloc_new,Hw4.out]))
  have XG:=hid (show ∀ W,(∃ x:GW w4,W=x.1)->∀ (j:Nat) v,((F nq).gains.map (Value.int .i64))[j]? = some v->W.cell? ⟨w1.heap.size,17+j,none⟩=some v from by
   rintro _ ⟨z,rfl⟩ j v hv
   exact HGn.out z.1 _ nq (La.out.below z.2 La.out.lt) j v hv)
  have HOne:=hid (fun (z:GW w4)=>(show Calls Tryz.prog 112 #[.agg fA.toList.toArray,.pointer (some ⟨w1.heap.size,1,none⟩),.pointer none,.agg ((F nq).gains.map (Value.int .i64)).toArray,.int .i64 iq] z.1 _ from by
   rw [Array.toArray_toList]
   exact PH _ _ _ _ iq z.1 (HSix.out z.1 _ nq (La.out.below z.2 La.out.lt)) (HG.out nq Hq.out.2.2.2) Hiq.out (D6 _)))
  refine aR (by kernel_rfl) (by kernel_rfl) ?_
  repeat (first | (go_big_quiet_want; refine bA 104 (.tmp 63) rfl gr 21 rfl fA.toList _ XLap.out Tryz.underlying104 rfl HFlap.out ?_; go_simp; go_big_quiet_on) | (go_big_quiet_want; refine bA 45 (.tmp 71) rfl w1.heap.size 17 rfl ((F nq).gains.map (Value.int .i64)) _ XG.out Tryz.underlying45 rfl (HF4.out nq) ?_; go_simp; go_big_quiet_on) | go_big_quiet_step (first | (go_at_call 112; exact bZ (HOne.out _)) | (go_at_call 111; exact bZ (HSat.out _ _))))
  refine wpQuiet_nil ?_
  intro w5 hw'
  have B5:=hid (aC B4.out (aK hw'))
  clear hw'
  go_wp2
  exact HP.out _ _ ⟨rfl,some ⟨g2,0,none⟩,cp2,pc2,HEnd.out w5 B5.out⟩
 ·rw [if_neg h12] at HP
  have e2:((n1:Int) == (n2:Int))=false:=beq_eq_false_iff_ne.2 (by omega)
  by_cases hf:nq=n1
  ·subst hf
   rw [if_pos rfl] at HP
   clear h12
   go_wp2_with (first | (refine aN rfl 195 (.tmp 51) rfl g2 0 rfl (dH (F n2) (n2:Int)) _ XL2.out Tryz.underlying195 rfl HFl2.out ?_) | (refine aA rfl 195 (.tmp 11) (.tmp 52) rfl w3.heap.size rfl _ _ (dH (F n2) (n2:Int)).toArray rfl (heap_alloc_new w3 _) HFb2.out (by rw [Hbs2.out]; rfl) Hba2.out ?_; rw [World.setRow_alloc_new,Hw4.out]))
   have XG:=hid (show ∀ W,(∃ x:GW w4,W=x.1)->∀ (j:Nat) v,((F nq).gains.map (Value.int .i64))[j]? = some v->W.cell? ⟨w1.heap.size,17+j,none⟩=some v from by
    rintro _ ⟨z,rfl⟩ j v hv
    exact HGn.out z.1 _ nq (La.out.below z.2 La.out.lt) j v hv)
   have HOne:=hid (fun (z:GW w4)=>(show Calls Tryz.prog 112 #[.agg fA.toList.toArray,.pointer (some ⟨w1.heap.size,1,none⟩),.pointer (some ⟨w3.heap.size,1,none⟩),.agg ((F nq).gains.map (Value.int .i64)).toArray,.int .i64 iq] z.1 _ from by
    rw [Array.toArray_toList]
    exact zW _ _ _ _ _ _ _ iq z.1 (HSix.out z.1 _ nq (La.out.below z.2 La.out.lt)) (HSix.out z.1 _ n2 (Lb.out.below z.2 Lb.out.lt)) (HG.out nq Hq.out.2.2.2) Hiq.out (D6 _) (D6 _)))
   refine aR (by kernel_rfl) (by kernel_rfl) ?_
   repeat (first | (go_big_quiet_want; refine bA 104 (.tmp 63) rfl gr 21 rfl fA.toList _ XLap.out Tryz.underlying104 rfl HFlap.out ?_; go_simp; go_big_quiet_on) | (go_big_quiet_want; refine bA 45 (.tmp 71) rfl w1.heap.size 17 rfl ((F nq).gains.map (Value.int .i64)) _ XG.out Tryz.underlying45 rfl (HF4.out nq) ?_; go_simp; go_big_quiet_on) | go_big_quiet_step (first | (go_at_call 112; exact bZ (HOne.out _)) | (go_at_call 111; exact bZ (HSat.out _ _))))
   refine wpQuiet_nil ?_
   intro w5 hw'
   have B5:=hid (aC B4.out (aK hw'))
   clear hw'
   go_wp2
   exact HP.out _ _ ⟨rfl,some ⟨g2,0,none⟩,cp2,pc2,HEnd.out w5 B5.out⟩
  ·rw [if_neg hf] at HP
   have e1:((nq:Int) == (n1:Int))=false:=beq_eq_false_iff_ne.2 (by omega)
   obtain rfl:nq=n2:=by have:=Hq.out; omega
   clear h12 hf
   go_wp2_with (first | (refine aN rfl 195 (.tmp 51) rfl g2 0 rfl (dH (F nq) (nq:Int)) _ XL2.out Tryz.underlying195 rfl HFl2.out ?_) | (refine aA rfl 195 (.tmp 11) (.tmp 52) rfl w3.heap.size rfl _ _ (dH (F nq) (nq:Int)).toArray rfl (heap_alloc_new w3 _) HFb2.out (by rw [Hbs2.out]; rfl) Hba2.out ?_; rw [World.setRow_alloc_new,Hw4.out]))
   have XG:=hid (show ∀ W,(∃ x:GW w4,W=x.1)->∀ (j:Nat) v,((F nq).gains.map (Value.int .i64))[j]? = some v->W.cell? ⟨w3.heap.size,17+j,none⟩=some v from by
    rintro _ ⟨z,rfl⟩ j v hv
    exact HGn.out z.1 _ nq (Lb.out.below z.2 Lb.out.lt) j v hv)
   have HOne:=hid (fun (z:GW w4)=>(show Calls Tryz.prog 112 #[.agg fA.toList.toArray,.pointer (some ⟨w3.heap.size,1,none⟩),.pointer (some ⟨w1.heap.size,1,none⟩),.agg ((F nq).gains.map (Value.int .i64)).toArray,.int .i64 iq] z.1 _ from by
    rw [Array.toArray_toList]
    exact zW _ _ _ _ _ _ _ iq z.1 (HSix.out z.1 _ nq (Lb.out.below z.2 Lb.out.lt)) (HSix.out z.1 _ n1 (La.out.below z.2 La.out.lt)) (HG.out nq Hq.out.2.2.2) Hiq.out (D6 _) (D6 _)))
   refine aR (by kernel_rfl) (by kernel_rfl) ?_
   repeat (first | (go_big_quiet_want; refine bA 104 (.tmp 63) rfl gr 21 rfl fA.toList _ XLap.out Tryz.underlying104 rfl HFlap.out ?_; go_simp; go_big_quiet_on) | (go_big_quiet_want; refine bA 45 (.tmp 71) rfl w3.heap.size 17 rfl ((F nq).gains.map (Value.int .i64)) _ XG.out Tryz.underlying45 rfl (HF4.out nq) ?_; go_simp; go_big_quiet_on) | go_big_quiet_step (first | (go_at_call 112; exact bZ (HOne.out _)) | (go_at_call 111; exact bZ (HSat.out _ _))))
   refine wpQuiet_nil ?_
   intro w5 hw'
   have B5:=hid (aC B4.out (aK hw'))
   clear hw'
   go_wp2
   exact HP.out _ _ ⟨rfl,some ⟨g2,0,none⟩,cp2,pc2,HEnd.out w5 B5.out⟩
theorem YN {SS:List SampV} {wB w:World} {size gx gc gd gs gf:Nat} {Ai:Option Addr} {gm K:Nat} {rd:Int} {v:CacheV} {ff:Int} {N gr m k:Nat} {A:Option Addr} {cap:Nat} {ns:List Nat} {fr:Int} {pc:List Value} (hC:CanP size SS) {S:SampV} {d:List Int} (hs:SS[m]? = some S) (hd:S.rows[k]? = some d)
  (h:FetchOk wB w (bG size SS) size (aH size SS) gx gc gd gs gf Ai gm K rd v ff 0) (hA:CurAt w N (mU size SS m k) gr gf m k d.length A cap ns fr pc) (hns:ns.length<=4) (hK:K+194<=1000000000000000) (hfr:0<=fr/\fr+1<=1000000000000000)
  (hN:wB.heap.size<=N) (hAi:∀ ad,Ai=some ad->ad.block < N) (hl:d.length<=1048576) (at_:Int) :
  Calls Tryz.prog 44 #[.pointer (some ⟨gr,0,none⟩),.int .i64 at_] w (AtP wB w size SS gx gc gd gs gf Ai gm K ff N gr m k d.length A ns fr at_):=by
 by_cases hin:0<=at_/\at_ < d.length
 ·obtain ⟨q,rfl⟩:∃ q:Nat,at_=q:=⟨at_.toNat,by omega⟩
  exact aBd hC hs hd h hA hns hK hfr hN hAi hl q (by omega)
 ·have HP:AtP wB w size SS gx gc gd gs gf Ai gm K ff N gr m k d.length A ns fr at_ (.returned (.int .i64 0)) w:=by
   refine ⟨by unfold atV; rw [if_neg hin],A,cap,pc,?_,.inl rfl,OnlyIn.refl _ _,rd,v,?_⟩
   ·have e1:atN d.length at_ ns=ns:=by unfold atN; rw [if_neg hin]
    have e2:atM d.length at_ ns=0:=by unfold atM; rw [if_neg hin]
    rw [e1,e2,show fr+((0:Nat):Int)=fr by omega]
    exact hA
   ·have e2:atM d.length at_ ns=0:=by unfold atM; rw [if_neg hin]
    rw [e2,show ff+((0:Nat):Int)=ff by omega]
    exact h.more (by omega)
  generalize AtP wB w size SS gx gc gd gs gf Ai gm K ff N gr m k d.length A ns fr at_=TP at *
  have HP:=hid HP
  have c56:w.cell? ⟨gr,56,none⟩=some (.int .i64 d.length):=(hA.head.cell 56).trans (bQ hA.pcl gf m k d.length _ fr 3)
  have HNo:=hid (nS hA.head hA.pcl)
  obtain ⟨len,hlen⟩:∃ len,d.length=len:=⟨_,rfl⟩
  rw [hlen] at hin c56
  have hdd:(at_ < 0/\decide (at_ < 0)=true)\/(¬ at_ < 0/\decide (at_ < 0)=false/\(len:Int)<=at_/\decide ((len:Int)<=at_)=true):=by
   by_cases h1:at_ < 0
   ·exact .inl ⟨h1,decide_eq_true h1⟩
   ·exact .inr ⟨h1,decide_eq_false h1,by omega,decide_eq_true (by omega)⟩
  clear h hA hns hK hfr hN hAi hl hin hlen hs hd hC
  rcases hdd with ⟨t1,t2⟩ | ⟨t1,t2,t3,t4⟩
  all_goals
   go_enter Tryz.func44,Tryz.ntmps44
   go_wp2_with (go_at_call 108; refine HNo.out.mono ?_; rintro e w' ⟨rfl,rfl⟩)
   exact HP.out
end
section
open Go.RowKit Go.Lib
def l20:List Int:=(List.range 20).map fun (i:Nat)=>100*(i:Int)
def mE:SampV:=ZW ⟨#[97]⟩ l20
theorem UA:dD [mE]=0:=ZY _ _ (by decide +kernel)
theorem UC:∀ s ∈ [mE],s.small:=fun s hs=>by
 rw [List.mem_singleton] at hs
 subst hs
 refine ⟨by decide,by decide,fun r hr=>?_⟩
 simp only [mE,ZW,List.mem_singleton] at hr
 subst hr
 decide
theorem UB:tU 60 [mE]=0:=by
 unfold tU
 rw [if_neg (by omega)]
 exact UA
theorem aDa {w:World} {N:Nat} {A:Option Addr} {n c:Nat} (nm:ByteArray) (xs:List Int) (h:w.ownsRow N 3 1 (.slice A n c) n (xs.map (.int .i64))) (hn:xs.length=n) (t2 t3:TypeId) :
  SampsAt ((w.alloc (.cells #[.slice A n c] t2)).alloc (.cells (ZV nm w.heap.size).cells.toArray t3)) (w.heap.size+2) (some ⟨w.heap.size+1,0,none⟩) [(ZV nm w.heap.size,ZW nm xs)]:=by
 have h1:=Row.of_own h
 have h2:=Row.new w t2 [.slice A n c]
 have h3:=Row.new (w.alloc (.cells #[.slice A n c] t2)) t3 (ZV nm w.heap.size).cells
 have hnc:=sW h
 have hcm:=iY h
 simp only [World.size_alloc] at h2 h3
 refine ⟨by simpa [eW] using h3,fun p hp=>?_⟩
 rw [List.mem_singleton] at hp
 subst hp
 have hb1:Below w.heap.size w ((w.alloc (.cells #[.slice A n c] t2)).alloc (.cells (ZV nm w.heap.size).cells.toArray t3)):=((Below.refl _ _).alloc (by simp) _).alloc (by simp) _
 have hb2:Below (w.heap.size+1) (w.alloc (.cells #[.slice A n c] t2)) ((w.alloc (.cells #[.slice A n c] t2)).alloc (.cells (ZV nm w.heap.size).cells.toArray t3)):=(Below.refl _ _).alloc (by simp) _
 refine ⟨⟨rfl,rfl,rfl,rfl,rfl,rfl⟩,Nat.le_refl _,by show (1:Nat)<=_; omega,[.slice A n c],(h2.below hb2).more (by omega),rfl,fun i v ys hv hy=>?_⟩
 cases i with
 | zero =>
  simp [ZW] at hv hy
  subst hv hy
  exact ⟨A,c,by rw [hn],by omega,hcm,(h1.below hb1).more (by omega)⟩
 | succ i=>simp at hv
def aDL (w:World) (e:Ending) (w':World):Prop:=∃ g h,e=.returned (.slice (some ⟨g,0,none⟩) 1 1)/\SampsAt w' w'.heap.size (some ⟨g,0,none⟩) [(h,mE)]/\Below w.heap.size w w'
theorem ZU (w:World):Calls Tryz.prog 106 #[] w (aDL w):=by
 obtain ⟨i0,hi,hz0,hz1,hz2⟩:=info_parts aCZ
 go_enter Tryz.func106,Tryz.ntmps106
 go_wp2
 go_loopw [1,2] (fun o i wr=>∃ (m:Nat) (A:Option Addr) (c:Nat),m<=20/\o=.slice A m c/\i=.int .i64 m/\wr.ownsRow w.heap.size 3 1 (.slice A m c) m ((l20.take m).map (.int .i64))/\Below w.heap.size w wr) (fun _ i _=>20 - (intOf i).toNat)
 case atStart=>exact ⟨0,none,0,by omega,rfl,rfl,World.ownsRow_nil _ _ _ _,Below.refl _ _⟩
 case round =>
  obtain ⟨m,A,c,hm,rfl,rfl,hown,hbel⟩:=hrel
  have Hown:=hid hown
  have Hbel:=hid hbel
  have Hge:=hid (bJ hown)
  obtain ⟨A3,c3,he,h1,h2⟩:=iL hown
  injection he with e1 _ e3
  subst e1 e3
  have hcm:=iY hown
  clear hown hbel h2
  by_cases hlt:m < 20
  ·have t1:(m:Int) < 20:=by omega
   have t2:IntKind.i64.wrap (100*(m:Int))=100*(m:Int):=IntWalk.i64_in _ (by omega)
   have Ht:=hid (show (l20.take (m+1)).map (Value.int .i64)=(l20.take m).map (.int .i64) ++ [.int .i64 (100*(m:Int))] by
    rw [List.take_add_one,show l20[m]? = some (100*(m:Int)) from aJ _ hlt,List.map_append]
    rfl)
   go_wp2_with (at_builtin; refine c9 _ rfl (.tmp 7) (.tmp 10) 86 rfl w.heap.size 3 i0 (.int .i64 0) 1 8 Tryz.underlying86 hi hz0 hz1 hz2 rfl (by omega) _ m _ rfl (Hown.out.alloc _) (wr.heap.size+1) (some ⟨wr.heap.size,0,none⟩) 1 1 [.int .i64 _] rfl rfl (Row.new wr _ _) (fun u hu=>by simp at hu; subst hu; rfl) (by omega) (by omega) (by have:=Hbel.out.size; simp; omega) ?_; intro A2 cc w2 hown2 hgrow hat hcc)
   go_roundw
   case rel =>
    refine ⟨m+1,A2,cc,by omega,rfl,by go_num,?_,((Hbel.out).alloc (by have:=Hbel.out.size; omega) _).grown hgrow (by have:=Hbel.out.size; simp; omega) (fun g h=>Hge.out g h)⟩
    rw [Ht.out]
    exact hown2
   case measure=>simp [intOf]; omega
  ·have t1:¬ (m:Int) < 20:=by omega
   obtain rfl:m=20:=by omega
   have HS:=hid (aDa (w:=wr) (N:=w.heap.size) (A:=A) (n:=20) (c:=c) ⟨#[97]⟩ l20 (by have:=Hown.out; rwa [List.take_of_length_le (by decide)] at this) rfl 86 138)
   go_wp2
   go_ret
   refine ⟨wr.heap.size+1,ZV ⟨#[97]⟩ wr.heap.size,rfl,HS.out.more (by simp),?_⟩
   exact aC (aC Hbel.out (aL _ _)) (aL _ _)
theorem aBe {size:Nat} {SS:List SampV} (hC:CanP size SS) {m k q:Nat} {S:SampV} {d:List Int} (hs:SS[m]? = some S) (hd:S.rows[k]? = some d) (hq:q < d.length):(FC (cO d size) (d.length:Nat))[q]? = some (atZ (mU size SS m k) d.length q):=by
 have hr:=eS ((hC.fine S (List.mem_of_getElem? hs)).good.2 d (List.mem_of_getElem? hd)).2 (size:=(size:Int)) (by have:=hC.lo; omega) (by have:=hC.hi; omega)
 refine aA4 (fun f hf=>(hr f hf).1.len) (fun i x hx=>?_) (f7 d size) hq
 have hi:=(List.getElem?_eq_some_iff.1 hx).1
 rw [f7] at hi
 have:=(sO hC hs hd hi).2.1
 rw [hx] at this
 exact (Option.some.inj this).symm
theorem I0 {size:Nat} {SS:List SampV} (hC:CanP size SS) {m k q:Nat} {S:SampV} {d:List Int} (hs:SS[m]? = some S) (hd:S.rows[k]? = some d) (hq:q < d.length) (h55:55<=size):atZ (mU size SS m k) d.length q=bgt d q:=by
 have h:=aBe hC hs hd hq
 have h16:=((hC.fine S (List.mem_of_getElem? hs)).good.2 d (List.mem_of_getElem? hd)).2
 rw [LY h16 (size:=(size:Int)) (by omega) (by have:=hC.hi; omega),sR hq] at h
 exact (Option.some.inj h).symm
theorem aC8 {size:Nat} {SS:List SampV} (hC:CanP size SS) {m k N gf:Nat} {S:SampV} {d:List Int} (hs:SS[m]? = some S) (hd:S.rows[k]? = some d) {w w':World} {e:Ending} (hN:N<=w.heap.size) (h:MY w size SS gf m k e w') :
  Below w.heap.size w w'/\∃ gr,e=.returned (.tuple #[.pointer (some ⟨gr,0,none⟩),.int .i64 0])/\w.heap.size<=gr/\CurAt w' N (mU size SS m k) gr gf m k d.length none 0 [] 0 yV:=by
 obtain ⟨e1,e2⟩:=ES (size:=size) hs
 have hk:=(List.getElem?_eq_some_iff.1 hd).1
 have hsame:=(hC.fine S (List.mem_of_getElem? hs)).same d (List.mem_of_getElem? hd)
 have h1:(fK (aH size SS) m).channels=(S.rows.length:Int):=by rw [e1]; rfl
 have h2:(fK (aH size SS) m).length=(d.length:Int):=by rw [e1,hsame]; rfl
 obtain ⟨hb,⟨h0,_⟩ | ⟨_,h0,_⟩ | ⟨_,_,_,gr,he,hg,hB⟩⟩:=h
 ·exact absurd e2 h0
 ·rw [h1] at h0; omega
 ·refine ⟨hb,gr,he,hg,?_,by simp [yV],World.ownsRow_nil _ _ _ _,Nat.le_trans hN hg⟩
  rw [h2] at hB
  exact hB
theorem NE (w:World):Calls Tryz.prog 41 #[] w fun e w'=>e=.returned (.bool true)/\Below w.heap.size w w':=by
 have HOne:=hid (ZU w)
 have HM:=hid (fun W g h (hs:SampsAt W W.heap.size (some ⟨g,0,none⟩) [(h,mE)])=>(show Calls Tryz.prog 14 #[.int .i64 60,.slice (some ⟨g,0,none⟩) 1 1,.int .i64 2,.int .i64 0] W (fun e w'=>Below W.heap.size W w'/\∃ ga gx gc gd gs gf Ai gm gi wB rd v,e=.returned (.pointer (some ⟨ga,0,none⟩))/\W.heap.size<=wB.heap.size/\CanP 60 [mE] /\
   Blk w' ga 32 [.pointer (some ⟨gx,0,none⟩),.pointer (some ⟨gd,0,none⟩),.pointer (some ⟨gf,0,none⟩),.slice (some ⟨gi,0,none⟩) (bU 60 [mE]) (bU 60 [mE])]/\FetchOk wB w' (bG 60 [mE]) 60 (aH 60 [mE]) gx gc gd gs gf Ai gm 0 rd v 0 0) from
  (ZM [(h,mE)] (some ⟨g,0,none⟩) 1 60 2 0 W hs (by show (1:Nat)<=8; omega) (fun p hp=>by rw [List.mem_singleton] at hp; subst hp; exact UC _ (by simp))).mono (by
   rintro e w' ⟨hb,⟨hbad,_⟩ | ⟨_,_,sz,ga,gx,gc,gd,gs,gf,Ai,gm,gi,wB,hsz,hC,he,hwB,hga,hG,hK⟩⟩
   ·rcases hbad with h | h
    ·exact absurd UB h
    ·unfold kD at h; omega
   ·obtain rfl:sz=60:=by omega
    rw [show dF ([(h,mE)].map Prod.snd)=[mE] from aBY mE] at hG hK hC
    exact ⟨hb,ga,gx,gc,gd,gs,gf,Ai,gm,gi,wB,_,_,he,hwB,hC,hG,hK⟩)))
 unfold aDL at HOne
 generalize bU 60 [mE]=pl at *
 go_enter Tryz.func41,Tryz.ntmps41
 go_wp2_with (go_at_call 106; fail)
 refine HOne.out.mono ?_
 rintro e w1 ⟨g1,h1,rfl,hs1,hb1⟩
 have HM1:=hid (HM.out w1 g1 h1 hs1)
 have B1:=hid hb1
 clear hs1 hb1 HM HOne
 go_wp2_with (go_at_call 14; fail)
 refine HM1.out.mono ?_
 rintro e w2 ⟨hb2,ga,gx,gc,gd,gs,gf,Ai,gm,gi,wB,rd,v,rfl,hwB,hC,hG,hK⟩
 have B2:=hid (aC B1.out hb2)
 have hSS:[mE][0]? = some mE:=rfl
 have hdd:mE.rows[0]? = some l20:=rfl
 have hl20:l20.length=20:=rfl
 have h0:0 < (bG 60 [mE]).length:=by rw [lL hC]; have:=hC.len_bd; omega
 have K2:=hid hK
 have HAi:=hid (hK.cache.img_lt h0)
 have Hold:=hid hK.old.size
 have HNew:=hid ((TS hC hK 0 0).mono (fun e w' h=>aC8 (m:=0) (k:=0) (N:=w2.heap.size) hC hSS hdd (Nat.le_refl _) h))
 have HAt:=hid (fun W K rd v ff gr A cap ns fr pc hF hA h4 hK hf at_=>YN (wB:=wB) (w:=W) (gx:=gx) (gc:=gc) (gd:=gd) (gs:=gs) (gf:=gf) (Ai:=Ai) (gm:=gm) (K:=K) (rd:=rd) (v:=v) (ff:=ff) (N:=w2.heap.size) (gr:=gr) (m:=0) (k:=0) (A:=A) (cap:=cap) (ns:=ns) (fr:=fr) (pc:=pc) hC hSS hdd hF hA h4 hK hf Hold.out HAi.out (by omega) at_)
 unfold AtP at HAt
 rw [hl20] at HAt HNew
 have V0:=hid (show atV (mU 60 [mE] (0:Nat) (0:Nat)) 20 0=0 from by
  unfold atV
  rw [if_pos (by omega)]
  exact (I0 hC hSS hdd (q:=0) (by omega) (by omega)).trans (by decide))
 have V15:=hid (show atV (mU 60 [mE] (0:Nat) (0:Nat)) 20 15=1500 from by
  unfold atV
  rw [if_pos (by omega)]
  exact (I0 hC hSS hdd (q:=15) (by omega) (by omega)).trans (by decide))
 generalize bG 60 [mE]=bs at *
 generalize aH 60 [mE]=D at *
 generalize mU 60 [mE] ((0:Nat):Int) ((0:Nat):Int)=F at *
 have a2:w2.cell? ⟨ga,2,none⟩=some (.pointer (some ⟨gf,0,none⟩)):=hG.cell 2
 clear hb2 hC hG hK h0 hSS hdd hl20 HM1
 go_wp2_with (go_at_call 42; fail)
 refine HNew.out.mono ?_
 rintro e w3 ⟨hb3,gr,rfl,hgr,hA3⟩
 have B3:=hid (aC B2.out hb3)
 have HA3:=hid (HAt.out w3 0 rd v 0 gr none 0 [] 0 yV (K2.out.later hb3) hA3 (by simp) (by omega) (by omega) 0)
 have Hgr:=hid hgr
 have HwB:=hid hwB
 clear hb3 hA3 hgr a2 HNew hwB
 go_wp2_with (go_at_call 44; fail)
 refine HA3.out.mono ?_
 rintro e w4 ⟨rfl,A4,c4,p4,hA4,hf4,hO4,rd4,v4,hK4⟩
 have O4:=hid hO4
 have F4:=hid hf4
 have HA4:=hid (HAt.out w4 194 rd4 v4 _ gr A4 c4 (atN 20 0 []) _ p4 (by simpa using hK4) hA4 (by decide) (by omega) (by rw [show atM 20 0 []=1 by decide]; omega) 15)
 rw [V0.out]
 clear hA4 hf4 hO4 hK4 HA3
 go_wp2_with (go_at_call 44; fail)
 refine HA4.out.mono ?_
 rintro e w5 ⟨rfl,A5,c5,p5,hA5,hf5,hO5,rd5,v5,hK5⟩
 rw [V15.out]
 have HFr:=hid (GK hA5.head hA5.pcl)
 rw [show (0:Int)+((atM 20 0 []:Nat):Int)+((atM 20 15 (atN 20 0 []):Nat):Int)=2 by decide] at HFr
 have HLe:=hid (GL hA5.head hA5.pcl)
 have HB5:=hid (show Below w.heap.size w w5 from by
  have a1:=K2.out.cN
  have a2:=K2.out.sN
  have a3:=K2.out.dN
  have a4:=K2.out.fN
  have b1:=HwB.out
  have b2:=B1.out.size
  have b3:=B3.out.size
  have b4:=Hgr.out
  have b5:=Hold.out
  have s4:=O4.out.size
  refine B3.out.trans ((O4.out.below (fun x hx=>?_) b3).trans (hO5.below (fun x hx=>?_) (by omega)))
  ·simp only [List.mem_cons,rO,List.not_mem_nil,or_false] at hx
   omega
  ·rcases List.mem_cons.1 hx with h | hx
   ·omega
   rcases List.mem_cons.1 hx with h | hx
   ·omega
   rcases List.mem_cons.1 hx with h | hx
   ·omega
   rcases List.mem_cons.1 hx with h | hx
   ·omega
   rcases List.mem_cons.1 hx with h | hx
   ·omega
   obtain ⟨ad,had,he⟩:=ZO hx
   rcases F4.out with h | h
   ·rw [h] at had; cases had
   ·have:=h ad had
    omega)
 clear hA5 hf5 hO5 hK5 HA4
 go_wp2_with (first | (go_at_call 45; refine HFr.out.mono ?_; rintro e w' ⟨rfl,rfl⟩) | (go_at_call 48; refine HLe.out.mono ?_; rintro e w' ⟨rfl,rfl⟩))
 go_ret
 exact ⟨rfl,HB5.out⟩
end
section
open Go.RowKit Go.Lib
def NoCur (W:World) (v:Value):Prop:=v=.pointer none\/∃ g,v=.pointer (some ⟨g,0,none⟩)/\g < W.heap.size/\W.cell? ⟨g,53,none⟩=some (.pointer none)
theorem NoCur.later {w w':World} {v:Value} (h:NoCur w v) (hb:Below w.heap.size w w'):NoCur w' v:=by
 rcases h with h | ⟨g,h1,h2,h3⟩
 ·exact .inl h
 ·exact .inr ⟨g,h1,Nat.lt_of_lt_of_le h2 hb.size,(hb.cell (p:=⟨g,53,none⟩) h2).trans h3⟩
theorem nE (v:Value) (w:World) (h:NoCur w v):Calls Tryz.prog 108 #[v] w fun e w'=>e=.returned (.bool true)/\w=w':=by
 rcases h with rfl | ⟨g,rfl,_,c⟩
 all_goals
  go_enter Tryz.func108,Tryz.ntmps108
  go_wp2
  go_ret
  exact ⟨rfl,rfl⟩
theorem QD (v:Value) (i:Int) (w:World) (h:NoCur w v):Calls Tryz.prog 44 #[v,.int .i64 i] w fun e w'=>e=.returned (.int .i64 0)/\w=w':=by
 have HN:=hid (nE v w h)
 clear h
 go_enter Tryz.func44,Tryz.ntmps44
 go_wp2_with (go_at_call 108; refine HN.out.mono ?_; rintro e w' ⟨rfl,rfl⟩)
 go_ret
 exact ⟨rfl,rfl⟩
theorem LL (v:Value) (w:World) (h:NoCur w v):Calls Tryz.prog 48 #[v] w fun e w'=>e=.returned (.int .i64 0)/\w=w':=by
 have HN:=hid (nE v w h)
 clear h
 go_enter Tryz.func48,Tryz.ntmps48
 go_wp2_with (go_at_call 108; refine HN.out.mono ?_; rintro e w' ⟨rfl,rfl⟩)
 go_ret
 exact ⟨rfl,rfl⟩
theorem LK (v:Value) (w:World) (h:NoCur w v):Calls Tryz.prog 45 #[v] w fun e w'=>e=.returned (.int .i64 0)/\w=w':=by
 have HN:=hid (nE v w h)
 clear h
 go_enter Tryz.func45,Tryz.ntmps45
 go_wp2_with (go_at_call 108; refine HN.out.mono ?_; rintro e w' ⟨rfl,rfl⟩)
 go_ret
 exact ⟨rfl,rfl⟩
theorem U8 (v:Value) (w:World) (h:NoCur w v):Calls Tryz.prog 47 #[v] w fun e w'=>e=.returned (.slice none 0 0)/\w=w':=by
 have HN:=hid (nE v w h)
 clear h
 go_enter Tryz.func47,Tryz.ntmps47
 go_wp2_with (go_at_call 108; refine HN.out.mono ?_; rintro e w' ⟨rfl,rfl⟩)
 go_ret
 exact ⟨rfl,rfl⟩
theorem IA (v:Value) (w:World) (h:NoCur w v):Calls Tryz.prog 49 #[v] w fun e w'=>e=.returned (.slice none 0 0)/\w=w':=by
 have HN:=hid (nE v w h)
 clear h
 go_enter Tryz.func49,Tryz.ntmps49
 go_wp2_with (go_at_call 108; refine HN.out.mono ?_; rintro e w' ⟨rfl,rfl⟩)
 go_ret
 exact ⟨rfl,rfl⟩
theorem H7 (w:World):Calls Tryz.prog 87 #[.pointer none] w fun e w'=>e=.returned (.bool true)/\w=w':=by
 go_enter Tryz.func87,Tryz.ntmps87
 go_wp2
 go_ret
 exact ⟨rfl,rfl⟩
theorem G8 (w:World):Calls Tryz.prog 24 #[.pointer none] w fun e w'=>e=.returned (.pointer none)/\w=w':=by
 have HN:=hid (H7 w)
 go_enter Tryz.func24,Tryz.ntmps24
 go_wp2_with (go_at_call 87; refine HN.out.mono ?_; rintro e w' ⟨rfl,rfl⟩)
 go_ret
 exact ⟨rfl,rfl⟩
theorem TU (s c:Int) (w:World):Calls Tryz.prog 42 #[.pointer none,.int .i64 s,.int .i64 c] w fun e w'=>e=.returned (.tuple #[.pointer none,.int .i64 1])/\Below w.heap.size w w':=by
 have HBk:=hid G8
 have HMe:=hid (aAK (.pointer none) s w (.inl rfl))
 simp only [MetaV.cells,F0] at HMe
 go_enter Tryz.func42,Tryz.ntmps42
 go_wp2_with (first | (go_at_call 24; refine (HBk.out _).mono ?_; rintro e w' ⟨rfl,rfl⟩) | (go_at_call 31; fail))
 refine HMe.out.mono ?_
 rintro e w1 ⟨rfl,hb1⟩
 have B2:=hid (aC hb1 (aL w1 (.cells #[.string ⟨#[]⟩,.int .i64 0,.int .i64 0,.int .i64 0,.bool false,.int .i64 0,.int .i64 0,.int .i64 0,.int .i64 0] 37)))
 clear hb1
 go_wp2_with (go_at_call 24; refine (HBk.out _).mono ?_; rintro e w' ⟨rfl,rfl⟩)
 refine bodyPost_ret (results_tmp2 Tryz.results42 _ _ _) rfl ?_
 exact ⟨rfl,B2.out⟩
theorem vN (i:Int) (w:World):Calls Tryz.prog 9 #[.int .i64 i] w fun e w'=>e=.returned (.bool true)/\Below w.heap.size w w':=by
 obtain ⟨w1,hw1⟩:∃ w1,w.alloc (.cells #[.int .i64 0,.int .i64 0,.int .i64 0,.int .i64 0,.int .i64 0,.int .i64 0,.int .i64 0,.int .i64 0,.int .i64 0,.int .i64 0,.int .i64 0,.int .i64 0,.int .i64 0,.int .i64 0,.int .i64 0,.int .i64 0,.int .i64 0,.int .i64 0,.int .i64 0,.int .i64 0,.int .i64 0,.int .i64 0,.int .i64 0,.int .i64 0,.int .i64 0,.int .i64 0,.int .i64 0,.int .i64 0,.int .i64 0,.int .i64 0,.int .i64 0,.int .i64 0,.int .i64 0,.int .i64 0,.int .i64 0,.int .i64 0,.int .i64 0,.int .i64 0,.int .i64 0,.int .i64 0,.int .i64 0,.int .i64 0,.int .i64 0,.int .i64 0,.int .i64 0,.int .i64 0,.int .i64 0,.int .i64 0,.int .i64 0,.int .i64 0,.int .i64 0,.int .i64 0,.int .i64 0,.pointer none,.int .i64 0,.int .i64 0,.int .i64 0,.slice none 0 0,.slice none 0 0,.int .i64 0] 107)=w1:=⟨_,rfl⟩
 have B1:=hid (show Below w.heap.size w w1 by rw [<-hw1]; exact aL w _)
 have N1:=hid (show NoCur w1 (.pointer (some ⟨w.heap.size,0,none⟩)) from .inr ⟨_,rfl,by rw [<-hw1]; simp,by
  have h:Blk w1 w.heap.size 107 [.int .i64 0,.int .i64 0,.int .i64 0,.int .i64 0,.int .i64 0,.int .i64 0,.int .i64 0,.int .i64 0,.int .i64 0,.int .i64 0,.int .i64 0,.int .i64 0,.int .i64 0,.int .i64 0,.int .i64 0,.int .i64 0,.int .i64 0,.int .i64 0,.int .i64 0,.int .i64 0,.int .i64 0,.int .i64 0,.int .i64 0,.int .i64 0,.int .i64 0,.int .i64 0,.int .i64 0,.int .i64 0,.int .i64 0,.int .i64 0,.int .i64 0,.int .i64 0,.int .i64 0,.int .i64 0,.int .i64 0,.int .i64 0,.int .i64 0,.int .i64 0,.int .i64 0,.int .i64 0,.int .i64 0,.int .i64 0,.int .i64 0,.int .i64 0,.int .i64 0,.int .i64 0,.int .i64 0,.int .i64 0,.int .i64 0,.int .i64 0,.int .i64 0,.int .i64 0,.int .i64 0,.pointer none,.int .i64 0,.int .i64 0,.int .i64 0,.slice none 0 0,.slice none 0 0,.int .i64 0]:=by rw [<-hw1]; exact Blk.new w _ _
  exact (h.cell 53).trans rfl⟩)
 have HNew:=hid (TU 0 0 w1)
 have HNA:=hid (fun W=>QD (.pointer none) i W (.inl rfl))
 have HZA:=hid (fun W (h:Below w1.heap.size w1 W)=>QD (.pointer (some ⟨w.heap.size,0,none⟩)) i W (N1.out.later h))
 have HNL:=hid (fun W=>LL (.pointer none) W (.inl rfl))
 have HZF:=hid (fun W (h:Below w1.heap.size w1 W)=>LK (.pointer (some ⟨w.heap.size,0,none⟩)) W (N1.out.later h))
 have HNH:=hid (fun W=>U8 (.pointer none) W (.inl rfl))
 have HZM:=hid (fun W (h:Below w1.heap.size w1 W)=>IA (.pointer (some ⟨w.heap.size,0,none⟩)) W (N1.out.later h))
 have HAw:=hid (fun W=>NE W)
 go_enter Tryz.func9,Tryz.ntmps9
 go_wp2_with (go_at_call 42; fail)
 refine HNew.out.mono ?_
 rintro e w2 ⟨rfl,hb2⟩
 have B2:=hid hb2
 clear hb2
 go_wp2_with (first | (go_at_call_of 44 (Value.pointer none); refine (HNA.out _).mono ?_; rintro e w' ⟨rfl,rfl⟩) | (go_at_call 44; refine (HZA.out _ B2.out).mono ?_; rintro e w' ⟨rfl,rfl⟩) | (go_at_call 48; refine (HNL.out _).mono ?_; rintro e w' ⟨rfl,rfl⟩) | (go_at_call 45; refine (HZF.out _ B2.out).mono ?_; rintro e w' ⟨rfl,rfl⟩) | (go_at_call 47; refine (HNH.out _).mono ?_; rintro e w' ⟨rfl,rfl⟩) | (go_at_call 49; refine (HZM.out _ B2.out).mono ?_; rintro e w' ⟨rfl,rfl⟩) | (go_at_call 41; refine (HAw.out _).mono ?_; rintro e w' ⟨rfl,hb3⟩))
 go_ret
 exact ⟨rfl,aC B1.out (aC B2.out hb3)⟩
theorem CursorNobody_law (W:World) (v0:Value) (a0:Arg W (.int .i64) v0) :
  Calls Tryz.prog 9 #[v0] W fun e w'=>e=.returned (.bool true)/\Below W.heap.size W w':=by
 obtain ⟨i,hb,_,_⟩:=a0
 obtain rfl:v0=.int .i64 i:=by simpa using hb
 exact vN i W
end
end Go.Proofs.YtnbbfblaipjcmaaGreatDoor
