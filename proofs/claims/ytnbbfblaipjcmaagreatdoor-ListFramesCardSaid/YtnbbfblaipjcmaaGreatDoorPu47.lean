/- FetA, FetB, FetC, FetD, FetX, FetY. Conditions: as each theorem states. -/
import Derived.Test.YtnbbfblaipjcmaaGreatDoorPu45
import Derived.Test.YtnbbfblaipjcmaaGreatDoorPu46
import Derived.Test.YtnbbfblaipjcmaaGreatDoorPu20
import Derived.Test.YtnbbfblaipjcmaaGreatDoorPu43
import Derived.Test.YtnbbfblaipjcmaaGreatDoorPu35
set_option maxRecDepth 100000
set_option maxHeartbeats 16000000
namespace Go.Proofs.YtnbbfblaipjcmaaGreatDoor
section
open Go.RowKit Go.Lib
theorem subB_byt {bs:List Nat} (h:Byt bs) (o n:Nat):Byt (subB bs o n):=fun x hx=>by
 unfold subB at hx
 obtain ⟨j,_,rfl⟩:=List.mem_map.1 hx
 rw [List.getD_eq_getElem?_getD]
 cases hq:bs[o+j]? with
 | none=>show (0:Nat) < 256; omega
 | some z=>exact h z (List.mem_of_getElem? hq)
structure FetchOk (wB w:World) (bs:List Nat) (size:Nat) (D:List MetaV) (gx gc gd gs gf:Nat) (Ai:Option Addr) (gm K:Nat) (rd:Int) (v:CacheV) (fr lo:Int):Prop where
 bank:BankAt wB gx bs size D
 fit:FitB bs size D
 even:bs.length % 64=0
 old:Below wB.heap.size wB w
 cN:wB.heap.size<=gc
 sN:wB.heap.size<=gs
 dN:wB.heap.size<=gd
 fN:wB.heap.size<=gf
 img:∀ ad,Ai=some ad->ad.block ≠ gf
 head:Blk w gf 44 [.pointer (some ⟨gc,0,none⟩),.pointer (some ⟨gx,0,none⟩),.int .i64 fr,.int .i64 lo]
 cache:CacheOk w bs gc gd gs Ai gm K rd v
 cnt:(0<=fr/\fr<=K)/\(0<=lo/\lo<=K)
theorem FetchOk.bankAt {wB w:World} {bs:List Nat} {size:Nat} {D:List MetaV} {gx gc gd gs gf:Nat} {Ai:Option Addr} {gm K:Nat} {rd:Int} {v:CacheV} {fr lo:Int} (h:FetchOk wB w bs size D gx gc gd gs gf Ai gm K rd v fr lo):BankAt w gx bs size D:=h.bank.later h.old
end
section
open Go.RowKit Go.Lib
end
section
open Go.RowKit Go.Lib
theorem inf_slot:(Tryz.prog.info? 247).map (fun i=>(i.zero,i.size,i.bytes))=some (some (.agg #[.int .i64 0,.bool false,.bool false,.slice none 0 0]),4,40):=by kernel_rfl
theorem slots_made (n:Nat):(madeCells (Value.agg #[.int .i64 0,.bool false,.bool false,.slice none 0 0]).cells (n*4)).toList=slotsC (List.replicate n default):=by
 unfold madeCells
 rw [Array.toList_map,Array.toList_range]
 apply List.ext_getElem?
 intro j
 rw [List.getElem?_map]
 rcases Nat.lt_or_ge j (n*4) with hj | hj
 ·rw [List.getElem?_range hj,Option.map_some]
  have h1:(List.replicate n (default:SlotV))[j / 4]? = some default:=by rw [List.getElem?_replicate,if_pos (by omega)]
  have h2:=slotsC_get _ h1 (j % 4) (Nat.mod_lt _ (by omega))
  rw [show j / 4*4+j % 4=j by omega] at h2
  rw [h2]
  have h3:j % 4 < 4:=Nat.mod_lt _ (by omega)
  show some ((#[.int .i64 0,.bool false,.bool false,.slice none 0 0]:Array Value)[j % 4]!)=([.int .i64 0,.bool false,.bool false,.slice none 0 0]:List Value)[j % 4]?
  generalize j % 4=q at *
  rcases (show q=0\/q=1\/q=2\/q=3 by omega) with rfl | rfl | rfl | rfl <;> rfl
 ·rw [List.getElem?_eq_none (by simpa using hj),List.getElem?_eq_none (by rw [slotsC_len,List.length_replicate]; omega)]; rfl
def cacheBad (s r:Int):Prop:=s < 1\/1024 < s\/r < 0\/8 < r
def CNewP (w:World) (gd:Nat) (s r:Int) (e:Ending) (w':World):Prop :=
 (cacheBad s r/\e=.returned (.tuple #[.pointer none,.int .i64 1])/\w=w') \/
 (¬ cacheBad s r/\∃ gc gs,e=.returned (.tuple #[.pointer (some ⟨gc,0,none⟩),.int .i64 0])/\w.heap.size<=gc/\w.heap.size<=gs/\CacheAt w' gc gd gs ⟨0,0,0,0,0,r.toNat,List.replicate s.toNat default⟩/\Below w.heap.size w w')
theorem cacheNew_any (w:World) (gd:Nat) (s r:Int):Calls Tryz.prog 77 #[.pointer (some ⟨gd,0,none⟩),.int .i64 s,.int .i64 r] w (CNewP w gd s r):=by
 have HB:=hid (show ∀ e w',(cacheBad s r/\e=.returned (.tuple #[.pointer none,.int .i64 1])/\w=w')->CNewP w gd s r e w' from fun _ _ h=>.inl h)
 have HG:=hid (show ∀ e w',(¬ cacheBad s r/\∃ gc gs,e=.returned (.tuple #[.pointer (some ⟨gc,0,none⟩),.int .i64 0])/\w.heap.size<=gc/\w.heap.size<=gs/\CacheAt w' gc gd gs ⟨0,0,0,0,0,r.toNat,List.replicate s.toNat default⟩/\Below w.heap.size w w')->CNewP w gd s r e w' from fun _ _ h=>.inr h)
 generalize CNewP w gd s r=CP at *
 by_cases h1:s < 1
 ·have HE:=hid (HB.out _ _ ⟨.inl h1,rfl,rfl⟩)
  clear HB HG
  go_enter Tryz.func77,Tryz.ntmps77
  go_wp2
  exact HE.out
 by_cases h2:1024 < s
 ·have HE:=hid (HB.out _ _ ⟨.inr (.inl h2),rfl,rfl⟩)
  clear HB HG
  go_enter Tryz.func77,Tryz.ntmps77
  go_wp2
  exact HE.out
 by_cases h3:r < 0
 ·have HE:=hid (HB.out _ _ ⟨.inr (.inr (.inl h3)),rfl,rfl⟩)
  clear HB HG
  go_enter Tryz.func77,Tryz.ntmps77
  go_wp2
  exact HE.out
 by_cases h4:8 < r
 ·have HE:=hid (HB.out _ _ ⟨.inr (.inr (.inr h4)),rfl,rfl⟩)
  clear HB HG
  go_enter Tryz.func77,Tryz.ntmps77
  go_wp2
  exact HE.out
 have hnb:¬ cacheBad s r:=by unfold cacheBad; omega
 obtain ⟨n,rfl⟩:=Int.eq_ofNat_of_zero_le (show 0<=s by omega)
 obtain ⟨q,rfl⟩:=Int.eq_ofNat_of_zero_le (show 0<=r by omega)
 rw [Int.toNat_natCast,Int.toNat_natCast] at HG
 have Hnb:=hid hnb
 obtain ⟨i0,hi,hz0,hi1,hi2⟩:=info_parts inf_slot
 have hm:=slots_made n
 obtain ⟨mc,hmc⟩:∃ mc,madeCells (Value.agg #[.int .i64 0,.bool false,.bool false,.slice none 0 0]).cells (n*4)=mc:=⟨_,rfl⟩
 rw [hmc] at hm
 have hmr:mc=(slotsC (List.replicate n default)).toArray:=by rw [<-hm]
 have Hmr:=hid hmr
 have Hmc:=hid hmc
 clear hnb HB hm hmc hmr
 go_enter Tryz.func77,Tryz.ntmps77
 go_wp2_with (refine wpList_make_rows _ rfl (.tmp 27) (.tmp 27) 186 rfl 247 i0 (.agg #[.int .i64 0,.bool false,.bool false,.slice none 0 0]) 4 Tryz.underlying186 hi hz0 hi1 .i64 .i64 n rfl rfl (by rw [hi2]; omega) (by omega) ?_; rw [Hmc.out])
 have hsz:(w.alloc (.cells mc 247)).heap.size=w.heap.size+1:=by simp
 have hX:=Blk.new2 w (.cells mc 247) 188 [.int .i64 0,.int .i64 0,.int .i64 0,.int .i64 0,.pointer (some ⟨gd,0,none⟩),.slice (some ⟨w.heap.size,0,none⟩) n n,.int .i64 0,.int .i64 q]
 have hS:Blk (w.alloc (.cells mc 247)) w.heap.size 247 (slotsC (List.replicate n default)):=by
  rw [Hmr.out]; exact Blk.new w _ _
 have hln:(List.replicate n (default:SlotV)).length=n:=List.length_replicate
 refine HG.out _ _ ⟨Hnb.out,w.heap.size+1,w.heap.size,by rw [<-hsz],by omega,by omega,⟨?_,hS.below (bnew _ _) hS.lt,by show (List.replicate n (default:SlotV)).length<=_; omega,by show 0 < (List.replicate n (default:SlotV)).length; omega,by show 0 < (List.replicate n (default:SlotV)).length; omega,by show q<=8; omega⟩,bnext (bnew w _) (bnew _ _)⟩
 unfold CacheV.cells
 simp only [hln]
 exact hX
theorem CacheAt.fresh {w:World} {gc gd gs n q:Nat} (h:CacheAt w gc gd gs ⟨0,0,0,0,0,q,List.replicate n default⟩) {bs:List Nat} {Ai:Option Addr} {gm:Nat} (hd:DiskAt w gd bs 0 Ai gm) (hi:∀ ad,Ai=some ad->ad.block ≠ gc/\ad.block ≠ gs/\ad.block ≠ gd):CacheOk w bs gc gd gs Ai gm 0 0 ⟨0,0,0,0,0,q,List.replicate n default⟩ :=
 ⟨h,hd,hi,(fun s hs hf=>by
  have hs:s ∈ List.replicate n default:=hs
  rw [List.eq_of_mem_replicate hs] at hf
  cases hf),⟨⟨Int.le_refl _,Int.le_refl _⟩,⟨Int.le_refl _,Int.le_refl _⟩,⟨Int.le_refl _,Int.le_refl _⟩,⟨Int.le_refl _,Int.le_refl _⟩⟩⟩
theorem fetchNew_any {w:World} {g size:Nat} {bs:List Nat} {D:List MetaV} (hB:BankAt w g bs size D) (hs:0 < size) {gc gd gs:Nat} {v:CacheV} (hC:CacheAt w gc gd gs v) :
  Calls Tryz.prog 23 #[.pointer (some ⟨g,0,none⟩),.pointer (some ⟨gc,0,none⟩)] w fun e w'=>e=.returned (.tuple #[.pointer (some ⟨w.heap.size,0,none⟩),.int .i64 0])/\Blk w' w.heap.size 44 [.pointer (some ⟨gc,0,none⟩),.pointer (some ⟨g,0,none⟩),.int .i64 0,.int .i64 0]/\Below w.heap.size w w':=by
 have HS:=hid (BSize_any hB hs)
 have HD:=hid (cacheDisk_any w gc gd gs v hC)
 have t1:((size:Int) == 0)=false:=beq_eq_false_iff_ne.2 (by omega)
 clear hB hC
 go_enter Tryz.func23,Tryz.ntmps23
 go_wp2_with (first | (go_at_call 85; refine HS.out.mono ?_; rintro e w' ⟨rfl,rfl⟩) | (go_at_call 89; refine HD.out.mono ?_; rintro e w' ⟨rfl,rfl⟩))
 refine bodyPost_ret (results_tmp2 Tryz.results23 _ _ _) rfl ?_
 exact ⟨rfl,Blk.new w _ _,bnew w _⟩
end
section
open Go.RowKit Go.Lib
theorem CanP.even {size:Nat} {SS:List SampV} (h:CanP size SS):(packZ size SS).length % 64=0:=by
 have h1:=h.len_eq
 rw [packZ_len h]
 unfold upZ at h1
 omega
def MadeF (w:World) (size:Int) (ss:List SampV) (slots retry:Int) (e:Ending) (w':World):Prop :=
 Below w.heap.size w w'/\(((packE size ss ≠ 0\/cacheBad slots retry)/\e=.returned (.pointer none)) \/
  (packE size ss=0/\¬ cacheBad slots retry/\∃ (sz ga gx gc gd gs gf:Nat) (Ai:Option Addr) (gm gi:Nat) (wB:World),size=sz/\CanP sz (sortS ss)/\e=.returned (.pointer (some ⟨ga,0,none⟩))/\w.heap.size<=wB.heap.size/\w.heap.size<=ga /\
   Blk w' ga 32 [.pointer (some ⟨gx,0,none⟩),.pointer (some ⟨gd,0,none⟩),.pointer (some ⟨gf,0,none⟩),.slice (some ⟨gi,0,none⟩) (packLen sz (sortS ss)) (packLen sz (sortS ss))] /\
   FetchOk wB w' (packZ sz (sortS ss)) sz (packDir sz (sortS ss)) gx gc gd gs gf Ai gm 0 0 ⟨0,0,0,0,0,retry.toNat,List.replicate slots.toNat default⟩ 0 0))
theorem made18_core (S:List SampV->Prop) (size:Int) (v:Value) (slots retry:Int) (w:World)
  (hF:Calls Tryz.prog 74 #[v] w fun e w'=>∃ A c M,e=.returned (.slice A (List.length M) c)/\S (List.map Prod.snd M)/\List.length M<=8/\(A=none->c=0)/\SampsAt w' w'.heap.size A M/\(∀ p ∈ M,p.2.small)/\Below w.heap.size w w') :
  Calls Tryz.prog 14 #[.int .i64 size,v,.int .i64 slots,.int .i64 retry] w fun e w'=>∃ ss,S ss/\MadeF w size ss slots retry e w':=by
 have HF:=hid hF
 clear hF
 go_enter Tryz.func14,Tryz.ntmps14
 go_wp2_with (go_at_call 74; fail)
 refine HF.out.mono ?_
 rintro e w1 ⟨A,c,M,rfl,hS,h8,hn,hs,hsm,hb1⟩
 have HP:=hid (Pack_any size M A c w1 h8 hn hs hsm)
 have B1:=hid hb1
 have HS:=hid hS
 generalize List.map Prod.snd M=ss at *
 generalize M.length=m at *
 unfold PackP at HP
 clear hS h8 hn hs hsm hb1 HF
 go_wp2_with (go_at_call 73; fail)
 refine HP.out.mono ?_
 rintro e w2 ⟨hb2,⟨hE,rfl⟩ | ⟨hE,sz,g,h24,hC,hg,hby,rfl⟩⟩
 ·have B2:=hid (bnext B1.out hb2)
  have HE:=hid (show ∃ ss,S ss/\MadeF w size ss slots retry (.returned (.pointer none)) w2 from ⟨ss,HS.out,B2.out,.inl ⟨.inl hE,rfl⟩⟩)
  generalize hpe:packE size ss=E at *
  have t1:(E != 0)=true:=by rw [bne_iff_ne]; exact hE
  clear hE hpe hb2
  go_wp2
  go_ret
  exact HE.out
 ·have B2:=hid (bnext B1.out hb2)
  have HC:=hid hC
  have HE:=hid hE
  have Hsz:=hid h24
  have HPa:=hid (Parse_packed hC g w2 hby)
  have hlb:=hC.len_bd
  have hll:=packZ_len hC
  have HDn:=hid (fun (W:World) (hW:Below w2.heap.size w2 W)=>(show Calls Tryz.prog 76 #[.slice (some ⟨g,0,none⟩) (packLen sz (sortS ss)) (packLen sz (sortS ss))] W (DiskP W (packZ sz (sortS ss))) from by
   have:=diskNew_any (packZ sz (sortS ss)) (some ⟨g,0,none⟩) (packLen sz (sortS ss)) W (by rw [hll]; omega) ((bytes_at_row hby).later hW)
   rw [hll] at this
   exact this))
  unfold DiskP at HDn
  clear hE h24 hg hby hb2 hlb hll
  go_wp2_with (go_at_call 75; fail)
  refine HPa.out.mono ?_
  rintro e w3 ⟨x,rfl,hx,hB,hb3⟩
  have HB:=hid hB
  have B3:=hid (bnext B2.out hb3)
  have HD3:=hid (HDn.out w3 hb3)
  have Hx:=hid (show w.heap.size<=x from Nat.le_trans B2.out.size hx)
  clear hB hb3 hx HPa HDn
  go_wp2_with (go_at_call 76; fail)
  refine HD3.out.mono ?_
  rintro e w4 ⟨gd,Ai,gm,rfl,hD,hgd,hgm,hmd,hAi,hb4⟩
  have HCn:=hid (cacheNew_any w4 gd slots retry)
  have D4:=hid hD
  have B4:=hid hb4
  have Hdd:=hid (show w3.heap.size<=gd/\w3.heap.size<=gm/\gm < gd/\(∀ ad,Ai=some ad->w3.heap.size<=ad.block/\ad.block < gm)/\gd < w4.heap.size from ⟨hgd,hgm,hmd,hAi,by obtain ⟨ci,hd⟩:=hD.blk; exact hd.lt⟩)
  unfold CNewP at HCn
  clear hD hgd hgm hmd hAi hb4 HD3
  go_wp2_with (go_at_call 77; fail)
  refine HCn.out.mono ?_
  rintro e w5 (⟨hbad,rfl,rfl⟩ | ⟨hok,gc,gs,rfl,hgc,hgs,hC5,hb5⟩)
  ·have HE:=hid (show ∃ ss,S ss/\MadeF w size ss slots retry (.returned (.pointer none)) w4 from ⟨ss,HS.out,bnext B3.out B4.out,.inl ⟨.inr hbad,rfl⟩⟩)
   clear hbad
   go_wp2
   go_ret
   exact HE.out
  ·have C5:=hid hC5
   have B5:=hid hb5
   have Hok:=hid hok
   have Hcs:=hid (show w4.heap.size<=gc/\w4.heap.size<=gs/\gc < w5.heap.size/\gs < w5.heap.size from ⟨hgc,hgs,hC5.head.lt,hC5.slots.lt⟩)
   have HFn:=hid (fetchNew_any (HB.out.later (bnext B4.out B5.out)) (by have:=HC.out.lo; omega) hC5)
   clear hC5 hb5 hok hgc hgs HCn
   go_wp2_with (go_at_call 23; refine HFn.out.mono ?_; rintro e w6 ⟨rfl,hX6,hb6⟩)
   have hE7:=bnew w6 (.cells #[.pointer (some ⟨x,0,none⟩),.pointer (some ⟨gd,0,none⟩),.pointer (some ⟨w5.heap.size,0,none⟩),.slice (some ⟨g,0,none⟩) (packLen sz (sortS ss)) (packLen sz (sortS ss))] 32)
   have hG7:Blk (w6.alloc (.cells #[.pointer (some ⟨x,0,none⟩),.pointer (some ⟨gd,0,none⟩),.pointer (some ⟨w5.heap.size,0,none⟩),.slice (some ⟨g,0,none⟩) (packLen sz (sortS ss)) (packLen sz (sortS ss))] 32)) w6.heap.size 32 [.pointer (some ⟨x,0,none⟩),.pointer (some ⟨gd,0,none⟩),.pointer (some ⟨w5.heap.size,0,none⟩),.slice (some ⟨g,0,none⟩) (packLen sz (sortS ss)) (packLen sz (sortS ss))]:=Blk.new w6 _ _
   have hD:=Hdd.out
   have hc:=Hcs.out
   have s3:=B3.out.size
   have s4:=B4.out.size
   have s5:=B5.out.size
   have s6:=hb6.size
   have hB57:=bnext (bnext B5.out hb6) hE7
   generalize w6.alloc (.cells #[.pointer (some ⟨x,0,none⟩),.pointer (some ⟨gd,0,none⟩),.pointer (some ⟨w5.heap.size,0,none⟩),.slice (some ⟨g,0,none⟩) (packLen sz (sortS ss)) (packLen sz (sortS ss))] 32)=w7 at *
   have hH:=hX6.below hE7 hX6.lt
   have hCK:CacheOk w7 (packZ sz (sortS ss)) gc gd gs Ai gm 0 0 ⟨0,0,0,0,0,retry.toNat,List.replicate slots.toNat default⟩:=(C5.out.below (bnext hb6 hE7)).fresh (D4.out.later hB57) (fun ad had=>by have:=hD.2.2.2.1 ad had; omega)
   have hOK:FetchOk w3 w7 (packZ sz (sortS ss)) sz (packDir sz (sortS ss)) x gc gd gs w5.heap.size Ai gm 0 0 ⟨0,0,0,0,0,retry.toNat,List.replicate slots.toNat default⟩ 0 0 :=
    ⟨HB.out,HC.out.fit,HC.out.even,bnext B4.out hB57,by omega,by omega,by omega,by omega,fun ad had=>by have:=hD.2.2.2.1 ad had; omega,hH,hCK,⟨⟨Int.le_refl _,Int.le_refl _⟩,⟨Int.le_refl _,Int.le_refl _⟩⟩⟩
   have HEnd:=hid (show ∃ ss,S ss/\MadeF w size ss slots retry (.returned (.pointer (some ⟨w6.heap.size,0,none⟩))) w7 from ⟨ss,HS.out,bnext (bnext B3.out B4.out) hB57,.inr ⟨HE.out,Hok.out,sz,w6.heap.size,x,gc,gd,gs,w5.heap.size,Ai,gm,g,w3,Hsz.out,HC.out,rfl,s3,by omega,hG7,hOK⟩⟩)
   clear hX6 hb6 hE7 hG7 hD hc s3 s4 s5 s6 hB57 hH hCK hOK
   go_ret
   exact HEnd.out
end
section
open Go.RowKit Go.Lib
theorem made18_any (L:List (HSamp × SampV)) (A:Option Addr) (cap:Nat) (size slots retry:Int) (w:World) (hs:SampsAt w w.heap.size A L) (hnm:∀ p ∈ L,p.2.name.size<=9223372036854775807) :
  Calls Tryz.prog 14 #[.int .i64 size,.slice A L.length cap,.int .i64 slots,.int .i64 retry] w fun e w'=>∃ ss,MadeF w size ss slots retry e w':=by
 refine (made18_core (fun _=>True) size _ slots retry w ((Few15_any L A cap w hs hnm).mono ?_)).mono ?_
 ·rintro e w' ⟨A',c,M,he,h8,_,_,hn,hs',hsm,hb⟩
  exact ⟨A',c,M,he,trivial,h8,hn,hs',hsm,hb⟩
 ·rintro e w' ⟨ss,_,h⟩
  exact ⟨ss,h⟩
theorem CanP.had {size:Nat} {SS:List SampV} (h:CanP size SS) {i c b:Int} (hE:whereE (packDir size SS) i c b=0):openE (packDir size SS) (packZ size SS) i c b (subB (packZ size SS) (whereAt (packDir size SS) size i c b).toNat size)=0 /\
  openF (packDir size SS) (packZ size SS) i c b (subB (packZ size SS) (whereAt (packDir size SS) size i c b).toNat size)=rdF (subB (packZ size SS) (whereAt (packDir size SS) size i c b).toNat size)/\rdErr (subB (packZ size SS) (whereAt (packDir size SS) size i c b).toNat size)=0:=by
 obtain ⟨m,s,d,x,e1,e2,e3,e4,e5,e6⟩:=h.asked hE
 have hc:c=(c.toNat:Nat)/\b=(b.toNat:Nat):=by
  unfold whereE at hE
  split at hE
  ·cases hE
  split at hE
  ·cases hE
  omega
 obtain ⟨_,q2,q3,_⟩:=h.opened e2 e3 e4
 have hx:openE (packDir size SS) (packZ size SS) i c b (subB (packZ size SS) (whereAt (packDir size SS) size i c b).toNat size)=0:=by
  rw [e5,e1,hc.1,hc.2]; exact q3
 refine ⟨hx,?_,?_⟩
 ·unfold openF
  rw [if_pos hx]
 ·unfold openE at hx
  rw [if_neg (by simpa using hE)] at hx
  split at hx
  ·cases hx
  split at hx
  ·cases hx
  ·rename_i h1
   simpa using h1
end
section
open Go.RowKit Go.Lib
noncomputable def hadF (D:List MetaV) (bs:List Nat) (size:Nat) (i c b:Int):FrameV:=if whereE D i c b=0 then rdF (subB bs (whereAt D size i c b).toNat size) else zeroFr
def BytR (w:World) (size:Nat) (ys:List Nat) (E:Int) (e:Ending) (w':World):Prop :=
 ∃ A k c,e=.returned (.tuple #[.slice A k c,.int .i64 E])/\Below w.heap.size w w'/\(E=0->k=size/\size<=c/\c<=9223372036854775807/\Row w' w'.heap.size A (u8s ys))
theorem bytR {w:World} {D:List MetaV} {bs:List Nat} {size:Nat} {i c b:Int} {e:Ending} {w':World} (h:BytesP w D bs size i c b e w'):BytR w size (subB bs (whereAt D size i c b).toNat size) (whereE D i c b) e w':=by
 obtain ⟨hb,⟨h1,rfl⟩ | ⟨h1,A,c',rfl,h2,h3,_,h5⟩⟩:=h
 ·exact ⟨none,0,0,rfl,hb,fun h=>absurd h h1⟩
 ·exact ⟨A,size,c',by rw [h1],hb,fun _=>⟨rfl,h2,h3,h5⟩⟩
end
end Go.Proofs.YtnbbfblaipjcmaaGreatDoor
