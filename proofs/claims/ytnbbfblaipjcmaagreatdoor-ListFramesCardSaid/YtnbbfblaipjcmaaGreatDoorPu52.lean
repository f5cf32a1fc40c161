/- ListL, ListM, ListN, LawLF. Conditions: as each theorem states. -/
import Derived.Test.YtnbbfblaipjcmaaGreatDoorPu47
import Derived.Test.YtnbbfblaipjcmaaGreatDoorPu50
import Derived.Test.YtnbbfblaipjcmaaGreatDoorPu49
import Derived.Test.YtnbbfblaipjcmaaGreatDoorPu43
import Derived.Test.YtnbbfblaipjcmaaGreatDoorPu51
set_option maxRecDepth 100000
set_option maxHeartbeats 64000000
namespace Go.Proofs.YtnbbfblaipjcmaaGreatDoor
section
open Go.RowKit Go.Lib
theorem rightF_told {f:FrameV} (h:RightF f):f.told:=by
 have hmem:∀ (l:List Int) (n:Nat) (P:Int->Prop),l.length=n->(∀ k,k < n->P (bgt l k))->∀ x ∈ l,P x:=fun l n P hl hP x hx=>by
  obtain ⟨k,hk⟩:=List.getElem?_of_mem hx
  have:=(List.getElem?_eq_some_iff.1 hk).1
  have h2:=hP k (by omega)
  rw [bgt_get hk] at h2
  exact h2
 refine ⟨h.len,hmem _ 4 InR h.gains.1 (fun k hk=>?_),fun t ht=>?_,hmem _ 4 InR h.scale.1 (fun k hk=>?_),hmem _ 4 InR h.wlen (fun k hk=>?_),hmem _ 16 InR h.qlen (fun k hk=>?_),by have:=h.tlen; omega⟩
 ·have:=h.gains.2 k hk
  exact ⟨by omega,by omega⟩
 ·have:=h.tidx t ht
  exact ⟨⟨by omega,by omega⟩,⟨by omega,by omega⟩⟩
 ·have:=h.scale.2 k hk
  exact ⟨by omega,by omega⟩
 ·have:=h.width k hk
  exact ⟨by omega,by omega⟩
 ·have:=h.qbd hk
  exact ⟨by omega,by omega⟩
theorem zeroFr_told:zeroFr.told :=
 ⟨⟨rfl,rfl,rfl,rfl⟩,fun x hx=>by
  have hx:x ∈ zero4:=hx
  simp [zero4] at hx
  subst hx; exact ⟨by omega,by omega⟩,fun t ht=>(by cases ht),fun x hx=>by
  have hx:x ∈ zero4:=hx
  simp [zero4] at hx
  subst hx; exact ⟨by omega,by omega⟩,fun x hx=>by
  have hx:x ∈ zero4:=hx
  simp [zero4] at hx
  subst hx; exact ⟨by omega,by omega⟩,fun x hx=>by
  have hx:x ∈ zero16:=hx
  simp [zero16] at hx
  subst hx; exact ⟨by omega,by omega⟩,Nat.zero_le _⟩
theorem rdF_told (B:List Nat):(rdF B).told:=by
 unfold rdF
 split
 ·rename_i h
  have:RightF (frameR B):=by
   unfold rdErr at h
   split at h
   ·rename_i h1; exact absurd h h1
   ·split at h
    ·assumption
    ·cases h
  exact rightF_told this
 ·exact zeroFr_told
theorem hadF_told (D:List MetaV) (bs:List Nat) (size:Nat) (i c b:Int):(hadF D bs size i c b).told:=by
 unfold hadF
 split
 ·exact rdF_told _
 ·exact zeroFr_told
theorem frameS_size {f:FrameV} (h:f.told):(frameS f).size<=2400:=by
 have h1:=joinS_le _ (wBands_small f 4)
 have h2:=wBands_len h.len 4
 have h3:=h.few
 unfold frameS rowS
 rw [ByteArray.size_append]
 show _+1<=_
 omega
noncomputable def frT (D:List MetaV) (bs:List Nat) (size:Nat) (i c:Int):Nat->ByteArray
 | 0=>⟨#[]⟩
 | k+1=>frT D bs size i c k ++ frameS (hadF D bs size i c (k:Int))
theorem frT_size (D:List MetaV) (bs:List Nat) (size:Nat) (i c:Int):∀ k,(frT D bs size i c k).size<=k*2400
 | 0=>Nat.le_refl _
 | k+1=>by
  have h1:=frT_size D bs size i c k
  have h2:=frameS_size (hadF_told D bs size i c (k:Int))
  show (frT D bs size i c k ++ frameS (hadF D bs size i c (k:Int))).size<=_
  rw [ByteArray.size_append,Nat.succ_mul]
  omega
theorem hadOpen {SS:List SampV} {size g:Nat} (hC:CanP size SS) {W:World} (hB:BankAt W g (packZ size SS) size (packDir size SS)) {i c b:Int} (hE:whereE (packDir size SS) i c b=0) (A:Option Addr) (cb:Nat)
  (hr:Row W W.heap.size A (u8s (subB (packZ size SS) (whereAt (packDir size SS) size i c b).toNat size))) :
  Calls Tryz.prog 34 #[.pointer (some ⟨g,0,none⟩),.int .i64 i,.int .i64 c,.int .i64 b,.slice A size cb] W (FitPost W (hadF (packDir size SS) (packZ size SS) size i c b) 0):=by
 have hl:=subB_len (packZ size SS) (whereAt (packDir size SS) size i c b).toNat size
 have hfit:=hC.fit
 have h:=Open_any g size (packZ size SS) (packDir size SS) i c b (subB (packZ size SS) (whereAt (packDir size SS) size i c b).toNat size) A cb W hB hfit (by rw [hl]; have:=hfit.hi; omega) (subB_byt hfit.byt _ _) hr
 obtain ⟨h1,h2,_⟩:=hC.had hE
 rw [hl,h1,h2] at h
 have hh:hadF (packDir size SS) (packZ size SS) size i c b=rdF (subB (packZ size SS) (whereAt (packDir size SS) size i c b).toNat size):=if_pos hE
 rw [hh]
 exact h
end
section
open Go.RowKit Go.Lib
noncomputable def frsS (D:List MetaV) (bs:List Nat) (size:Nat) (i c:Int):ByteArray:=if metaE D i ≠ 0\/c < 0\/(metaI D i).channels<=c then ⟨#[]⟩ else frT D bs size i c (countZ (metaI D i).length).toNat
theorem where_ok {D:List MetaV} {i c:Int} (h:¬ (metaE D i ≠ 0\/c < 0\/(metaI D i).channels<=c)) {k:Nat} (hk:k < (countZ (metaI D i).length).toNat):whereE D i c (k:Int)=0:=by
 unfold whereE
 rw [if_neg (by omega),if_neg (by omega)]
theorem metaI_right {D:List MetaV} (hD:∀ x ∈ D,x.right=true) {i:Int} (h:metaE D i=0):(metaI D i).right=true:=by
 unfold metaE at h
 unfold metaI
 split at h
 ·cases h
 ·rename_i h1
  rw [if_neg h1]
  have hl:i.toNat < D.length:=by omega
  rw [List.getD_eq_getElem?_getD,List.getElem?_eq_getElem hl]
  exact hD _ (List.getElem_mem hl)
theorem listFrames_any {SS:List SampV} {size g:Nat} (hC:CanP size SS) {w:World} (hB:BankAt w g (packZ size SS) size (packDir size SS)) (i c:Int) :
  Calls Tryz.prog 32 #[.pointer (some ⟨g,0,none⟩),.int .i64 i,.int .i64 c] w fun e w'=>e=.returned (.string (frsS (packDir size SS) (packZ size SS) size i c))/\Below w.heap.size w w':=by
 have hfit:=hC.fit
 have hsz:=hfit.lo
 have HMe:=hid (BMeta_any g size _ _ i w hB (by omega) (by have:=hfit.many; omega))
 have HBy:=hid (fun (b:Int) W (hW:Below w.heap.size w W)=>(Bytes_any g size _ _ i c b W (hB.later hW) hfit).mono fun e w' h=>bytR h)
 have HOp:=hid (fun (b:Int) (hE:whereE (packDir size SS) i c b=0) W (hW:Below w.heap.size w W) A cb hr=>hadOpen hC (W:=W) (hB.later hW) hE A cb hr)
 have HWo:=hid (fun h k (hk:k < (countZ (metaI (packDir size SS) i).length).toNat)=>where_ok (D:=packDir size SS) (i:=i) (c:=c) h hk)
 have HTo:=hid (fun (b:Int)=>hadF_told (packDir size SS) (packZ size SS) size i c b)
 have HFT:=hid (fun (k:Nat)=>(show frT (packDir size SS) (packZ size SS) size i c (k+1)=frT (packDir size SS) (packZ size SS) size i c k ++ frameS (hadF (packDir size SS) (packZ size SS) size i c (k:Int)) from rfl))
 have HFz:=hid (fun (k:Nat)=>frT_size (packDir size SS) (packZ size SS) size i c k)
 have HF0:=hid (show frT (packDir size SS) (packZ size SS) size i c 0=⟨#[]⟩ from rfl)
 have HFr:=hid (show frsS (packDir size SS) (packZ size SS) size i c=if metaE (packDir size SS) i ≠ 0\/c < 0\/(metaI (packDir size SS) i).channels<=c then ⟨#[]⟩ else frT (packDir size SS) (packZ size SS) size i c (countZ (metaI (packDir size SS) i).length).toNat from rfl)
 have HRg:=hid (fun (h:metaE (packDir size SS) i=0)=>right_bds (metaI_right hfit.right h))
 have HMf:=hid (show (Tryz.prog.info? 37).map (·.size)=some 9 by kernel_rfl)
 unfold BytR at HBy
 unfold FitPost at HOp
 have HO1:=hid (meta_all (metaI (packDir size SS) i))
 have hxl:(metaI (packDir size SS) i).cells.length=9:=rfl
 generalize packZ size SS=bs at *
 generalize packDir size SS=D at *
 generalize frsS D bs size i c=FR at *
 obtain ⟨M,hM⟩:∃ M,metaI D i=M:=⟨_,rfl⟩
 obtain ⟨ME,hME⟩:∃ ME,metaE D i=ME:=⟨_,rfl⟩
 rw [hM,hME] at HMe HFr HWo
 rw [hM] at hxl HO1 HRg
 rw [hME] at HRg
 obtain ⟨xs,hxs⟩:∃ xs,M.cells=xs:=⟨_,rfl⟩
 have hx1:xs[1]? = some (.int .i64 M.length):=by rw [<-hxs]; rfl
 have hx3:xs[3]? = some (.int .i64 M.channels):=by rw [<-hxs]; rfl
 rw [hxs] at hxl HO1 HMe
 have HFa:=hid (show (Tryz.prog.info? 37).map (·.size)=some xs.toArray.size by rw [List.size_toArray,hxl]; exact HMf.out)
 have HXl:=hid (show xs.toArray.size=9 by rw [List.size_toArray,hxl])
 have Hx1:=hid hx1
 have Hx3:=hid hx3
 generalize M.length=len at *
 generalize M.channels=ch at *
 clear hB hM hME hxs hxl hx1 hx3 hC hfit
 go_enter Tryz.func32,Tryz.ntmps32
 go_wp2_with (go_at_call 31; fail)
 refine HMe.out.mono ?_
 rintro e w2 ⟨rfl,hb2⟩
 obtain ⟨w3,hw3⟩:∃ w3,w2.alloc (.cells xs.toArray 37)=w3:=⟨_,rfl⟩
 obtain ⟨g7,hg7⟩:∃ g7,w2.heap.size=g7:=⟨_,rfl⟩
 have B3:=hid (show Below w.heap.size w w3 by rw [<-hw3]; exact bnext hb2 (bnew w2 _))
 have X3:=hid (show Blk w3 g7 37 xs by rw [<-hw3,<-hg7]; exact Blk.new w2 _ xs)
 have c1:w3.cell? ⟨g7,1,none⟩=some (.int .i64 len):=(X3.out.cell 1).trans Hx1.out
 have c3:w3.cell? ⟨g7,3,none⟩=some (.int .i64 ch):=(X3.out.cell 3).trans Hx3.out
 have Hw3:=hid hw3
 have Hg7:=hid hg7
 clear hb2 hw3 hg7
 have hcs:(ME ≠ 0)\/(ME=0/\c < 0)\/(ME=0/\¬ c < 0/\ch<=c)\/(ME=0/\¬ c < 0/\¬ ch<=c):=by omega
 rcases hcs with h1 | ⟨rfl,h2⟩ | ⟨rfl,h2,h3⟩ | ⟨rfl,h2,h3⟩
 ·have t1:(ME != 0)=true:=by rw [bne_iff_ne]; exact h1
  have e0:=HFr.out
  rw [if_pos (.inl h1)] at e0
  clear h1
  go_wp2_with (refine wpList_store_row_w rfl 37 (.tmp 7) (.tmp 19) rfl w2.heap.size rfl _ _ xs.toArray rfl (heap_alloc_new w2 _) HFa.out (by rw [HXl.out]; rfl) HO1.out ?_; rw [World.setRow_alloc_new,Hw3.out,Hg7.out])
  go_ret
  exact ⟨by rw [e0]; rfl,B3.out⟩
 ·have t1:((0:Int) != 0)=false:=rfl
  have e0:=HFr.out
  rw [if_pos (.inr (.inl h2))] at e0
  go_wp2_with (refine wpList_store_row_w rfl 37 (.tmp 7) (.tmp 19) rfl w2.heap.size rfl _ _ xs.toArray rfl (heap_alloc_new w2 _) HFa.out (by rw [HXl.out]; rfl) HO1.out ?_; rw [World.setRow_alloc_new,Hw3.out,Hg7.out])
  go_ret
  exact ⟨by rw [e0]; rfl,B3.out⟩
 ·have t1:((0:Int) != 0)=false:=rfl
  have e0:=HFr.out
  rw [if_pos (.inr (.inr h3))] at e0
  go_wp2_with (refine wpList_store_row_w rfl 37 (.tmp 7) (.tmp 19) rfl w2.heap.size rfl _ _ xs.toArray rfl (heap_alloc_new w2 _) HFa.out (by rw [HXl.out]; rfl) HO1.out ?_; rw [World.setRow_alloc_new,Hw3.out,Hg7.out])
  go_ret
  exact ⟨by rw [e0]; rfl,B3.out⟩
 ·have t1:((0:Int) != 0)=false:=rfl
  have e0:=HFr.out
  have hno:¬ ((0:Int) ≠ 0\/c < 0\/ch<=c):=by omega
  rw [if_neg hno] at e0
  have HW:=hid (HWo.out hno)
  have hrg:=HRg.out rfl
  obtain ⟨n,hn⟩:∃ n,(countZ len).toNat=n:=⟨_,rfl⟩
  have hcz:0<=countZ len/\countZ len<=65537:=by unfold countZ; split <;> omega
  have hnz:countZ len=(n:Int):=by omega
  have hnl:n<=65537:=by omega
  have HCo:=hid (fun W=>CountI_any len W (by omega))
  rw [hnz] at HCo
  rw [hn] at e0 HW
  have He0:=hid e0
  clear e0 hno hrg hn hcz hnz HWo HFr HRg
  go_wp2_with (first | (refine wpList_store_row_w rfl 37 (.tmp 7) (.tmp 19) rfl w2.heap.size rfl _ _ xs.toArray rfl (heap_alloc_new w2 _) HFa.out (by rw [HXl.out]; rfl) HO1.out ?_; rw [World.setRow_alloc_new,Hw3.out,Hg7.out]) | (go_at_call 90; refine (HCo.out _).mono ?_; rintro e w' ⟨rfl,rfl⟩))
  go_loopw [36,9] (fun j s wr=>∃ (k:Nat),k<=n/\j=.int .i64 k/\s=.string (frT D bs size i c k)/\Below w3.heap.size w3 wr) (fun j _ _=>n - (intOf j).toNat)
  case atStart=>exact ⟨0,by omega,rfl,by rw [HF0.out],Below.refl _ _⟩
  case round =>
   obtain ⟨k,hk,rfl,rfl,hbel⟩:=hrel
   have Hbel:=hid hbel
   clear hbel
   obtain ⟨wa,rfl⟩:∃ wa,wa=wr:=⟨_,rfl⟩
   by_cases hkn:k < n
   ·have u1:(k:Int) < (n:Int):=by omega
    have u2:(0:Int)<=(k:Int):=by omega
    have hE:=HW.out (k:=k) hkn
    have HB:=hid (HBy.out (k:Int) wa (bnext B3.out Hbel.out))
    have HO:=hid (HOp.out (k:Int) hE)
    rw [hE] at HB
    have HFt:=hid (HFT.out k)
    have hto:=hid (HTo.out (k:Int))
    have hsz1:=HFz.out k
    obtain ⟨HF,hHF⟩:∃ HF,hadF D bs size i c (k:Int)=HF:=⟨_,rfl⟩
    rw [hHF] at HO HFt hto
    have hfs:=frameS_size hto.out
    have HFm:=hid (fun (A0:Option Addr) (c0:Nat) W hr=>listFrame_any HF A0 c0 W hto.out hr)
    generalize frT D bs size i c k=S at *
    generalize frameS HF=FS at *
    have q1:¬ 9223372036854775807 < S.size+FS.size:=by omega
    clear hE hHF hsz1 hfs
    go_wp2_with (go_at_call 33; fail)
    refine HB.out.mono ?_
    rintro e w5 ⟨Ay,ky,cy,rfl,hb5,hy⟩
    obtain ⟨rfl,-,-,hrY⟩:=hy (by trivial)
    have B5:=hid (bnext Hbel.out hb5)
    have HO5:=hid (HO.out w5 (bnext B3.out B5.out) Ay cy hrY)
    clear hb5 hrY HB
    go_wp2_with (go_at_call 34; fail)
    refine HO5.out.mono ?_
    rintro e w6 ⟨Af,cf,rfl,-,-,-,hrow,hb6⟩
    have B6:=hid (bnext B5.out hb6)
    obtain ⟨fl,hfl⟩:∃ fl,frameA HF (.slice Af HF.tones.length cf)=fl:=⟨_,rfl⟩
    have hfs:fl.size=29:=by rw [<-hfl]; exact frameA_size hto.out.len _
    have Hfs:=hid hfs
    have HFf:=hid (show (Tryz.prog.info? 50).map (·.size)=some fl.size by rw [hfs]; exact inf_frame)
    have Hf1:=hid (show fl.all (·.oneCell')=true by rw [<-hfl]; exact frameA_one HF rfl)
    have HCf:=hid (fun W hr=>HFm.out Af cf W hr)
    rw [hfl] at HCf ⊢
    obtain ⟨w7,hw7⟩:∃ w7,w6.alloc (.cells fl 50)=w7:=⟨_,rfl⟩
    have B7:=hid (show Below w3.heap.size w3 w7 by rw [<-hw7]; exact bnext B6.out (bnew w6 _))
    have F7:=hid (show w7.heap[w6.heap.size]? = some (.cells fl 50 (0,0)) by rw [<-hw7]; exact heap_alloc_new w6 _)
    have HC7:=hid (HCf.out w7 (by rw [<-hw7]; exact hrow.later (bnew w6 _)))
    have Hw7:=hid hw7
    clear hb6 hrow hfl hfs hw7 HO5
    go_wp2_with (first | (refine wpList_store_row_w rfl 50 (.tmp 13) (.tmp 54) rfl w6.heap.size rfl _ _ fl rfl (heap_alloc_new w6 _) HFf.out (by rw [Hfs.out]; rfl) Hf1.out ?_; rw [World.setRow_alloc_new,Hw7.out]) | (refine wpList_load_row_w rfl 50 (.tmp 13) rfl w6.heap.size rfl _ fl _ _ F7.out Tryz.underlying50 rfl HFf.out ?_) | (go_at_call 29; refine HC7.out.mono ?_; rintro e w8 ⟨rfl,hb8⟩))
    go_roundw
    case rel=>exact ⟨k+1,by omega,by go_num,by rw [HFt.out],bnext B7.out hb8⟩
    case measure=>first | (simp [intOf]; done) | (simp [intOf]; omega)
   ·obtain rfl:k=n:=by omega
    have u1:¬ (k:Int) < (k:Int):=by omega
    go_wp2_with fail
    go_ret
    exact ⟨by rw [He0.out]; rfl,bnext B3.out Hbel.out⟩
end
section
open Go.RowKit Go.Lib
theorem tones_of64 {w:World}:∀ (css:List (List Value)),(∀ cs ∈ css,Shape w toneTy cs)->∃ L:List ToneV,css=L.map ToneV.cells/\∀ t ∈ L,InR t.idx/\InR t.val
 | [],_=>⟨[],rfl,nofun⟩
 | cs :: r,h=>by
  obtain ⟨c1,r1,e,⟨x,rfl,x1,x2⟩,c2,r2,rfl,⟨y,rfl,y1,y2⟩,rfl⟩:=h cs (by simp)
  obtain ⟨L,rfl,hL⟩:=tones_of64 r (fun c hc=>h c (by simp [hc]))
  refine ⟨⟨x,y⟩ :: L,by rw [e]; rfl,fun t ht=>?_⟩
  rcases List.mem_cons.1 ht with rfl | ht
  ·exact ⟨⟨x1,x2⟩,⟨y1,y2⟩⟩
  ·exact hL t ht
theorem frame_shape64 {w:World} {cs:List Value} (h:Shape w frTy cs):∃ p:FrH × FrameV,cs=frC p/\p.2.Len/\Tones w p/\NilTight p/\(fewF p.2).told:=by
 obtain ⟨c1,r1,rfl,h1,c2,r2,rfl,h2,c3,r3,rfl,h3,c4,r4,rfl,h4,c5,r5,rfl,h5,rfl⟩:=h
 obtain ⟨gs,hg,rfl,ig⟩:=rep_ints 4 c1 h1
 obtain ⟨sc,hs,rfl,is⟩:=rep_ints 4 c3 h3
 obtain ⟨wd,hw,rfl,iw⟩:=rep_ints 4 c4 h4
 obtain ⟨q,hq,rfl,iq⟩:=rep_ints 16 c5 h5
 obtain ⟨a,len,cap,rfl,hl,hc,hnil,hel⟩:=h2
 obtain ⟨css,hcl,_,hsh,hrow⟩:=rows_of_shape hel
 obtain ⟨ts,rfl,ht⟩:=tones_of64 css hsh
 rw [List.length_map] at hcl
 subst hcl
 exact ⟨(⟨a,cap⟩,⟨gs,ts,sc,wd,q⟩),by simp [frC,FrameV.cells],⟨hg,hs,hw,hq⟩,⟨hl,hc,hrow⟩,fun h=>(hnil h).2,
  ⟨⟨hg,hs,hw,hq⟩,fun x hx=>ig x hx,fun t h=>ht t (List.mem_of_mem_take h),fun x hx=>is x hx,fun x hx=>iw x hx,fun x hx=>iq x hx,by show (ts.take 5).length<=5; rw [List.length_take]; omega⟩⟩
end
section
open Go.RowKit Go.Lib
theorem ListFrames_walk (L0:List (HSamp × SampV)) (A0:Option Addr) (cap0:Nat) (i c:Int) (p:FrH × FrameV) (w:World) (hs0:SampsAt w w.heap.size A0 L0) (hnm:∀ p ∈ L0,p.2.name.size<=9223372036854775807)
  (hL:p.2.Len) (hT:Tones w p) (hN:NilTight p) (hto:(fewF p.2).told) :
  Calls Tryz.prog 5 #[.slice A0 L0.length cap0,.int .i64 i,.int .i64 c,.agg (frC p).toArray] w fun e w'=>e=.returned (.bool true)/\Below w.heap.size w w':=by
 have HM:=hid (fun W (hW:Below w.heap.size w W)=>made18_any L0 A0 cap0 24 1 0 W (hs0.later hW) hnm)
 have HAw:=hid (fun W=>awake31_any W)
 unfold MadeF at HM
 generalize L0.length=l0 at *
 obtain ⟨⟨Af,cf⟩,f⟩:=p
 obtain ⟨hT1,hT2,hT3⟩:=hT
 simp only at hT1 hT2 hT3 hL hto
 have HFew:=hid (fun W=>Few10_any f Af cf W hL hT1 hT2 hN)
 have hrow:Row w w.heap.size Af (toneCells (fewF f).tones):=by
  have e:toneCells (fewF f).tones=(toneCells f.tones).take (5*2):=by
   show toneCells (f.tones.take 5)=_
   unfold toneCells
   have h:∀ (l:List ToneV) (n:Nat),((l.take n).map ToneV.cells).flatten=((l.map ToneV.cells).flatten).take (n*2):=by
    intro l
    induction l with
    | nil=>intro n; simp
    | cons t r ih =>
     intro n
     cases n with
     | zero=>simp
     | succ n =>
      rw [List.take_succ_cons,List.map_cons,List.map_cons,List.flatten_cons,List.flatten_cons,ih n,Nat.succ_mul]
      show [_,_] ++ _=List.take (n*2+2) ([_,_] ++ _)
      simp
   exact h f.tones 5
  rw [e]
  exact take_row hT3 _
 have HFm:=hid (fun W (hW:Below w.heap.size w W)=>listFrame_any (fewF f) Af cf W hto (hrow.later hW))
 have HFl:=hid (fun W (hW:Below w.heap.size w W)=>lawFrame31_any (fewF f) Af cf W hto (hrow.later hW))
 obtain ⟨fc,hfc⟩:∃ fc,frameA f (.slice Af f.tones.length cf)=fc:=⟨_,rfl⟩
 obtain ⟨fk,hfk⟩:∃ fk,frameA (fewF f) (.slice Af (fewF f).tones.length cf)=fk:=⟨_,rfl⟩
 have hcs:fc.size=29:=by rw [<-hfc]; exact frameA_size hL _
 have hks:fk.size=29:=by rw [<-hfk]; exact frameA_size hto.len _
 have Hcs:=hid hcs
 have Hks:=hid hks
 have HFc:=hid (show (Tryz.prog.info? 50).map (·.size)=some fc.size by rw [hcs]; exact inf_frame)
 have HFk:=hid (show (Tryz.prog.info? 50).map (·.size)=some fk.size by rw [hks]; exact inf_frame)
 have Hk1:=hid (show fk.all (·.oneCell')=true by rw [<-hfk]; exact frameA_one (fewF f) rfl)
 rw [hfc,hfk] at HFew
 rw [hfk] at HFm HFl
 have HMf:=hid (show (Tryz.prog.info? 37).map (·.size)=some 9 by kernel_rfl)
 generalize frameS (fewF f)=FS at *
 show Calls Tryz.prog 5 #[.slice A0 l0 cap0,.int .i64 i,.int .i64 c,.agg (frameA f (.slice Af f.tones.length cf))] w _
 rw [hfc]
 obtain ⟨w1,hw1⟩:∃ w1,w.alloc (.cells fc 50)=w1:=⟨_,rfl⟩
 obtain ⟨g,hg⟩:∃ g,w.heap.size=g:=⟨_,rfl⟩
 have B1:=hid (show Below w.heap.size w w1 by rw [<-hw1]; exact bnew w _)
 have X1:=hid (show w1.heap[g]? = some (.cells fc 50 (0,0)) by rw [<-hw1,<-hg]; exact heap_alloc_new w _)
 have Hg:=hid hg
 clear hs0 hnm hT1 hT2 hT3 hrow hto hfc hfk hcs hks hL hN
 go_enter Tryz.func5,Tryz.ntmps5
 go_wp2_with (first | (refine wpList_load_row_w rfl 50 (.tmp 7) rfl g rfl _ fc _ _ X1.out Tryz.underlying50 rfl HFc.out ?_) | (go_at_call 28; fail))
 refine (HFew.out w1).mono ?_
 rintro e w2 ⟨rfl,hb2⟩
 have X2:=hid (hkeep X1.out hb2)
 obtain ⟨w3,hw3⟩:∃ w3,w2.setRow g fk=w3:=⟨_,rfl⟩
 have B3:=hid (show Below w.heap.size w w3 by rw [<-hw3]; exact setRow_below (bnext B1.out hb2) _ (by rw [<-hg]; exact Nat.le_refl _) _)
 have X3:=hid (show w3.heap[g]? = some (.cells fk 50 (0,0)) by rw [<-hw3]; exact setRow_heap _ _ _ _ _ _ X2.out)
 have Hw3:=hid hw3
 clear hb2 hw3 hw1 hg
 go_wp2_with (refine wpList_store_row_w rfl 50 (.tmp 7) (.tmp 20) rfl g rfl _ _ fk rfl X2.out HFk.out (by rw [Hks.out,Hcs.out]) Hk1.out ?_; rw [Hw3.out])
 have P3:=gw_heap X3.out
 have HFm3:=hid (fun (z:GW w3)=>HFm.out z.1 (bnext B3.out z.2))
 have HFl3:=hid (fun (z:GW w3)=>HFl.out z.1 (bnext B3.out z.2))
 simp only [Act.put]
 go_wp2_with fail
 refine wp_region_calm (by kernel_rfl) (by kernel_rfl) ?_
 repeat (first | (go_big_quiet_want; refine quiet_load_row 50 (.tmp 7) rfl g rfl _ fk _ _ P3 Tryz.underlying50 rfl HFk.out ?_; go_simp; go_big_quiet_on) | go_big_quiet_step (first | (go_at_call 29; exact calm_call (HFm3.out _)) | (go_at_call 30; exact calm_call (HFl3.out _))))
 refine wpQuiet_nil ?_
 intro w4 hw'
 have B4:=hid (bnext B3.out (gw_below hw'))
 clear hw'
 go_wp2_with (go_at_call 14; fail)
 refine (HM.out w4 B4.out).mono ?_
 rintro e w5 ⟨ss,hb5,⟨_,rfl⟩ | ⟨_,_,sz,ga,gx,gc,gd,gs,gf,Ai,gm,gi,wB,hsz,hC,rfl,hwB,hga,hG,hK⟩⟩
 ·have B5:=hid (bnext B4.out hb5)
  clear hb5
  go_wp2_with (go_at_call 15; refine (HAw.out w5).mono ?_; rintro e w' ⟨rfl,hb6⟩)
  go_ret
  exact ⟨rfl,bnext B5.out hb6⟩
 ·obtain rfl:sz=24:=by omega
  have B5:=hid (bnext B4.out hb5)
  have Hz5:=hid B5.out.size
  obtain ⟨pl,hpl⟩:∃ pl,packLen 24 (sortS ss)=pl:=⟨_,rfl⟩
  rw [hpl] at hG
  have G5:=hid hG
  generalize sortS ss=SS at *
  have hB:=hK.bankAt
  have hfit:=hC.fit
  have HMe:=hid (BMeta_any gx 24 _ _ i w5 hB (by omega) (by have:=hfit.many; omega))
  have HFs:=hid (fun W (hW:Below w5.heap.size w5 W)=>listFrames_any hC (w:=W) (hB.later hW) i c)
  have HBy:=hid (fun (b:Int) W (hW:Below w5.heap.size w5 W)=>(Bytes_any gx 24 _ _ i c b W (hB.later hW) hfit).mono fun e w' h=>bytR h)
  have HOp:=hid (fun (b:Int) (hE:whereE (packDir 24 SS) i c b=0) W (hW:Below w5.heap.size w5 W) A cb hr=>hadOpen hC (W:=W) (hB.later hW) hE A cb hr)
  have HWo:=hid (fun h k (hk:k < (countZ (metaI (packDir 24 SS) i).length).toNat)=>where_ok (D:=packDir 24 SS) (i:=i) (c:=c) h hk)
  have HTo:=hid (fun (b:Int)=>hadF_told (packDir 24 SS) (packZ 24 SS) 24 i c b)
  have HFT:=hid (fun (k:Nat)=>(show frT (packDir 24 SS) (packZ 24 SS) 24 i c (k+1)=frT (packDir 24 SS) (packZ 24 SS) 24 i c k ++ frameS (hadF (packDir 24 SS) (packZ 24 SS) 24 i c (k:Int)) from rfl))
  have HFz:=hid (fun (k:Nat)=>frT_size (packDir 24 SS) (packZ 24 SS) 24 i c k)
  have HF0:=hid (show frT (packDir 24 SS) (packZ 24 SS) 24 i c 0=⟨#[]⟩ from rfl)
  have HFr:=hid (show frsS (packDir 24 SS) (packZ 24 SS) 24 i c=if metaE (packDir 24 SS) i ≠ 0\/c < 0\/(metaI (packDir 24 SS) i).channels<=c then ⟨#[]⟩ else frT (packDir 24 SS) (packZ 24 SS) 24 i c (countZ (metaI (packDir 24 SS) i).length).toNat from rfl)
  have HRg:=hid (fun (h:metaE (packDir 24 SS) i=0)=>right_bds (metaI_right hfit.right h))
  unfold BytR at HBy
  unfold FitPost at HOp
  have HO1:=hid (meta_all (metaI (packDir 24 SS) i))
  have hxl:(metaI (packDir 24 SS) i).cells.length=9:=rfl
  generalize packZ 24 SS=bs at *
  generalize packDir 24 SS=D at *
  generalize frsS D bs 24 i c=FR at *
  obtain ⟨M,hM⟩:∃ M,metaI D i=M:=⟨_,rfl⟩
  obtain ⟨ME,hME⟩:∃ ME,metaE D i=ME:=⟨_,rfl⟩
  rw [hM,hME] at HMe HFr HWo
  rw [hM] at hxl HO1 HRg
  rw [hME] at HRg
  obtain ⟨xs,hxs⟩:∃ xs,M.cells=xs:=⟨_,rfl⟩
  have hx1:xs[1]? = some (.int .i64 M.length):=by rw [<-hxs]; rfl
  have hx3:xs[3]? = some (.int .i64 M.channels):=by rw [<-hxs]; rfl
  rw [hxs] at hxl HO1 HMe
  have HFa:=hid (show (Tryz.prog.info? 37).map (·.size)=some xs.toArray.size by rw [List.size_toArray,hxl]; exact HMf.out)
  have HXl:=hid (show xs.toArray.size=9 by rw [List.size_toArray,hxl])
  have Hx1:=hid hx1
  have Hx3:=hid hx3
  generalize M.length=len at *
  generalize M.channels=ch at *
  have a0:w5.cell? ⟨ga,0,none⟩=some (.pointer (some ⟨gx,0,none⟩)):=G5.out.cell 0
  clear hb5 hsz hC hwB hga hG hK hpl hB hfit hM hME hxs hxl hx1 hx3 HM HFew HFm HFl P3 HFm3 HFl3
  go_wp2_with (go_at_call 31; fail)
  refine HMe.out.mono ?_
  rintro e w6 ⟨rfl,hb6⟩
  obtain ⟨w7,hw7⟩:∃ w7,w6.alloc (.cells xs.toArray 37)=w7:=⟨_,rfl⟩
  obtain ⟨g7,hg7⟩:∃ g7,w6.heap.size=g7:=⟨_,rfl⟩
  have E7:=hid (show Below w5.heap.size w5 w7 by rw [<-hw7]; exact bnext hb6 (bnew w6 _))
  have X7:=hid (show Blk w7 g7 37 xs by rw [<-hw7,<-hg7]; exact Blk.new w6 _ xs)
  have G7:=hid (G5.out.below E7.out G5.out.lt)
  have d0:w7.cell? ⟨ga,0,none⟩=some (.pointer (some ⟨gx,0,none⟩)):=G7.out.cell 0
  have HFs7:=hid (HFs.out w7 E7.out)
  have HC8:=hid (fun W (hW:Below w7.heap.size w7 W)=>(show W.cell? ⟨g7,1,none⟩=some (.int .i64 len)/\W.cell? ⟨g7,3,none⟩=some (.int .i64 ch) from ⟨((X7.out.below hW X7.out.lt).cell 1).trans Hx1.out,((X7.out.below hW X7.out.lt).cell 3).trans Hx3.out⟩))
  have Hw7:=hid hw7
  have Hg7:=hid hg7
  clear hb6 hw7 hg7 a0 HFs
  have hcs:(ME ≠ 0)\/(ME=0/\c < 0)\/(ME=0/\¬ c < 0/\ch<=c)\/(ME=0/\¬ c < 0/\¬ ch<=c):=by omega
  rcases hcs with h1 | ⟨rfl,h2⟩ | ⟨rfl,h2,h3⟩ | ⟨rfl,h2,h3⟩
  ·have t1:(ME != 0)=true:=by rw [bne_iff_ne]; exact h1
   have e0:=HFr.out
   rw [if_pos (.inl h1)] at e0
   subst e0
   go_wp2_with (first | (refine wpList_store_row_w rfl 37 (.tmp 10) (.tmp 38) rfl w6.heap.size rfl _ _ xs.toArray rfl (heap_alloc_new w6 _) HFa.out (by rw [HXl.out]; rfl) HO1.out ?_; rw [World.setRow_alloc_new,Hw7.out,Hg7.out]) | (go_at_call 32; refine HFs7.out.mono ?_; rintro e w8 ⟨rfl,hb8⟩) | (go_at_call 15; refine (HAw.out _).mono ?_; rintro e w9 ⟨rfl,hb9⟩))
   go_ret
   exact ⟨rfl,bnext (bnext (B5.out.trans (E7.out.mono Hz5.out)) hb8) hb9⟩
  ·have t1:((0:Int) != 0)=false:=rfl
   have e0:=HFr.out
   rw [if_pos (.inr (.inl h2))] at e0
   subst e0
   go_wp2_with (first | (refine wpList_store_row_w rfl 37 (.tmp 10) (.tmp 38) rfl w6.heap.size rfl _ _ xs.toArray rfl (heap_alloc_new w6 _) HFa.out (by rw [HXl.out]; rfl) HO1.out ?_; rw [World.setRow_alloc_new,Hw7.out,Hg7.out]) | (go_at_call 32; refine HFs7.out.mono ?_; rintro e w8 ⟨rfl,hb8⟩) | (go_at_call 15; refine (HAw.out _).mono ?_; rintro e w9 ⟨rfl,hb9⟩))
   go_ret
   exact ⟨rfl,bnext (bnext (B5.out.trans (E7.out.mono Hz5.out)) hb8) hb9⟩
  ·have t1:((0:Int) != 0)=false:=rfl
   have e0:=HFr.out
   rw [if_pos (.inr (.inr h3))] at e0
   subst e0
   go_wp2_with (first | (refine wpList_store_row_w rfl 37 (.tmp 10) (.tmp 38) rfl w6.heap.size rfl _ _ xs.toArray rfl (heap_alloc_new w6 _) HFa.out (by rw [HXl.out]; rfl) HO1.out ?_; rw [World.setRow_alloc_new,Hw7.out,Hg7.out]) | (go_at_call 32; fail))
   refine HFs7.out.mono ?_
   rintro e w8 ⟨rfl,hb8⟩
   have y3:=(HC8.out w8 hb8).2
   go_wp2_with (go_at_call 15; refine (HAw.out _).mono ?_; rintro e w9 ⟨rfl,hb9⟩)
   go_ret
   exact ⟨rfl,bnext (bnext (B5.out.trans (E7.out.mono Hz5.out)) hb8) hb9⟩
  ·have t1:((0:Int) != 0)=false:=rfl
   have e0:=HFr.out
   have hno:¬ ((0:Int) ≠ 0\/c < 0\/ch<=c):=by omega
   rw [if_neg hno] at e0
   have HW:=hid (HWo.out hno)
   have hrg:=HRg.out rfl
   obtain ⟨n,hn⟩:∃ n,(countZ len).toNat=n:=⟨_,rfl⟩
   have hcz:0<=countZ len/\countZ len<=65537:=by unfold countZ; split <;> omega
   have hnz:countZ len=(n:Int):=by omega
   have hnl:n<=65537:=by omega
   have hquo:(len+15).tdiv 16=(n:Int):=by
    rw [<-hnz]
    obtain ⟨ln,rfl⟩:=Int.eq_ofNat_of_zero_le (show 0<=len by omega)
    rw [Int.tdiv_eq_ediv_of_nonneg (by omega)]
    unfold countZ
    rw [if_neg (by omega)]
    omega
   have hw1:IntKind.i64.wrap (len+15)=len+15:=IntWalk.i64_in _ (by omega)
   have hw2:IntKind.i64.wrap (n:Int)=(n:Int):=IntWalk.i64_in _ (by omega)
   rw [hn] at e0 HW
   have He0:=hid e0
   clear e0 hno hrg hn hcz hnz HWo HFr HRg
   go_wp2_with (first | (refine wpList_store_row_w rfl 37 (.tmp 10) (.tmp 38) rfl w6.heap.size rfl _ _ xs.toArray rfl (heap_alloc_new w6 _) HFa.out (by rw [HXl.out]; rfl) HO1.out ?_; rw [World.setRow_alloc_new,Hw7.out,Hg7.out]) | (go_at_call 32; fail))
   refine HFs7.out.mono ?_
   rintro e w8 ⟨rfl,hb8⟩
   have E8:=hid (bnext E7.out hb8)
   have y3:=(HC8.out w8 hb8).2
   have HC9:=hid (fun W (hW:Below w8.heap.size w8 W)=>HC8.out W (bnext hb8 hW))
   have G8:=hid (G5.out.below E8.out G5.out.lt)
   clear hb8 d0 HFs7
   go_wp2_with fail
   go_loopw [14,13] (fun j s wr=>∃ (k:Nat),k<=n/\j=.int .i64 k/\s=.string (frT D bs 24 i c k)/\Below w8.heap.size w8 wr) (fun j _ _=>n - (intOf j).toNat)
   case atStart=>exact ⟨0,by omega,rfl,by rw [HF0.out],Below.refl _ _⟩
   case round =>
    obtain ⟨k,hk,rfl,rfl,hbel⟩:=hrel
    have Hbel:=hid hbel
    clear hbel y3
    obtain ⟨wa,rfl⟩:∃ wa,wa=wr:=⟨_,rfl⟩
    have y1:=(HC9.out wa Hbel.out).1
    by_cases hkn:k < n
    ·have u1:(k:Int) < (n:Int):=by omega
     have u2:(0:Int)<=(k:Int):=by omega
     have hE:=HW.out (k:=k) hkn
     have HB:=hid (HBy.out (k:Int) wa (bnext E8.out Hbel.out))
     have HO:=hid (HOp.out (k:Int) hE)
     rw [hE] at HB
     have HFt:=hid (HFT.out k)
     have hto:=hid (HTo.out (k:Int))
     have hsz1:=HFz.out k
     obtain ⟨HF,hHF⟩:∃ HF,hadF D bs 24 i c (k:Int)=HF:=⟨_,rfl⟩
     rw [hHF] at HO HFt hto
     have hfs:=frameS_size hto.out
     have HFm:=hid (fun (A0:Option Addr) (c0:Nat) W hr=>lawFrame31_any HF A0 c0 W hto.out hr)
     generalize frT D bs 24 i c k=S at *
     generalize frameS HF=FT at *
     have q1:¬ 9223372036854775807 < S.size+FT.size:=by omega
     have Ga:=hid (G8.out.below Hbel.out G8.out.lt)
     have d1:wa.cell? ⟨ga,0,none⟩=some (.pointer (some ⟨gx,0,none⟩)):=Ga.out.cell 0
     clear hE hHF hsz1 hfs
     go_wp2_with (go_at_call 33; fail)
     refine HB.out.mono ?_
     rintro e w9 ⟨Ay,ky,cy,rfl,hb9,hy⟩
     obtain ⟨rfl,-,-,hrY⟩:=hy (by trivial)
     have E9:=hid (bnext Hbel.out hb9)
     have HO9:=hid (HO.out w9 (bnext E8.out E9.out) Ay cy hrY)
     have G9:=hid (G8.out.below E9.out G8.out.lt)
     have d2:w9.cell? ⟨ga,0,none⟩=some (.pointer (some ⟨gx,0,none⟩)):=G9.out.cell 0
     clear hb9 hrY HB d1 y1
     go_wp2_with (go_at_call 34; fail)
     refine HO9.out.mono ?_
     rintro e w10 ⟨Ag,cg,rfl,-,-,-,hrow,hb10⟩
     have E10:=hid (bnext E9.out hb10)
     obtain ⟨fl,hfl⟩:∃ fl,frameA HF (.slice Ag HF.tones.length cg)=fl:=⟨_,rfl⟩
     have hfs:fl.size=29:=by rw [<-hfl]; exact frameA_size hto.out.len _
     have Hfs:=hid hfs
     have HFf:=hid (show (Tryz.prog.info? 50).map (·.size)=some fl.size by rw [hfs]; exact inf_frame)
     have Hf1:=hid (show fl.all (·.oneCell')=true by rw [<-hfl]; exact frameA_one HF rfl)
     have HCf:=hid (fun W hr=>HFm.out Ag cg W hr)
     rw [hfl] at HCf ⊢
     obtain ⟨w11,hw11⟩:∃ w11,w10.alloc (.cells fl 50)=w11:=⟨_,rfl⟩
     have E11:=hid (show Below w8.heap.size w8 w11 by rw [<-hw11]; exact bnext E10.out (bnew w10 _))
     have F11:=hid (show w11.heap[w10.heap.size]? = some (.cells fl 50 (0,0)) by rw [<-hw11]; exact heap_alloc_new w10 _)
     have HC11:=hid (HCf.out w11 (by rw [<-hw11]; exact hrow.later (bnew w10 _)))
     have Hw11:=hid hw11
     clear hb10 hrow hfl hfs hw11 HO9 d2
     go_wp2_with (first | (refine wpList_store_row_w rfl 50 (.tmp 17) (.tmp 93) rfl w10.heap.size rfl _ _ fl rfl (heap_alloc_new w10 _) HFf.out (by rw [Hfs.out]; rfl) Hf1.out ?_; rw [World.setRow_alloc_new,Hw11.out]) | (refine wpList_load_row_w rfl 50 (.tmp 17) rfl w10.heap.size rfl _ fl _ _ F11.out Tryz.underlying50 rfl HFf.out ?_) | (go_at_call 30; refine HC11.out.mono ?_; rintro e w12 ⟨rfl,hb12⟩))
     go_roundw
     case rel=>exact ⟨k+1,by omega,by go_num,by rw [HFt.out],bnext E11.out hb12⟩
     case measure=>first | (simp [intOf]; done) | (simp [intOf]; omega)
    ·obtain rfl:k=n:=by omega
     have u1:¬ (k:Int) < (k:Int):=by omega
     have e0:=He0.out
     rw [<-e0]
     clear e0
     go_wp2_with (go_at_call 15; refine (HAw.out _).mono ?_; rintro e w9 ⟨rfl,hb9⟩)
     go_ret
     exact ⟨rfl,bnext (B5.out.trans ((bnext E8.out Hbel.out).mono Hz5.out)) hb9⟩
theorem ListFrames_law (W:World) (v0 v1 v2 v3:Value) (a0:Arg W (.slice 6 sampTy) v0) (a1:Arg W (.int .i64) v1) (a2:Arg W (.int .i64) v2) (a3:Arg W frTy v3) :
  Calls Tryz.prog 5 #[v0,v1,v2,v3] W fun e w'=>e=.returned (.bool true)/\Below W.heap.size W w':=by
 obtain ⟨L,A,cap,rfl,_,_,_,hs,hn⟩:=samps_arg a0
 obtain ⟨i,h1,_,_⟩:=a1
 obtain rfl:v1=.int .i64 i:=by simpa using h1
 obtain ⟨c,h2,_,_⟩:=a2
 obtain rfl:v2=.int .i64 c:=by simpa using h2
 obtain ⟨cs,rfl,h3⟩:=a3
 obtain ⟨p,rfl,q1,q2,q3,q4⟩:=frame_shape64 h3
 exact ListFrames_walk L A cap i c p W hs hn q1 q2 q3 q4
end
end Go.Proofs.YtnbbfblaipjcmaaGreatDoor
