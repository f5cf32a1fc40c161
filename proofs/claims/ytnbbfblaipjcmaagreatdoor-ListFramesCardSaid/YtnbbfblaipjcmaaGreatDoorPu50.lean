/- ListF, ListG, ListH. Conditions: as each theorem states. -/
import Derived.OwnWalk
import Derived.Test.YtnbbfblaipjcmaaGreatDoorPu49
import Derived.Test.YtnbbfblaipjcmaaGreatDoorPu38
import Derived.Test.YtnbbfblaipjcmaaGreatDoorPu39
import Derived.Test.YtnbbfblaipjcmaaGreatDoorPu43
set_option maxRecDepth 100000
set_option maxHeartbeats 4000000
namespace Go.Proofs.YtnbbfblaipjcmaaGreatDoor
section
open Go.RowKit Go.Lib
theorem metaS_size {x:MetaV} (h:x.name.size<=1000):(metaS x).size<=1000001:=by
 have h1:=metaW_size h
 have h2:=joinS_size (metaW x)
 have h3:(joinS (metaW x)).size=(Lib.join ((metaW x).map (·.data.toList)) [32]).length:=by
  show (Lib.join ((metaW x).map (·.data.toList)) [32]).toArray.size=_
  simp
 unfold metaS rowS
 rw [ByteArray.size_append]
 show _+1<=_
 omega
def listTo (h:ByteArray) (D:List MetaV):ByteArray:=D.foldl (fun s x=>s ++ metaS x) h
theorem listTo_snoc (h:ByteArray) (D:List MetaV) {k:Nat} {x:MetaV} (hx:D[k]? = some x):listTo h (D.take (k+1))=listTo h (D.take k) ++ metaS x:=by
 unfold listTo
 rw [List.take_add_one,hx]
 simp
theorem listTo_size (h:ByteArray):∀ (D:List MetaV),(∀ x ∈ D,x.name.size<=1000)->(listTo h D).size<=h.size+D.length*1000001:=by
 intro D
 induction D generalizing h with
 | nil=>intro _; simp [listTo]
 | cons x r ih =>
  intro hD
  have h1:=ih (h ++ metaS x) (fun y hy=>hD y (by simp [hy]))
  have h2:=metaS_size (hD x (by simp))
  have h3:(h ++ metaS x).size=h.size+(metaS x).size:=ByteArray.size_append
  have h4:listTo h (x :: r)=listTo (h ++ metaS x) r:=rfl
  rw [h4,List.length_cons,Nat.succ_mul]
  omega
def ofHead (size n:Nat):ByteArray:=rowS [⟨#[102,114,97,109,101]⟩,numS size,⟨#[115,97,109,112,108,101,115]⟩,numS n]
def ofS (size:Nat) (D:List MetaV):ByteArray:=listTo (ofHead size D.length) D
theorem listOf_any {w:World} {g size:Nat} {bs:List Nat} {D:List MetaV} (h:BankAt w g bs size D) (hs:0 < size) (hs2:size<=1000) (hD:D.length<=64) (ht:∀ x ∈ D,x.told) :
  Calls Tryz.prog 21 #[.pointer (some ⟨g,0,none⟩)] w fun e w'=>e=.returned (.string (ofS size D))/\Below w.heap.size w w':=by
 have HSz:=hid (fun W (hW:Below w.heap.size w W)=>BSize_any (h.later hW) hs)
 have HDi:=hid (fun W (hW:Below w.heap.size w W)=>BDir_any (h.later hW) hs hD)
 unfold CopyP at HDi
 have HC:=hid (fun (v:Int) (hv:InR v) (W:World)=>listCount_any v hv W)
 have HMe:=hid (fun (k:Nat) x (hx:D[k]? = some x) W=>listMeta_any x (ht x (List.mem_of_getElem? hx)) W)
 have HSn:=hid (fun (k:Nat) x (hx:D[k]? = some x)=>listTo_snoc (ofHead size D.length) D hx)
 have HSs:=hid (fun (k:Nat) (hk:k<=D.length)=>(show (listTo (ofHead size D.length) (D.take k)).size<=100000+64*1000001 by
  have h1:=listTo_size (ofHead size D.length) (D.take k) (fun x hx=>(ht x (List.mem_of_mem_take hx)).name)
  have h2:(ofHead size D.length).size<=100000:=by
   unfold ofHead rowS
   rw [ByteArray.size_append]
   have h3:(joinS [⟨#[102,114,97,109,101]⟩,numS size,⟨#[115,97,109,112,108,101,115]⟩,numS D.length]).size<=sizesS [⟨#[102,114,97,109,101]⟩,numS size,⟨#[115,97,109,112,108,101,115]⟩,numS D.length]:=by
    have:=joinS_size [⟨#[102,114,97,109,101]⟩,numS size,⟨#[115,97,109,112,108,101,115]⟩,numS D.length]
    refine Nat.le_trans (Nat.le_of_eq ?_) this
    show Array.size (List.toArray _)=_
    simp
   have s1:=numS_size size
   have s2:=numS_size D.length
   simp only [sizesS,List.map_cons,List.map_nil,List.sum_cons,List.sum_nil] at h3
   have h3:_<=5+1+(_+1+(7+1+(_+1+0))):=h3
   show _+1<=_
   omega
  have h4:(D.take k).length<=64:=by rw [List.length_take]; omega
  omega))
 have HMs:=hid (fun (k:Nat) x (hx:D[k]? = some x)=>metaS_size (ht x (List.mem_of_getElem? hx)).name)
 have HOf:=hid (show ofS size D=listTo (ofHead size D.length) (D.take D.length) by rw [List.take_length]; rfl)
 have HHd:=hid (show ofHead size D.length=rowS [⟨#[102,114,97,109,101]⟩,numS size,⟨#[115,97,109,112,108,101,115]⟩,numS D.length] from rfl)
 have HMf:=hid (show (Tryz.prog.info? 37).map (·.size)=some 9 by kernel_rfl)
 generalize ofS size D=OS at *
 obtain ⟨n,hn⟩:∃ n,D.length=n:=⟨_,rfl⟩
 rw [hn] at hD HDi HSn HSs HOf HHd
 have Hn:=hid hn
 clear h hn ht
 go_enter Tryz.func21,Tryz.ntmps21
 go_wp2_with (first | (go_at_call 85; refine (HSz.out w (Below.refl _ _)).mono ?_; rintro e w' ⟨rfl,rfl⟩) | (go_at_call 82; fail))
 refine (HC.out size ⟨by omega,by omega⟩ _).mono ?_
 rintro e w1 ⟨rfl,hb1⟩
 have B1:=hid hb1
 clear hb1
 go_wp2_with (go_at_call 16; fail)
 refine (HDi.out w1 B1.out).mono ?_
 rintro e w2 ⟨A,c,rfl,-,-,-,-,hb2⟩
 have B2:=hid (bnext B1.out hb2)
 clear hb2
 go_wp2_with (go_at_call 82; fail)
 refine (HC.out n ⟨by omega,by omega⟩ _).mono ?_
 rintro e w3 ⟨rfl,hb3⟩
 have B3:=hid (bnext B2.out hb3)
 clear hb3
 obtain ⟨w4,hw4⟩:∃ w4,w3.alloc (.cells #[.string ⟨#[102,114,97,109,101]⟩,.string (numS size),.string ⟨#[115,97,109,112,108,101,115]⟩,.string (numS n)] 9)=w4:=⟨_,rfl⟩
 have B4:=hid (show Below w.heap.size w w4 by rw [<-hw4]; exact bnext B3.out (bnew w3 _))
 have HRw:=hid (show Calls Tryz.prog 83 #[.slice (some ⟨w3.heap.size,0,none⟩) 4 4] w4 (fun e w'=>e=.returned (.string (ofHead size n))/\Below w4.heap.size w4 w') from by
  rw [HHd.out]
  exact listRow_any [⟨#[102,114,97,109,101]⟩,numS size,⟨#[115,97,109,112,108,101,115]⟩,numS n] w3.heap.size 0 4 w4 (by rw [<-hw4]; exact Row.of_own (own_builtN w3 9 (strs [⟨#[102,114,97,109,101]⟩,numS size,⟨#[115,97,109,112,108,101,115]⟩,numS n]) 4 rfl (by omega))) (by show 0 < 4; omega) (by show 4<=_; omega) (Nat.le_refl _) (by
   have s1:=numS_size size
   have s2:=numS_size n
   simp only [sizesS,List.map_cons,List.map_nil,List.sum_cons,List.sum_nil]
   show 5+1+(_+1+(7+1+(_+1+0)))<=_
   omega))
 generalize ofHead size n=HD at *
 go_wp2_with (go_at_call 83; fail)
 refine HRw.out.mono ?_
 rintro e w5 ⟨rfl,hb5⟩
 have B5:=hid (bnext B4.out hb5)
 clear hb5 hw4 HRw
 go_wp2_with (go_at_call 16; fail)
 refine (HDi.out w5 B5.out).mono ?_
 rintro e w6 ⟨Ad,cd,rfl,-,-,-,hdo,hb6⟩
 have B6:=hid (bnext B5.out hb6)
 have HDr:=hid (Row.of_own hdo)
 clear hb6 hdo HDi
 go_wp2_with fail
 go_loopw [18,3] (fun i s wr=>∃ (k:Nat),k<=n/\i=.int .i64 k/\s=.string (listTo HD (D.take k))/\Below w6.heap.size w6 wr) (fun i _ _=>n - (intOf i).toNat)
 case atStart=>exact ⟨0,by omega,rfl,rfl,Below.refl _ _⟩
 case round =>
  obtain ⟨k,hk,rfl,rfl,hbel⟩:=hrel
  have Hbel:=hid hbel
  clear hbel
  obtain ⟨wa,rfl⟩:∃ wa,wa=wr:=⟨_,rfl⟩
  by_cases hlt':k < n
  ·have t1:(k:Int) < (n:Int):=by omega
   have t2:(0:Int)<=(k:Int):=by omega
   obtain ⟨x,hx⟩:=list_get (k:=k) Hn.out hlt'
   obtain ⟨bD,oD,rfl,hbD,hcD⟩:=meta_at (HDr.out.later Hbel.out) hx
   have HX:=hid hcD
   have HMx:=hid (HMe.out k x hx)
   have HSx:=hid (HSn.out k x hx)
   have HSz2:=hid (show ¬ 9223372036854775807 < (listTo HD (D.take k)).size+(metaS x).size by have:=HSs.out k (by omega); have:=HMs.out k x hx; omega)
   have HO1:=hid (meta_all x)
   have hxl:x.cells.length=9:=rfl
   obtain ⟨xs,hxs⟩:∃ xs,x.cells=xs:=⟨_,rfl⟩
   rw [hxs] at HX HMx HO1 hxl
   have HFl:=hid (show (Tryz.prog.info? 37).map (·.size)=some xs.length by rw [hxl]; exact HMf.out)
   have HFa:=hid (show (Tryz.prog.info? 37).map (·.size)=some xs.toArray.size by rw [List.size_toArray,hxl]; exact HMf.out)
   have HXl:=hid (show xs.toArray.size=9 by rw [List.size_toArray,hxl])
   generalize metaS x=MX at *
   obtain ⟨S,hS⟩:∃ S,listTo HD (D.take k)=S:=⟨_,rfl⟩
   rw [hS] at HSx HSz2 ⊢
   have hz:=HSz2.out
   clear hcD hx hbD hxs hxl hS
   go_wp2_with (first | (refine wpList_load_part_w rfl 37 (.tmp 20) rfl bD (oD+k*9) rfl xs _ HX.out Tryz.underlying37 rfl HFl.out ?_) | (refine wpList_store_row_w rfl 37 (.tmp 5) (.tmp 21) rfl wa.heap.size rfl _ _ xs.toArray rfl (heap_alloc_new wa _) HFa.out (by rw [HXl.out]; rfl) HO1.out ?_; rw [World.setRow_alloc_new]) | (refine wpList_load_row_w rfl 37 (.tmp 5) rfl wa.heap.size rfl _ xs.toArray _ _ (heap_alloc_new wa _) Tryz.underlying37 rfl HFa.out ?_) | (go_at_call 18; refine (HMx.out _).mono ?_; rintro e w7 ⟨rfl,hb7⟩))
   go_roundw
   case rel=>exact ⟨k+1,by omega,by go_num,by rw [HSx.out],bnext Hbel.out (bnext (bnew wa _) hb7)⟩
   case measure=>first | (simp [intOf]; done) | (simp [intOf]; omega)
  ·obtain rfl:k=n:=by omega
   have t1:¬ (k:Int) < (k:Int):=by omega
   go_wp2_with fail
   go_ret
   exact ⟨by rw [HOf.out]; rfl,bnext B6.out Hbel.out⟩
end
section
open Go.RowKit Go.Lib
theorem told_of {bs:List Nat} {size:Nat} {D:List MetaV} (h:FitB bs size D):∀ x ∈ D,x.told:=fun x hx=>by
 have h1:=right_bds (h.right x hx)
 have h2:=h.lie x hx
 have h3:=h.right x hx
 have h5:=h.long
 have h4:x.name.size<=32:=by
  unfold MetaV.right at h3
  simp only [Bool.and_eq_true] at h3
  have h6:=h3.1.1.1.1.1.1
  unfold isName at h6
  simp only [Bool.and_eq_true,decide_eq_true_eq] at h6
  exact h6.1.2
 have hc:0<=countZ x.length/\countZ x.length<=65537:=by unfold countZ; split <;> omega
 have hf:0<=framesN x:=Int.mul_nonneg hc.1 (by omega)
 have hs:=Int.mul_nonneg (show (0:Int)<=size by omega) hf
 exact ⟨by omega,⟨by omega,by omega⟩,⟨by omega,by omega⟩,⟨by omega,by omega⟩,⟨by omega,by omega⟩,⟨by omega,by omega⟩,⟨by omega,by omega⟩⟩
end
section
open Go.RowKit Go.Lib
theorem ofS_none:ofS 24 []=⟨#[102,114,97,109,101,32,50,52,32,115,97,109,112,108,101,115,32,48,10]⟩:=by
 apply bytes_ext
 show (ofHead 24 0).data.toList=_
 unfold ofHead
 rw [rowS_list]
 rfl
theorem packE_none:packE 24 []=0:=by
 unfold packE
 rw [if_neg (by omega)]
 rfl
theorem sortS_nil:sortS []=[]:=List.Perm.eq_nil (sortS_perm [])
theorem awake31_any (w:World):Calls Tryz.prog 15 #[] w fun e w'=>e=.returned (.bool true)/\Below w.heap.size w w':=by
 have hp:=Pack_any 24 [] none 0 w (by simp) (fun _=>rfl) ⟨fun i v hv=>by simp [headCells] at hv,fun p hp=>by cases hp⟩ (by simp)
 have HP:=Lib.hid (show Calls Tryz.prog 73 #[.int .i64 24,.slice none 0 0] w (fun e w'=>∃ (g:Nat),CanP 24 []/\BytesAt w' g (packZ 24 [])/\Below w.heap.size w w'/\e=.returned (.tuple #[.slice (some ⟨g,0,none⟩) (packLen 24 []) (packLen 24 []),.int .i64 0])) from hp.mono (by
  rintro e w' ⟨hb,⟨h,_⟩ | ⟨_,sz,g,hsz,hC,_,hby,he⟩⟩
  ·exact absurd packE_none h
  ·obtain rfl:sz=24:=by omega
   rw [show sortS (List.map (fun (x:HSamp × SampV)=>x.snd) [])=[] from sortS_nil] at hC hby he
   exact ⟨g,hC,hby,hb,he⟩))
 clear hp
 go_enter Tryz.func15,Tryz.ntmps15
 go_wp2_with (go_at_call 73; fail)
 refine HP.out.mono ?_
 rintro e w1 ⟨g,hC,hby,hb1,rfl⟩
 have HPa:=Lib.hid (Parse_packed hC g w1 hby)
 have HC:=Lib.hid hC
 have B1:=Lib.hid hb1
 clear hC hby hb1 HP
 go_wp2_with (go_at_call 75; fail)
 refine HPa.out.mono ?_
 rintro e w2 ⟨x,rfl,-,hB,hb2⟩
 have HO:=Lib.hid (show Calls Tryz.prog 21 #[.pointer (some ⟨x,0,none⟩)] w2 (fun e w'=>e=.returned (.string ⟨#[102,114,97,109,101,32,50,52,32,115,97,109,112,108,101,115,32,48,10]⟩)/\Below w2.heap.size w2 w') from by
  have h:=listOf_any hB (by omega) (by omega) HC.out.fit.many (told_of HC.out.fit)
  rw [show packDir 24 []=[] from rfl,ofS_none] at h
  exact h)
 have B2:=Lib.hid (bnext B1.out hb2)
 clear hB hb2 HPa
 go_wp2_with (go_at_call 21; refine HO.out.mono ?_; rintro e w3 ⟨rfl,hb3⟩)
 go_ret
 exact ⟨rfl,bnext B2.out hb3⟩
end
end Go.Proofs.YtnbbfblaipjcmaaGreatDoor
