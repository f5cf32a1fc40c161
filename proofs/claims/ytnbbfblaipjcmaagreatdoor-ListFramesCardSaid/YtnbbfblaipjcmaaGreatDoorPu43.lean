/- ParF, ParI, ParJ, ParK, ParL, ParM, ParN, ParO, ParQ2, ParR, ParT. Conditions: as each theorem states. -/
import Derived.Laws.Cover1
import Derived.Test.YtnbbfblaipjcmaaGreatDoorPu42
import Derived.Test.YtnbbfblaipjcmaaGreatDoorPu38
import Derived.Test.YtnbbfblaipjcmaaGreatDoorPu39
import Derived.Test.YtnbbfblaipjcmaaGreatDoorPu35
set_option maxRecDepth 100000
set_option maxHeartbeats 16000000
namespace Go.Proofs.YtnbbfblaipjcmaaGreatDoor
section
open Go.RowKit Go.Lib
theorem gd_drop (bs:List Nat) (o i:Nat):(bs.drop o).getD i 0=bs.getD (o+i) 0:=by
 rw [List.getD_eq_getElem?_getD,List.getD_eq_getElem?_getD,List.getElem?_drop]
theorem nameOf_drop (bs:List Nat) (o:Nat):nameOf (bs.drop o) 0=nameOf bs o:=by
 unfold nameOf
 rw [subB_congr (X:=bs.drop o) (Y:=bs) (a:=0) (b:=o) (n:=32) (fun j _=>by rw [gd_drop,Nat.zero_add])]
theorem readTo_drop (bs:List Nat) (o k m:Nat):readTo (bs.drop o) (0+k) m=readTo bs (o+k) m :=
 readTo_congr m (fun j _=>by rw [gd_drop]; congr 1; omega)
theorem metaAt_drop (bs:List Nat) (o:Nat):metaAt (bs.drop o) 0=metaAt bs o:=by
 unfold metaAt
 rw [nameOf_drop,readTo_drop,readTo_drop,readTo_drop,readTo_drop,readTo_drop,readTo_drop,gd_drop,gd_drop,Nat.zero_add,Nat.zero_add]
theorem entOk_drop (bs:List Nat) (o:Nat):entOk (bs.drop o) 0=entOk bs o:=by
 unfold entOk tailOk
 rw [metaAt_drop,gd_drop,Nat.zero_add,subB_congr (X:=bs.drop o) (Y:=bs) (a:=0+58) (b:=o+58) (n:=6) (fun j _=>by rw [gd_drop]; congr 1; omega)]
theorem Row.drop_ {w:World} {B b off:Nat} {vs:List Value} (h:Row w B (some ⟨b,off,none⟩) vs) (k:Nat):Row w B (some ⟨b,off+k,none⟩) (vs.drop k):=fun i v hv=>by
 rw [List.getElem?_drop] at hv
 obtain ⟨b',o',ha,hb,hc⟩:=h (k+i) v hv
 injection ha with ha
 injection ha with e1 e2
 subst e1 e2
 exact ⟨b,off+k,rfl,hb,by rw [Nat.add_assoc]; exact hc⟩
theorem u8s_drop (l:List Nat) (k:Nat):(u8s l).drop k=u8s (l.drop k):=by simp [u8s,List.map_drop]
theorem u8s_take (l:List Nat) (k:Nat):(u8s l).take k=u8s (l.take k):=by simp [u8s,List.map_take]
theorem bytesLess_nm (a b:ByteArray):Op.bytesLess a.toList b.toList=nameLt a b:=by
 have key:∀ (x y:List UInt8),Op.bytesLess x y=decide (compareBytes x y < 0):=by
  intro x
  induction x with
  | nil=>intro y; cases y <;> simp [Op.bytesLess,compareBytes]
  | cons u r ih =>
   intro y
   cases y with
   | nil=>simp [Op.bytesLess,compareBytes]
   | cons v s =>
    unfold Op.bytesLess compareBytes
    rw [ih s]
    by_cases h1:u < v
    ·simp [h1]
    ·by_cases h2:v < u
     ·have h3:u ≠ v:=fun e=>by subst e; exact h1 h2
      simp [h1,h2,h3]
     ·have h3:u=v:=u8_eq (Nat.le_antisymm (u8_nlt h2) (u8_nlt h1))
      simp [h3]
 unfold nameLt
 rw [ByteArray.toList_eq,ByteArray.toList_eq]
 exact key _ _
theorem dirTo_le {bs:List Nat} {k:Nat} (h:dirTo bs k=false):∀ c,k<=c->dirTo bs c=false
 | 0,hc=>by rw [show k=0 by omega] at h; exact h
 | c+1,hc=>by
  by_cases hk:k=c+1
  ·subst hk; exact h
  ·unfold dirTo
   rw [dirTo_le h c (by omega)]
   rfl
theorem dirTo_right {bs:List Nat}:∀ c,dirTo bs c=true->∀ x ∈ dirZ bs c,x.right=true
 | 0,_,x,hx=>by simp [dirZ] at hx
 | c+1,h,x,hx=>by
  unfold dirTo at h
  simp only [Bool.and_eq_true] at h
  obtain ⟨⟨h1,h2⟩,_⟩:=h
  unfold dirZ at hx
  rw [List.range_succ,List.map_append] at hx
  rcases List.mem_append.1 hx with h3 | h3
  ·exact dirTo_right c h1 x h3
  ·simp only [List.map_cons,List.map_nil,List.mem_singleton] at h3
   subst h3
   unfold entOk at h2
   simp only [Bool.and_eq_true] at h2
   exact h2.2.2
theorem dirZ_succ (bs:List Nat) (m:Nat):dirZ bs (m+1)=dirZ bs m ++ [metaAt bs (16+m*64)]:=by
 unfold dirZ
 rw [List.range_succ,List.map_append]
 rfl
theorem dirZ_len (bs:List Nat) (m:Nat):(dirZ bs m).length=m:=by simp [dirZ]
theorem dirZ_get (bs:List Nat) {m k:Nat} (h:k < m):(dirZ bs m)[k]? = some (metaAt bs (16+k*64)):=by
 unfold dirZ
 rw [List.getElem?_map,List.getElem?_range h]
 rfl
theorem hlt' {w:World} {g:Nat} {o:Obj} (h:w.heap[g]? = some o):g < w.heap.size:=by
 rcases Nat.lt_or_ge g w.heap.size with h1 | h1
 ·exact h1
 ·rw [Array.getElem?_eq_none h1] at h; cases h
theorem Parse_any (bs:List Nat) (A:Option Addr) (n cap:Nat) (w:World) (hn:bs.length=n) (hnc:n<=cap) (hcm:cap<=9223372036854775807) (hl:n<=4000000) (hA:A=none->cap=0) (hr:Row w w.heap.size A (u8s bs)) (hb:∀ x ∈ bs,x < 256) :
  Calls Tryz.prog 75 #[.slice A n cap] w (ParsePost w bs):=by
 have HD0:=hid (fun W=>(show Calls Tryz.prog 131 #[.int .i64 0] W (fun e w'=>e=.returned (.int .i64 20)/\W=w') from bankDir_any 0 W (by omega) (by omega)))
 have HDn:=hid (fun (k:Nat) W (hk:k<=65536)=>(show Calls Tryz.prog 131 #[.int .i64 k] W (fun e w'=>e=.returned (.int .i64 (16+(k:Int)*64+4))/\W=w') from bankDir_any k W (by omega) (by omega)))
 have HRd:=hid (fun W (a s:Nat) (hW:Below w.heap.size w W) (ha:a+s<=n) (hs:s<=4)=>(show Calls Tryz.prog 93 #[.slice A n cap,.int .i64 a,.int .i64 s] W (fun e w'=>e=.returned (.int .i64 (readTo bs a s:Nat))/\W=w') from read_any bs A n cap a s W hn (hr.later hW) hb ha (by omega) hs))
 unfold ParsePost
 by_cases h20:n < 20
 ·have hE:parseZ bs=2:=by unfold parseZ; rw [if_pos (by omega)]
  have t1:(n:Int) < 20:=by omega
  rw [hE]
  go_enter Tryz.func75,Tryz.ntmps75
  go_wp2_with (go_at_call 131; refine (HD0.out _).mono ?_; rintro e w2 ⟨rfl,rfl⟩)
  refine bodyPost_ret (results_tmp2 Tryz.results75 _ _ _) rfl ?_
  exact .inl ⟨by omega,rfl,Below.refl _ _⟩
 ·obtain ⟨y0,hy0⟩:=list_get (k:=0) hn (by omega)
  obtain ⟨g,off,rfl,hgl,_⟩:=hr 0 _ (u8s_get hy0)
  clear hA hy0
  have t1:¬ (n:Int) < 20:=by omega
  have HXb:=hid (fun W (j:Nat) (hW:Below w.heap.size w W) (hj:j < n)=>(show W.cell? ⟨g,off+j,none⟩=some (.int .u8 (bs.getD j 0:Nat)) from by
   have h1:(u8s bs)[j]? = some (.int .u8 (bs.getD j 0:Nat)):=by
    rw [u8s_get (show bs[j]? = some (bs.getD j 0) by rw [List.getD_eq_getElem?_getD,List.getElem?_eq_getElem (by omega)]; rfl)]
   obtain ⟨b',o',ha,_,hc⟩:=(hr.later hW) j _ h1
   injection ha with ha
   injection ha with e1 e2
   subst e1 e2
   exact hc))
  have HYb:=hid (fun (j:Nat) (hj:j < n)=>(show bs.getD j 0 < 256 from by
   rw [List.getD_eq_getElem?_getD,List.getElem?_eq_getElem (by omega)]
   exact hb _ (List.getElem_mem _)))
  have Hcv:=hid (fun W (hW:Below w.heap.size w W)=>run_convert_bytes_arg (P:=Tryz.prog) W 30 5 Tryz.underlying30 Tryz.underlying5 g off 4 cap ((subB bs 0 4).map fun (x:Nat)=>(x:Int)) (by rw [List.length_map,subB_len]) (fun i hi=>by
   have e:((subB bs 0 4).map fun (x:Nat)=>(x:Int)).getD i 0=((bs.getD i 0:Nat):Int):=by
    rw [List.getD_eq_getElem?_getD,List.getElem?_map,subB_get hi,Nat.zero_add]
    rfl
   rw [e]
   exact HXb.out W i hW (by omega)))
  rw [str_sub] at Hcv
  obtain ⟨s4,hs4⟩:∃ s4:ByteArray,(⟨(textB (subB bs 0 4)).toArray⟩:ByteArray)=s4:=⟨_,rfl⟩
  rw [hs4] at Hcv
  have Hs4:=hid hs4
  obtain ⟨c,hc⟩:∃ c,cntZ bs=c:=⟨_,rfl⟩
  obtain ⟨sz,hsz⟩:∃ sz,sizeZ bs=sz:=⟨_,rfl⟩
  have hcb:c < 65536:=by rw [<-hc]; exact readTo_lt hb 8 2
  have hszb:sz < 256:=by rw [<-hsz]; exact HYb.out 10 (by omega)
  have Hn:=hid hn
  have Hr:=hid hr
  have Hb:=hid hb
  have Hc:=hid hc
  have Hsz:=hid hsz
  clear hn hr hb hs4
  have HR2:=hid (fun (z:GW w)=>(show Calls Tryz.prog 93 #[.slice (some ⟨g,off,none⟩) n cap,.int .i64 8,.int .i64 2] z.1 (fun e w'=>e=.returned (.int .i64 (c:Nat))/\z.1=w') from by
   have:=HRd.out z.1 8 2 z.2 (by omega) (by omega)
   rw [show readTo bs 8 2=c from hc] at this
   exact this))
  have x10:=fun (z:GW w)=>(show z.1.cell? ⟨g,off+10,none⟩=some (.int .u8 (sz:Nat)) from by
   have:=HXb.out z.1 10 z.2 (by omega)
   rw [show bs.getD 10 0=sz from hsz] at this
   exact this)
  have hwsz:IntKind.i64.wrap (sz:Int)=(sz:Int):=IntWalk.i64_in _ (by omega)
  have t10:(10:Int) < (n:Int):=by omega
  clear hc hsz
  go_enter Tryz.func75,Tryz.ntmps75
  go_wp2_with (go_at_call 131; refine (HD0.out _).mono ?_; rintro e w2 ⟨rfl,rfl⟩)
  refine wp_region_calm (by kernel_rfl) (by kernel_rfl) ?_
  repeat (go_big_quiet_step ((go_at_call 93; exact calm_same (HR2.out _))))
  refine wpQuiet_nil ?_
  intro w1 hw'
  have B1:=hid (gw_below hw')
  clear hw' x10
  have hcv:=Hcv.out w1 B1.out
  have HP4:=hid (fun (h:headBad bs=true)=>(show parseZ bs=4 from by unfold parseZ; rw [if_neg (by rw [Hn.out]; omega),if_pos h]))
  have HP12:=hid (fun (h0:headBad bs=false) (h:sizeBad bs=true)=>(show parseZ bs=12 from by unfold parseZ; rw [if_neg (by rw [Hn.out]; omega),if_neg (by rw [h0]; decide),if_pos h]))
  have HP2:=hid (fun (h0:headBad bs=false) (h1:sizeBad bs=false) (h:n < 20+c*64)=>(show parseZ bs=2 from by unfold parseZ; rw [if_neg (by rw [Hn.out]; omega),if_neg (by rw [h0]; decide),if_neg (by rw [h1]; decide),if_pos (by rw [Hn.out,Hc.out]; exact h)]))
  have HP9:=hid (fun (h0:headBad bs=false) (h1:sizeBad bs=false) (h2:¬ n < 20+c*64) (h:sumBad bs=true)=>(show parseZ bs=9 from by unfold parseZ; rw [if_neg (by rw [Hn.out]; omega),if_neg (by rw [h0]; decide),if_neg (by rw [h1]; decide),if_neg (by rw [Hn.out,Hc.out]; exact h2),if_pos h]))
  have HP4':=hid (fun (h0:headBad bs=false) (h1:sizeBad bs=false) (h2:¬ n < 20+c*64) (h3:sumBad bs=false) (h:dirTo bs c=false)=>(show parseZ bs=4 from by unfold parseZ; rw [if_neg (by rw [Hn.out]; omega),if_neg (by rw [h0]; decide),if_neg (by rw [h1]; decide),if_neg (by rw [Hn.out,Hc.out]; exact h2),if_neg (by rw [h3]; decide),if_pos (by rw [Hc.out]; exact h)]))
  have HPp:=hid (fun (h0:headBad bs=false) (h1:sizeBad bs=false) (h2:¬ n < 20+c*64) (h3:sumBad bs=false) (h:dirTo bs c=true)=>(show parseZ bs=if placeBad bs=true then 12 else 0 from by unfold parseZ; rw [if_neg (by rw [Hn.out]; omega),if_neg (by rw [h0]; decide),if_neg (by rw [h1]; decide),if_neg (by rw [Hn.out,Hc.out]; exact h2),if_neg (by rw [h3]; decide),if_neg (by rw [Hc.out,h]; decide)]))
  have HSg:=hid (show s4.toList=[67,65,76,49] ↔ subB bs 0 4=[67,65,76,49] from by
   rw [ByteArray.toList_eq,<-Hs4.out]
   have hq:∀ x ∈ subB bs 0 4,x < 256:=fun x hx=>by
    unfold subB at hx
    obtain ⟨j,hj,rfl⟩:=List.mem_map.1 hx
    exact HYb.out _ (by have:=List.mem_range.1 hj; omega)
   show textB (subB bs 0 4)=_ ↔ _
   constructor
   ·intro h
    have h2:=congrArg (List.map UInt8.toNat) h
    unfold textB at h2
    rw [List.map_map] at h2
    have h3:(subB bs 0 4).map (UInt8.toNat ∘ UInt8.ofNat)=subB bs 0 4:=(List.map_congr_left fun x hx=>by have:=hq x hx; simp; omega).trans (List.map_id _)
    rw [h3] at h2
    exact h2
   ·intro h
    rw [h]
    rfl)
  obtain ⟨r11,hr11⟩:∃ r,readTo bs 11 4=r:=⟨_,rfl⟩
  obtain ⟨y15,hy15⟩:∃ r,bs.getD 15 0=r:=⟨_,rfl⟩
  have HHB:=hid (show headBad bs=(decide (subB bs 0 4 ≠ [67,65,76,49]) || (decide (r11 ≠ 0) || decide (y15 ≠ 0))) by unfold headBad; rw [hr11,hy15])
  have HR11:=hid (show Calls Tryz.prog 93 #[.slice (some ⟨g,off,none⟩) n cap,.int .i64 11,.int .i64 4] w1 (fun e w'=>e=.returned (.int .i64 (r11:Nat))/\w1=w') from by
   have:=HRd.out w1 11 4 B1.out (by omega) (by omega)
   rw [hr11] at this
   exact this)
  have c15:=HXb.out w1 15 B1.out (by omega)
  rw [hy15] at c15
  clear hr11 hy15
  by_cases q1:s4.toList=[67,65,76,49]
  rotate_left
  ·have hE:=HP4.out (by rw [HHB.out,decide_eq_true (show subB bs 0 4 ≠ [67,65,76,49] from fun h=>q1 (HSg.out.2 h))]; rfl)
   go_wp2
   refine bodyPost_ret (results_tmp2 Tryz.results75 _ _ _) rfl ?_
   exact .inl ⟨by rw [hE]; decide,by rw [hE]; rfl,B1.out⟩
  have HQ1:=hid (show decide (subB bs 0 4 ≠ [67,65,76,49])=false from decide_eq_false (fun h=>h (HSg.out.1 q1)))
  go_wp2_with (go_at_call 93; fail)
  refine HR11.out.mono ?_
  rintro e w2 ⟨rfl,rfl⟩
  clear HR11 hcv q1
  by_cases q2:r11=0
  rotate_left
  ·have t2:((r11:Int) != 0)=true:=by rw [bne_iff_ne]; omega
   have hE:=HP4.out (by rw [HHB.out,HQ1.out,decide_eq_true q2]; rfl)
   go_wp2
   refine bodyPost_ret (results_tmp2 Tryz.results75 _ _ _) rfl ?_
   exact .inl ⟨by rw [hE]; decide,by rw [hE]; rfl,B1.out⟩
  subst q2
  by_cases q3:y15=0
  rotate_left
  ·have t2:((y15:Int) != 0)=true:=by rw [bne_iff_ne]; omega
   have t15:(15:Int) < (n:Int):=by omega
   have hE:=HP4.out (by rw [HHB.out,HQ1.out,decide_eq_true q3]; rfl)
   go_wp2
   refine bodyPost_ret (results_tmp2 Tryz.results75 _ _ _) rfl ?_
   exact .inl ⟨by rw [hE]; decide,by rw [hE]; rfl,B1.out⟩
  subst q3
  have h0:headBad bs=false:=by rw [HHB.out,HQ1.out]; rfl
  have H0:=hid h0
  clear h0
  obtain ⟨r4,hr4⟩:∃ r,readTo bs 4 4=r:=⟨_,rfl⟩
  have HSB:=hid (show sizeBad bs=(decide (sz < 24) || (decide (96 < sz) || (decide (64 < c) || decide (r4 ≠ n)))) by unfold sizeBad; rw [Hsz.out,Hc.out,hr4,Hn.out])
  have HR4:=hid (show Calls Tryz.prog 93 #[.slice (some ⟨g,off,none⟩) n cap,.int .i64 4,.int .i64 4] w1 (fun e w'=>e=.returned (.int .i64 (r4:Nat))/\w1=w') from by
   have:=HRd.out w1 4 4 B1.out (by omega) (by omega)
   rw [hr4] at this
   exact this)
  clear hr4
  have t15:(15:Int) < (n:Int):=by omega
  by_cases q4:sz < 24
  ·have t2:(sz:Int) < 24:=by omega
   have hE:=HP12.out H0.out (by rw [HSB.out,decide_eq_true q4]; rfl)
   go_wp2
   refine bodyPost_ret (results_tmp2 Tryz.results75 _ _ _) rfl ?_
   exact .inl ⟨by rw [hE]; decide,by rw [hE]; rfl,B1.out⟩
  have t2:¬ (sz:Int) < 24:=by omega
  by_cases q5:96 < sz
  ·have t3:(96:Int) < (sz:Int):=by omega
   have hE:=HP12.out H0.out (by rw [HSB.out,decide_eq_true q5]; simp)
   go_wp2
   refine bodyPost_ret (results_tmp2 Tryz.results75 _ _ _) rfl ?_
   exact .inl ⟨by rw [hE]; decide,by rw [hE]; rfl,B1.out⟩
  have t3:¬ (96:Int) < (sz:Int):=by omega
  by_cases q6:64 < c
  ·have t4:(64:Int) < (c:Int):=by omega
   have hE:=HP12.out H0.out (by rw [HSB.out,decide_eq_true q6]; simp)
   go_wp2
   refine bodyPost_ret (results_tmp2 Tryz.results75 _ _ _) rfl ?_
   exact .inl ⟨by rw [hE]; decide,by rw [hE]; rfl,B1.out⟩
  have t4:¬ (64:Int) < (c:Int):=by omega
  go_wp2_with (go_at_call 93; fail)
  refine HR4.out.mono ?_
  rintro e w2 ⟨rfl,rfl⟩
  clear HR4
  by_cases q7:r4=n
  rotate_left
  ·have t5:((r4:Int) != (n:Int))=true:=by rw [bne_iff_ne]; omega
   have hE:=HP12.out H0.out (by rw [HSB.out,decide_eq_true q7]; simp)
   go_wp2
   refine bodyPost_ret (results_tmp2 Tryz.results75 _ _ _) rfl ?_
   exact .inl ⟨by rw [hE]; decide,by rw [hE]; rfl,B1.out⟩
  subst q7
  have h1:sizeBad bs=false:=by rw [HSB.out,decide_eq_false q4,decide_eq_false q5,decide_eq_false q6]; simp
  have H1:=hid h1
  clear h1 HSB HHB HQ1
  have HDc:=hid (fun W=>HDn.out c W (by omega))
  by_cases q8:r4 < 20+c*64
  ·have t6:(r4:Int) < 16+(c:Int)*64+4:=by omega
   have hE:=HP2.out H0.out H1.out q8
   go_wp2_with (go_at_call 131; refine (HDc.out _).mono ?_; rintro e w2 ⟨rfl,rfl⟩)
   refine bodyPost_ret (results_tmp2 Tryz.results75 _ _ _) rfl ?_
   exact .inl ⟨by rw [hE]; decide,by rw [hE]; rfl,B1.out⟩
  have t6:¬ (r4:Int) < 16+(c:Int)*64+4:=by omega
  obtain ⟨rs,hrs⟩:∃ r,readTo bs (16+c*64) 4=r:=⟨_,rfl⟩
  obtain ⟨C,hC⟩:∃ r,crcZ (bs.take (16+c*64))=r:=⟨_,rfl⟩
  have hCb:=crcZ_bd (bs.take (16+c*64))
  rw [hC] at hCb
  have HSm:=hid (show sumBad bs=decide (C ≠ (rs:Int)) by unfold sumBad; rw [Hc.out,hC,hrs])
  have HRs:=hid (show Calls Tryz.prog 93 #[.slice (some ⟨g,off,none⟩) r4 cap,.int .i64 (16+(c:Int)*64),.int .i64 4] w1 (fun e w'=>e=.returned (.int .i64 (rs:Nat))/\w1=w') from by
   have:=HRd.out w1 (16+c*64) 4 B1.out (by omega) (by omega)
   rw [hrs,show ((16+c*64:Nat):Int)=16+(c:Int)*64 by push_cast; rfl] at this
   exact this)
  have HCr:=hid (show Calls Tryz.prog 92 #[.slice (some ⟨g,off,none⟩) (16+c*64) cap] w1 (fun e w'=>e=.returned (.int .u32 C)/\w1=w') from by
   have h:=(Hr.out.later B1.out).take (16+c*64)
   rw [u8s_take] at h
   have:=crcSum_any (bs.take (16+c*64)) (some ⟨g,off,none⟩) cap w1 (by rw [List.length_take]; omega) h
   rw [List.length_take,Hn.out,Nat.min_eq_left (by omega),hC] at this
   exact this)
  have hwC:IntKind.i64.wrap C=C:=IntWalk.i64_in _ (by omega)
  clear hrs hC
  go_wp2_with (first | (go_at_call 131; refine (HDc.out _).mono ?_; rintro e w2 ⟨rfl,rfl⟩) | (go_at_call 92; refine HCr.out.mono ?_; rintro e w2 ⟨rfl,rfl⟩) | (go_at_call 93; fail))
  refine HRs.out.mono ?_
  rintro e w2 ⟨rfl,rfl⟩
  clear HRs HCr
  by_cases q9:C=(rs:Int)
  rotate_left
  ·have t7:(C != (rs:Int))=true:=by rw [bne_iff_ne]; exact q9
   have hE:=HP9.out H0.out H1.out q8 (by rw [HSm.out,decide_eq_true q9])
   go_wp2
   refine bodyPost_ret (results_tmp2 Tryz.results75 _ _ _) rfl ?_
   exact .inl ⟨by rw [hE]; decide,by rw [hE]; rfl,B1.out⟩
  subst q9
  have h2:sumBad bs=false:=by rw [HSm.out]; simp
  have H2:=hid h2
  clear h2 HSm
  have HCl:=hid (cloneB_any bs (some ⟨g,off,none⟩) r4 cap w1 Hn.out (by omega) nofun (Hr.out.later B1.out))
  go_wp2_with (go_at_call 91; fail)
  refine HCl.out.mono ?_
  rintro e w2 ⟨Ai,ci,rfl,hci,hcim,hcin,hown,hb2⟩
  have B2:=hid (bnext B1.out hb2)
  have RI:=hid (Row.of_own hown)
  clear hown hb2 HCl
  obtain ⟨w3,hw3⟩:∃ w3,w2.alloc (.cells #[.slice Ai r4 ci,.int .i64 sz,.slice none 0 0] 159)=w3:=⟨_,rfl⟩
  have X3:=hid (show Blk w3 w2.heap.size 159 [.slice Ai r4 ci,.int .i64 sz,.slice none 0 0] by rw [<-hw3]; exact Blk.new w2 _ [.slice Ai r4 ci,.int .i64 sz,.slice none 0 0])
  have B3:=hid (show Below w2.heap.size w2 w3 by rw [<-hw3]; exact bnew w2 _)
  go_wp2_with fail
  clear hw3
  obtain ⟨i0,hi,⟨zz0,hz0,hz0s⟩,hi1,hi2⟩:=meta_info
  have HMf:=hid (show (Tryz.prog.info? 37).map (·.size)=some 9 by kernel_rfl)
  go_loopw [81] (fun v wr=>∃ (m:Nat) (Ad:Option Addr) (cd:Nat),m<=c/\v=.int .i64 m/\Blk wr w2.heap.size 159 [.slice Ai r4 ci,.int .i64 sz,.slice Ad m cd]/\wr.ownsRow (w2.heap.size+1) 37 9 (.slice Ad m cd) m (metaCells (dirZ bs m))/\Below w2.heap.size w2 wr/\dirTo bs m=true) (fun v _=>c - (intOf v).toNat)
  case atStart=>exact ⟨0,none,0,by omega,rfl,X3.out,World.ownsRow_nil _ _ _ _,B3.out,rfl⟩
  case round =>
   obtain ⟨m,Ad,cd,hm,rfl,hx,hown,hbel,hdir⟩:=hrel
   have Hx:=hid hx
   have Hown:=hid hown
   have Hbel:=hid hbel
   have Hdir:=hid hdir
   have Hge:=hid (own_block_ge hown)
   have HBw:=hid (show Below w.heap.size w wr from bnext B2.out hbel)
   have hxl:=hx.lt
   clear hx hown hbel hdir
   by_cases hlt:m < c
   ·have u1:(m:Int) < (c:Int):=by omega
    have u2:(0:Int)<=(m:Int):=by omega
    have u3:16+m*64+64<=r4:=by omega
    have HOp:=hid (show Calls Tryz.prog 132 #[.slice (some ⟨g,off+(16+m*64),none⟩) (r4 - (16+m*64)) (cap - (16+m*64))] wr (fun e w'=>e=.returned (.tuple #[.agg (metaAt bs (16+m*64)).cells.toArray,.bool (entOk bs (16+m*64))])/\Below wr.heap.size wr w') from by
     have h:=(Hr.out.later HBw.out).drop_ (16+m*64)
     rw [u8s_drop] at h
     have:=open_any (bs.drop (16+m*64)) g (off+(16+m*64)) (r4 - (16+m*64)) (cap - (16+m*64)) wr (by rw [List.length_drop,Hn.out]) (by omega) (by omega) (by omega) h (fun x hx=>Hb.out x (List.mem_of_mem_drop hx))
     rwa [metaAt_drop,entOk_drop] at this)
    have HDs:=hid (show dirTo bs (m+1)=(dirTo bs m && entOk bs (16+m*64) && (decide (m=0) || nameLt (metaAt bs (16+(m - 1)*64)).name (metaAt bs (16+m*64)).name)) from rfl)
    have HZs:=hid (dirZ_succ bs m)
    have HHd:=hid (fun (h:dirTo bs (m+1)=false)=>HP4'.out H0.out H1.out q8 H2.out (dirTo_le h c (by omega)))
    obtain ⟨M,hM⟩:∃ M,metaAt bs (16+m*64)=M:=⟨_,rfl⟩
    rw [hM] at HOp HDs HZs
    clear hM
    obtain ⟨nm,len,rate,ch,lp,f,t,sums,first⟩:=M
    have HO1:=hid (meta_all ⟨nm,len,rate,ch,lp,f,t,sums,first⟩)
    obtain ⟨ok,hok⟩:∃ ok,entOk bs (16+m*64)=ok:=⟨_,rfl⟩
    rw [hok] at HOp HDs
    clear hok
    have HOp2:=hid (show Calls Tryz.prog 132 #[.slice (some ⟨g,off+(16+m*64),none⟩) (r4 - (16+m*64)) (cap - (16+m*64))] wr (fun e w'=>e=.returned (.tuple #[.agg #[.string nm,.int .i64 len,.int .i64 rate,.int .i64 ch,.bool lp,.int .i64 f,.int .i64 t,.int .i64 sums,.int .i64 first],.bool ok])/\Below wr.heap.size wr w') from HOp.out)
    clear HOp
    go_wp2_with (go_at_call 132; fail)
    refine HOp2.out.mono ?_
    rintro e w4 ⟨rfl,hb4⟩
    have B4:=hid hb4
    have G4:=hb4.size
    clear hb4 HOp2
    go_wp2_with (refine wpList_store_row_w rfl 37 (.tmp 8) (.tmp 91) rfl w4.heap.size rfl _ _ #[.string nm,.int .i64 len,.int .i64 rate,.int .i64 ch,.bool lp,.int .i64 f,.int .i64 t,.int .i64 sums,.int .i64 first] rfl (heap_alloc_new w4 _) HMf.out rfl HO1.out ?_; rw [World.setRow_alloc_new])
    obtain ⟨w5,hw5⟩:∃ w5,w4.alloc (.cells #[.string nm,.int .i64 len,.int .i64 rate,.int .i64 ch,.bool lp,.int .i64 f,.int .i64 t,.int .i64 sums,.int .i64 first] 37)=w5:=⟨_,rfl⟩
    rw [hw5]
    have X5:=hid (show Blk w5 w2.heap.size 159 [.slice Ai r4 ci,.int .i64 sz,.slice Ad m cd] by rw [<-hw5]; exact (Hx.out.below B4.out Hx.out.lt).alloc _)
    have M5:=hid (show Blk w5 w4.heap.size 37 [.string nm,.int .i64 len,.int .i64 rate,.int .i64 ch,.bool lp,.int .i64 f,.int .i64 t,.int .i64 sums,.int .i64 first] by rw [<-hw5]; exact Blk.new w4 _ [.string nm,.int .i64 len,.int .i64 rate,.int .i64 ch,.bool lp,.int .i64 f,.int .i64 t,.int .i64 sums,.int .i64 first])
    have O5:=hid (show w5.ownsRow (w2.heap.size+1) 37 9 (.slice Ad m cd) m (metaCells (dirZ bs m)) by rw [<-hw5]; exact (own_below Hown.out B4.out).alloc _)
    have B5:=hid (show Below wr.heap.size wr w5 by rw [<-hw5]; exact bnext B4.out (bnew w4 _))
    clear hw5
    have HNe:=hid (show some w4.heap.size ≠ (Value.slice Ad m cd).ownBlock from fun e=>by
     rcases Nat.eq_zero_or_pos m with h0 | h0
     ·subst h0
      rcases Hown.out.2 with ⟨h1,_⟩ | ⟨g',cap',cur',h1,hb',hh',_⟩
      ·injection h1 with h1
       subst h1
       simp [Value.ownBlock] at e
      ·injection h1 with h1
       subst h1
       have h2:w4.heap.size=g':=by simpa [Value.ownBlock] using e
       have h3:=hlt' hh'
       omega
     ·obtain ⟨g',h1,hb',hl'⟩:=own_start2 Hown.out h0
      subst h1
      have h2:w4.heap.size=g':=by simpa [Value.ownBlock] using e
      omega)
    cases ok with
    | false =>
     have hE:=HHd.out (by rw [HDs.out]; simp)
     go_wp2_with fail
     refine wp_region_calm (by kernel_rfl) (by kernel_rfl) ?_
     repeat (go_big_quiet_step (fail))
     refine wpQuiet_nil ?_
     intro w6 hw'
     have B6:=hid (gw_below hw')
     clear hw'
     go_wp2
     refine bodyPost_ret (results_tmp2 Tryz.results75 _ _ _) rfl ?_
     exact .inl ⟨by rw [hE]; decide,by rw [hE]; rfl,bnext (bnext HBw.out B5.out) B6.out⟩
    | true =>
     have xd:=fun (z:GW w5)=>(show z.1.cell? ⟨w2.heap.size,2,none⟩=some (.slice Ad m cd) from blk_cells (X5.out.below z.2 X5.out.lt) 2)
     have xn:=fun (z:GW w5)=>(show z.1.cell? ⟨w4.heap.size,0,none⟩=some (.string nm) from blk_cells (M5.out.below z.2 M5.out.lt) 0)
     by_cases hm0:m=0
     ·have hgood:dirTo bs (m+1)=true:=by rw [HDs.out,Hdir.out,decide_eq_true hm0]; rfl
      have v1:decide ((0:Int) < (m:Int))=false:=decide_eq_false (by omega)
      have v2:decide (0 < m)=false:=decide_eq_false (by omega)
      clear hm0
      go_wp2_with fail
      refine wp_region_calm (by kernel_rfl) (by kernel_rfl) ?_
      repeat (go_big_quiet_step (fail))
      refine wpQuiet_nil ?_
      intro w6 hw'
      have B6:=hid (gw_below hw')
      clear hw'
      clear xd xn
      have X6:=hid (X5.out.below B6.out X5.out.lt)
      have M6:=hid (M5.out.below B6.out M5.out.lt)
      have O6:=hid (own_below O5.out B6.out)
      have G5:=hid B5.out.size
      have G6:=hid B6.out.size
      have Gx:=hid hxl
      have HD2:=hid hgood
      have HS:=hid (fun (W:World) (hW:Below w6.heap.size w6 W)=>(show W.cell? ⟨w2.heap.size,2,none⟩=some (.slice Ad m cd)/\W.cell? ⟨w4.heap.size,0,none⟩=some (.string nm)/\W.cell? ⟨w4.heap.size,1,none⟩=some (.int .i64 len)/\W.cell? ⟨w4.heap.size,2,none⟩=some (.int .i64 rate)/\W.cell? ⟨w4.heap.size,3,none⟩=some (.int .i64 ch)/\W.cell? ⟨w4.heap.size,4,none⟩=some (.bool lp)/\W.cell? ⟨w4.heap.size,5,none⟩=some (.int .i64 f)/\W.cell? ⟨w4.heap.size,6,none⟩=some (.int .i64 t)/\W.cell? ⟨w4.heap.size,7,none⟩=some (.int .i64 sums)/\W.cell? ⟨w4.heap.size,8,none⟩=some (.int .i64 first) from ⟨blk_cells (X6.out.below hW X6.out.lt) 2,blk_cells (M6.out.below hW M6.out.lt) 0,blk_cells (M6.out.below hW M6.out.lt) 1,blk_cells (M6.out.below hW M6.out.lt) 2,blk_cells (M6.out.below hW M6.out.lt) 3,blk_cells (M6.out.below hW M6.out.lt) 4,blk_cells (M6.out.below hW M6.out.lt) 5,blk_cells (M6.out.below hW M6.out.lt) 6,blk_cells (M6.out.below hW M6.out.lt) 7,blk_cells (M6.out.below hW M6.out.lt) 8⟩))
      have HSg:=hid (fun (W W':World) (hW:Below w6.heap.size w6 W) (hg:W.grownBy W' (Value.slice Ad m cd).ownBlock)=>(show W'.cell? ⟨w2.heap.size,2,none⟩=some (.slice Ad m cd)/\W'.cell? ⟨w4.heap.size,0,none⟩=some (.string nm)/\W'.cell? ⟨w4.heap.size,1,none⟩=some (.int .i64 len)/\W'.cell? ⟨w4.heap.size,2,none⟩=some (.int .i64 rate)/\W'.cell? ⟨w4.heap.size,3,none⟩=some (.int .i64 ch)/\W'.cell? ⟨w4.heap.size,4,none⟩=some (.bool lp)/\W'.cell? ⟨w4.heap.size,5,none⟩=some (.int .i64 f)/\W'.cell? ⟨w4.heap.size,6,none⟩=some (.int .i64 t)/\W'.cell? ⟨w4.heap.size,7,none⟩=some (.int .i64 sums)/\W'.cell? ⟨w4.heap.size,8,none⟩=some (.int .i64 first) from ⟨blk_cells (Blk.grown (X6.out.below hW X6.out.lt) hg (fun e=>by have:=Hge.out _ e.symm; omega)) 2,blk_cells (Blk.grown (M6.out.below hW M6.out.lt) hg (HNe.out)) 0,blk_cells (Blk.grown (M6.out.below hW M6.out.lt) hg (HNe.out)) 1,blk_cells (Blk.grown (M6.out.below hW M6.out.lt) hg (HNe.out)) 2,blk_cells (Blk.grown (M6.out.below hW M6.out.lt) hg (HNe.out)) 3,blk_cells (Blk.grown (M6.out.below hW M6.out.lt) hg (HNe.out)) 4,blk_cells (Blk.grown (M6.out.below hW M6.out.lt) hg (HNe.out)) 5,blk_cells (Blk.grown (M6.out.below hW M6.out.lt) hg (HNe.out)) 6,blk_cells (Blk.grown (M6.out.below hW M6.out.lt) hg (HNe.out)) 7,blk_cells (Blk.grown (M6.out.below hW M6.out.lt) hg (HNe.out)) 8⟩))
      have HFz:=hid (fun (W W':World) (hW:Below w6.heap.size w6 W) (hg:W.grownBy W' (Value.slice Ad m cd).ownBlock)=>(show ∀ i,W'.frozen? ⟨w2.heap.size,i,none⟩=false from blk_free (Blk.grown (X6.out.below hW X6.out.lt) hg (fun e=>by have:=Hge.out _ e.symm; omega))))
      have HOw:=hid (fun (W:World) (hW:Below w6.heap.size w6 W)=>own_below O6.out hW)
      clear hgood
      go_wp2_with fail
      obtain ⟨y2,z0,z1,z2,z3,z4,z5,z6,z7,z8⟩:=HS.out w6 (Below.refl _ _)
      have ya2:=fun O=>cell_alloc y2 O
      have za0:=fun O=>cell_alloc z0 O
      have za1:=fun O=>cell_alloc z1 O
      have za2:=fun O=>cell_alloc z2 O
      have za3:=fun O=>cell_alloc z3 O
      have za4:=fun O=>cell_alloc z4 O
      have za5:=fun O=>cell_alloc z5 O
      have za6:=fun O=>cell_alloc z6 O
      have za7:=fun O=>cell_alloc z7 O
      have za8:=fun O=>cell_alloc z8 O
      go_region_law (first | (refine step_app (by rfl) _ _ _ (by rfl) (w2.heap.size+1) 37 i0 zz0 9 80 Tryz.underlying26 hi hz0 hi1 hi2 hz0s (by omega) (.slice Ad m cd) m (metaCells (dirZ bs m)) (by rfl) (HOw.out _ (bnext (below_drew1 w6) (bnew _ _))) (w6.drew.heap.size+1) (some ⟨w6.drew.heap.size,0,none⟩) 1 1 [.string nm,.int .i64 len,.int .i64 rate,.int .i64 ch,.bool lp,.int .i64 f,.int .i64 t,.int .i64 sums,.int .i64 first] (by rfl) (by rfl) (Row.new w6.drew _ [.string nm,.int .i64 len,.int .i64 rate,.int .i64 ch,.bool lp,.int .i64 f,.int .i64 t,.int .i64 sums,.int .i64 first]) (meta_one ⟨nm,len,rate,ch,lp,f,t,sums,first⟩) (by omega) (by omega) (by simp; have:=Gx.out; have:=G5.out; have:=G6.out; omega) ?_; intro A2 c2 w9 hown9 hgr9 hat9 hcc9; have fz9:=HFz.out _ _ (bnext (below_drew1 w6) (bnew _ _)) hgr9; have cz9:=(HSg.out _ _ (bnext (below_drew1 w6) (bnew _ _)) hgr9).1))
      all_goals
       have hbq:=bnext (below_drew1 w6) (bnew w6.drew (.cells #[.string nm,.int .i64 len,.int .i64 rate,.int .i64 ch,.bool lp,.int .i64 f,.int .i64 t,.int .i64 sums,.int .i64 first] 37))
       have hbe:=(bnext' (bnext' (bnext' Hbel.out B5.out (by have:=Hbel.out.size; omega)) B6.out (by have:=G5.out; omega)) hbq (by have:=G5.out; have:=G6.out; omega)).grown hgr9 (by simp; have:=G5.out; have:=G6.out; omega) (fun k hk=>by have:=Hge.out k hk; omega)
       have HBe:=hid (Below.setCell (p:=⟨w2.heap.size,2,none⟩) hbe (Nat.le_refl _) (.slice A2 (m+1) c2))
       have HX9:=hid ((Blk.grown (X6.out.below hbq X6.out.lt) hgr9 (fun e=>by have:=Hge.out _ e.symm; omega)).set_ 2 (.slice A2 (m+1) c2))
       have HO9:=hid (show (w9.setCell ⟨w2.heap.size,2,none⟩ (.slice A2 (m+1) c2)).ownsRow (w2.heap.size+1) 37 9 (.slice A2 (m+1) c2) (m+1) (metaCells (dirZ bs (m+1))) from by
        rw [HZs.out,metaCells_snoc]
        exact ownsRow_setCell_below hown9 (Nat.lt_succ_self _) _)
       clear hbq hbe hown9 hgr9 hat9
       go_wp2
       go_roundw
       case rel=>exact ⟨m+1,A2,c2,by omega,by go_num,HX9.out,HO9.out,HBe.out,HD2.out⟩
       case measure=>simp [intOf]; omega
     ·have v1:(0:Int) < (m:Int):=by omega
      have v2:0 < m:=by omega
      obtain ⟨r,hrm⟩:∃ r,m=r+1:=⟨m - 1,by omega⟩
      have hmr:(m:Int) - 1=(r:Int):=by omega
      have v3:(r:Int) < (m:Int):=by omega
      have v4:(0:Int)<=(r:Int):=by omega
      obtain ⟨gd,hAd,_,hgd⟩:=own_start2 O5.out (by omega)
      have xd2:=fun (z:GW w5)=>(show z.1.cell? ⟨w2.heap.size,2,none⟩=some (.slice (some ⟨gd,0,none⟩) m cd) from by rw [xd z,hAd])
      clear xd
      obtain ⟨pv,hpv⟩:∃ pv,metaAt bs (16+r*64)=pv:=⟨_,rfl⟩
      have hpr:(dirZ bs m)[r]? = some pv:=by rw [dirZ_get bs (by omega),hpv]
      obtain ⟨b',o',hA',_,hcl⟩:=meta_at (Row.of_own O5.out) hpr
      rw [hAd] at hA'
      injection hA' with hA'
      injection hA' with e1 e2
      subst e1 e2
      have xp:=fun (z:GW w5)=>(show z.1.cell? ⟨gd,r*9,none⟩=some (.string pv.name) from by
       have h:=(z.2.cell (p:=⟨gd,0+r*9+0,none⟩) hgd).trans (hcl 0 _ rfl)
       rwa [Nat.zero_add,Nat.add_zero] at h)
      have HDm:=hid (show dirTo bs (m+1)=nameLt pv.name nm by
       rw [HDs.out,Hdir.out,decide_eq_false hm0,show m - 1=r by omega,hpv]
       simp)
      have hbl:=bytesLess_nm pv.name nm
      have Hm0:=hid hm0
      clear hm0 hrm hpv hpr hcl hAd
      by_cases hlss:nameLt pv.name nm=true
      ·have hgood:dirTo bs (m+1)=true:=by rw [HDm.out,hlss]
       rw [hlss] at hbl
       clear hlss
       go_wp2_with fail
       refine wp_region_calm (by kernel_rfl) (by kernel_rfl) ?_
       repeat (go_big_quiet_step (fail))
       refine wpQuiet_nil ?_
       intro w6 hw'
       have B6:=hid (gw_below hw')
       clear hw'
       clear xd2 xn xp hbl v1 v2 v3 v4 hmr
       have X6:=hid (X5.out.below B6.out X5.out.lt)
       have M6:=hid (M5.out.below B6.out M5.out.lt)
       have O6:=hid (own_below O5.out B6.out)
       have G5:=hid B5.out.size
       have G6:=hid B6.out.size
       have Gx:=hid hxl
       have HD2:=hid hgood
       have HS:=hid (fun (W:World) (hW:Below w6.heap.size w6 W)=>(show W.cell? ⟨w2.heap.size,2,none⟩=some (.slice Ad m cd)/\W.cell? ⟨w4.heap.size,0,none⟩=some (.string nm)/\W.cell? ⟨w4.heap.size,1,none⟩=some (.int .i64 len)/\W.cell? ⟨w4.heap.size,2,none⟩=some (.int .i64 rate)/\W.cell? ⟨w4.heap.size,3,none⟩=some (.int .i64 ch)/\W.cell? ⟨w4.heap.size,4,none⟩=some (.bool lp)/\W.cell? ⟨w4.heap.size,5,none⟩=some (.int .i64 f)/\W.cell? ⟨w4.heap.size,6,none⟩=some (.int .i64 t)/\W.cell? ⟨w4.heap.size,7,none⟩=some (.int .i64 sums)/\W.cell? ⟨w4.heap.size,8,none⟩=some (.int .i64 first) from ⟨blk_cells (X6.out.below hW X6.out.lt) 2,blk_cells (M6.out.below hW M6.out.lt) 0,blk_cells (M6.out.below hW M6.out.lt) 1,blk_cells (M6.out.below hW M6.out.lt) 2,blk_cells (M6.out.below hW M6.out.lt) 3,blk_cells (M6.out.below hW M6.out.lt) 4,blk_cells (M6.out.below hW M6.out.lt) 5,blk_cells (M6.out.below hW M6.out.lt) 6,blk_cells (M6.out.below hW M6.out.lt) 7,blk_cells (M6.out.below hW M6.out.lt) 8⟩))
       have HSg:=hid (fun (W W':World) (hW:Below w6.heap.size w6 W) (hg:W.grownBy W' (Value.slice Ad m cd).ownBlock)=>(show W'.cell? ⟨w2.heap.size,2,none⟩=some (.slice Ad m cd)/\W'.cell? ⟨w4.heap.size,0,none⟩=some (.string nm)/\W'.cell? ⟨w4.heap.size,1,none⟩=some (.int .i64 len)/\W'.cell? ⟨w4.heap.size,2,none⟩=some (.int .i64 rate)/\W'.cell? ⟨w4.heap.size,3,none⟩=some (.int .i64 ch)/\W'.cell? ⟨w4.heap.size,4,none⟩=some (.bool lp)/\W'.cell? ⟨w4.heap.size,5,none⟩=some (.int .i64 f)/\W'.cell? ⟨w4.heap.size,6,none⟩=some (.int .i64 t)/\W'.cell? ⟨w4.heap.size,7,none⟩=some (.int .i64 sums)/\W'.cell? ⟨w4.heap.size,8,none⟩=some (.int .i64 first) from ⟨blk_cells (Blk.grown (X6.out.below hW X6.out.lt) hg (fun e=>by have:=Hge.out _ e.symm; omega)) 2,blk_cells (Blk.grown (M6.out.below hW M6.out.lt) hg (HNe.out)) 0,blk_cells (Blk.grown (M6.out.below hW M6.out.lt) hg (HNe.out)) 1,blk_cells (Blk.grown (M6.out.below hW M6.out.lt) hg (HNe.out)) 2,blk_cells (Blk.grown (M6.out.below hW M6.out.lt) hg (HNe.out)) 3,blk_cells (Blk.grown (M6.out.below hW M6.out.lt) hg (HNe.out)) 4,blk_cells (Blk.grown (M6.out.below hW M6.out.lt) hg (HNe.out)) 5,blk_cells (Blk.grown (M6.out.below hW M6.out.lt) hg (HNe.out)) 6,blk_cells (Blk.grown (M6.out.below hW M6.out.lt) hg (HNe.out)) 7,blk_cells (Blk.grown (M6.out.below hW M6.out.lt) hg (HNe.out)) 8⟩))
       have HFz:=hid (fun (W W':World) (hW:Below w6.heap.size w6 W) (hg:W.grownBy W' (Value.slice Ad m cd).ownBlock)=>(show ∀ i,W'.frozen? ⟨w2.heap.size,i,none⟩=false from blk_free (Blk.grown (X6.out.below hW X6.out.lt) hg (fun e=>by have:=Hge.out _ e.symm; omega))))
       have HOw:=hid (fun (W:World) (hW:Below w6.heap.size w6 W)=>own_below O6.out hW)
       clear hgood
       go_wp2_with fail
       obtain ⟨y2,z0,z1,z2,z3,z4,z5,z6,z7,z8⟩:=HS.out w6 (Below.refl _ _)
       have ya2:=fun O=>cell_alloc y2 O
       have za0:=fun O=>cell_alloc z0 O
       have za1:=fun O=>cell_alloc z1 O
       have za2:=fun O=>cell_alloc z2 O
       have za3:=fun O=>cell_alloc z3 O
       have za4:=fun O=>cell_alloc z4 O
       have za5:=fun O=>cell_alloc z5 O
       have za6:=fun O=>cell_alloc z6 O
       have za7:=fun O=>cell_alloc z7 O
       have za8:=fun O=>cell_alloc z8 O
       go_region_law (first | (refine step_app (by rfl) _ _ _ (by rfl) (w2.heap.size+1) 37 i0 zz0 9 80 Tryz.underlying26 hi hz0 hi1 hi2 hz0s (by omega) (.slice Ad m cd) m (metaCells (dirZ bs m)) (by rfl) (HOw.out _ (bnext (below_drew1 w6) (bnew _ _))) (w6.drew.heap.size+1) (some ⟨w6.drew.heap.size,0,none⟩) 1 1 [.string nm,.int .i64 len,.int .i64 rate,.int .i64 ch,.bool lp,.int .i64 f,.int .i64 t,.int .i64 sums,.int .i64 first] (by rfl) (by rfl) (Row.new w6.drew _ [.string nm,.int .i64 len,.int .i64 rate,.int .i64 ch,.bool lp,.int .i64 f,.int .i64 t,.int .i64 sums,.int .i64 first]) (meta_one ⟨nm,len,rate,ch,lp,f,t,sums,first⟩) (by omega) (by omega) (by simp; have:=Gx.out; have:=G5.out; have:=G6.out; omega) ?_; intro A2 c2 w9 hown9 hgr9 hat9 hcc9; have fz9:=HFz.out _ _ (bnext (below_drew1 w6) (bnew _ _)) hgr9; have cz9:=(HSg.out _ _ (bnext (below_drew1 w6) (bnew _ _)) hgr9).1))
       all_goals
        have hbq:=bnext (below_drew1 w6) (bnew w6.drew (.cells #[.string nm,.int .i64 len,.int .i64 rate,.int .i64 ch,.bool lp,.int .i64 f,.int .i64 t,.int .i64 sums,.int .i64 first] 37))
        have hbe:=(bnext' (bnext' (bnext' Hbel.out B5.out (by have:=Hbel.out.size; omega)) B6.out (by have:=G5.out; omega)) hbq (by have:=G5.out; have:=G6.out; omega)).grown hgr9 (by simp; have:=G5.out; have:=G6.out; omega) (fun k hk=>by have:=Hge.out k hk; omega)
        have HBe:=hid (Below.setCell (p:=⟨w2.heap.size,2,none⟩) hbe (Nat.le_refl _) (.slice A2 (m+1) c2))
        have HX9:=hid ((Blk.grown (X6.out.below hbq X6.out.lt) hgr9 (fun e=>by have:=Hge.out _ e.symm; omega)).set_ 2 (.slice A2 (m+1) c2))
        have HO9:=hid (show (w9.setCell ⟨w2.heap.size,2,none⟩ (.slice A2 (m+1) c2)).ownsRow (w2.heap.size+1) 37 9 (.slice A2 (m+1) c2) (m+1) (metaCells (dirZ bs (m+1))) from by
         rw [HZs.out,metaCells_snoc]
         exact ownsRow_setCell_below hown9 (Nat.lt_succ_self _) _)
        clear hbq hbe hown9 hgr9 hat9
        go_wp2
        go_roundw
        case rel=>exact ⟨m+1,A2,c2,by omega,by go_num,HX9.out,HO9.out,HBe.out,HD2.out⟩
        case measure=>simp [intOf]; omega
      ·have hlf:nameLt pv.name nm=false:=by simpa using hlss
       have hE:=HHd.out (by rw [HDm.out,hlf])
       rw [hlf] at hbl
       clear hlss hlf
       go_wp2_with fail
       refine wp_region_calm (by kernel_rfl) (by kernel_rfl) ?_
       repeat (go_big_quiet_step (fail))
       refine wpQuiet_nil ?_
       intro w6 hw'
       have B6:=hid (gw_below hw')
       clear hw'
       clear xd2 xn xp hbl
       go_wp2
       refine bodyPost_ret (results_tmp2 Tryz.results75 _ _ _) rfl ?_
       exact .inl ⟨by rw [hE]; decide,by rw [hE]; rfl,bnext (bnext HBw.out B5.out) B6.out⟩
   ·have hmc:m=c:=by omega
    subst hmc
    have u1:¬ ((m:Int) < (m:Int)):=by omega
    have xq:wr.cell? ⟨w2.heap.size,2,none⟩=some (.slice Ad m cd):=blk_cells Hx.out 2
    obtain ⟨A5,c5,h5,h5c,h5n⟩:=own_form Hown.out
    injection h5 with e1 _ e3
    subst e1 e3
    have h5m:=own_cap Hown.out
    have HZl:=hid (dirZ_len bs m)
    have HClM:=hid (cloneM_any (dirZ bs m) Ad m cd wr (dirZ_len bs m) (by omega) (fun h=>(h5n h).2) (Row.of_own Hown.out))
    have HRt:=hid (dirTo_right m Hdir.out)
    have HPp:=hid (HPp.out H0.out H1.out q8 H2.out Hdir.out)
    have hPB:=(show placeBad bs=(decide (upZ (atTo (sizeZ bs) (dirZ bs (cntZ bs)) (cntZ bs)) 64 ≠ bs.length) || (decide (4194304 < bs.length) || !allEq MetaV.same (mixTo (sizeZ bs) (dirZ bs (cntZ bs)) (cntZ bs)) (dirZ bs (cntZ bs)))) from rfl)
    rw [Hc.out,Hsz.out,Hn.out] at hPB
    have HPB:=hid hPB
    have hbd:=genTo_bd (size:=(sz:Int)) (L:=dirZ bs m) (by omega) (by omega) (fun x hx=>genM_right (HRt.out x hx)) (by rw [HZl.out]; omega) m
    have hub:0<=upZ (atTo sz (dirZ bs m) m) 64/\upZ (atTo sz (dirZ bs m) m) 64<=1000000000:=by
     unfold upZ
     generalize atTo (sz:Int) (dirZ bs m) m=a at *
     omega
    have HPl:=hid (fun A7 c7 w7 (ho:w7.ownsRow wr.heap.size 37 9 (.slice A7 m c7) m (metaCells (dirZ bs m))) (hz:wr.heap.size<=w7.heap.size)=>place_gen (sz:Int) m c7 wr.heap.size (dirZ bs m) A7 w7 (dirZ_len bs m) (by omega) (fun x hx=>genM_right (HRt.out x hx)) (by omega) (by omega) ho hz)
    have HEq:=hid (fun A7 c7 w8 (hr7:Row w8 w8.heap.size A7 (metaCells (mixTo sz (dirZ bs m) m))) (hr8:Row w8 w8.heap.size Ad (metaCells (dirZ bs m)))=>metaEqual_any (mixTo sz (dirZ bs m) m) (dirZ bs m) A7 Ad m c7 cd w8 (by rw [mixTo_len,dirZ_len]) (dirZ_len bs m) (by omega) hr7 hr8)
    have HRd2:=hid (Row.of_own Hown.out)
    generalize upZ (atTo (sz:Int) (dirZ bs m) m) 64=U at *
    obtain ⟨q,hq⟩:∃ q,allEq MetaV.same (mixTo sz (dirZ bs m) m) (dirZ bs m)=q:=⟨_,rfl⟩
    rw [hq] at HPB HEq
    have H5z:=hid (fun (h:Ad=none)=>(h5n h).2)
    have Hcd:=hid h5c
    clear hq hPB hbd h5n h5c
    go_wp2_with (go_at_call 79; fail)
    refine HClM.out.mono ?_
    rintro e w7 ⟨A7,c7,rfl,h7c,h7m,h7n,hown7,hb7⟩
    have HP7:=hid (HPl.out A7 c7 w7 hown7 hb7.size)
    have B7:=hid hb7
    clear hown7 hb7 xq HClM HPl
    go_wp2_with (go_at_call 127; fail)
    refine HP7.out.mono ?_
    rintro e w8 ⟨rfl,hown8,hb8⟩
    have B8:=hid (B7.out.trans hb8)
    have R8:=hid (Row.of_own hown8)
    have D8:=hid (HRd2.out.later B8.out)
    have X8:=hid (Hx.out.below B8.out Hx.out.lt)
    have E8:=hid (HEq.out A7 c7 w8 R8.out D8.out)
    clear hown8 hb8 HP7 HEq
    have g2:¬ (4194304:Int) < (r4:Int):=by omega
    by_cases p1:U=(r4:Int)
    rotate_left
    ·have g1:(U != (r4:Int))=true:=by rw [bne_iff_ne]; exact p1
     have hE:parseZ bs=12:=by rw [HPp.out,HPB.out,decide_eq_true (show U ≠ (r4:Int) from p1)]; rfl
     go_wp2
     refine bodyPost_ret (results_tmp2 Tryz.results75 _ _ _) rfl ?_
     exact .inl ⟨by rw [hE]; decide,by rw [hE]; rfl,bnext HBw.out B8.out⟩
    subst p1
    have g3:((r4:Int) != (r4:Int))=false:=by simp
    have xq:=blk_cells X8.out 2
    go_wp2_with (go_at_call 133; fail)
    refine E8.out.mono ?_
    rintro e w9 ⟨rfl,hb9⟩
    have B9:=hid hb9
    clear hb9 xq E8
    have hF:decide ((r4:Int) ≠ (r4:Int))=false:=by simp
    have hF2:decide (4194304 < r4)=false:=decide_eq_false (by omega)
    cases q with
    | false =>
     have hE:parseZ bs=12:=by rw [HPp.out,HPB.out,hF,hF2]; rfl
     clear hF hF2
     go_wp2
     refine bodyPost_ret (results_tmp2 Tryz.results75 _ _ _) rfl ?_
     exact .inl ⟨by rw [hE]; decide,by rw [hE]; rfl,bnext (bnext HBw.out B8.out) B9.out⟩
    | true =>
     have hE:parseZ bs=0:=by rw [HPp.out,HPB.out,hF,hF2]; rfl
     clear hF hF2
     have X9:=hid (X8.out.below B9.out X8.out.lt)
     have D9:=hid (D8.out.later B9.out)
     have I9:=hid (RI.out.later (((Hbel.out.trans (B8.out.mono Hbel.out.size))).trans (B9.out.mono (by have:=Hbel.out.size; have:=B8.out.size; omega))))
     go_wp2
     refine bodyPost_ret (results_tmp2 Tryz.results75 _ _ _) rfl ?_
     refine .inr ⟨hE,w2.heap.size,rfl,B2.out.size,⟨Ai,ci,Ad,cd,?_,I9.out,?_,?_,hcim,?_,h5m,hcin,?_⟩,bnext (bnext HBw.out B8.out) B9.out⟩
     ·rw [Hn.out,Hc.out,HZl.out,Hsz.out]; exact X9.out
     ·rw [Hc.out]; exact D9.out
     ·rw [Hn.out]; exact hci
     ·rw [Hc.out,HZl.out]; exact Hcd.out
     ·exact H5z.out
end
section
open Go.RowKit Go.Lib
def zeroM:MetaV:=⟨⟨#[]⟩,0,0,0,false,0,0,0,0⟩
def NoBank (w:World) (v:Value):Prop:=v=.pointer none\/∃ g,v=.pointer (some ⟨g,0,none⟩)/\Blk w g 159 [.slice none 0 0,.int .i64 0,.slice none 0 0]
theorem NoBank.later {w w':World} {v:Value} (h:NoBank w v) (hb:Below w.heap.size w w'):NoBank w' v:=by
 rcases h with h | ⟨g,h1,h2⟩
 ·exact .inl h
 ·exact .inr ⟨g,h1,h2.below hb h2.lt⟩
theorem none_at {w:World} {g size:Nat} {bs:List Nat} {D:List MetaV} (h:BankAt w g bs size D) (hs:0 < size):Calls Tryz.prog 78 #[.pointer (some ⟨g,0,none⟩)] w fun e w'=>e=.returned (.bool false)/\w=w':=by
 obtain ⟨Ai,ci,Ad,cd,h1,_⟩:=h.at_
 have c1:=blk_cells (show Blk w g 159 [.slice Ai bs.length ci,.int .i64 size,.slice Ad D.length cd] from h1) 1
 have t1:((size:Int) == 0)=false:=beq_eq_false_iff_ne.2 (by omega)
 clear h1 h
 go_enter Tryz.func78,Tryz.ntmps78
 go_wp2
 go_ret
 exact ⟨rfl,rfl⟩
def metaI (D:List MetaV) (i:Int):MetaV:=if i < 0\/(D.length:Int)<=i then zeroM else D.getD i.toNat zeroM
def metaE (D:List MetaV) (i:Int):Int:=if i < 0\/(D.length:Int)<=i then 7 else 0
theorem BMeta_any (g size:Nat) (bs:List Nat) (D:List MetaV) (i:Int) (w:World) (h:BankAt w g bs size D) (hs:0 < size) (_:D.length<=1000000) :
  Calls Tryz.prog 31 #[.pointer (some ⟨g,0,none⟩),.int .i64 i] w fun e w'=>e=.returned (.tuple #[.agg (metaI D i).cells.toArray,.int .i64 (metaE D i)])/\Below w.heap.size w w':=by
 have HMf:=hid (show (Tryz.prog.info? 37).map (·.size)=some 9 by kernel_rfl)
 obtain ⟨w1,hw1⟩:∃ w1,w.alloc (.cells #[.string ⟨#[]⟩,.int .i64 0,.int .i64 0,.int .i64 0,.bool false,.int .i64 0,.int .i64 0,.int .i64 0,.int .i64 0] 37)=w1:=⟨_,rfl⟩
 have B1:=hid (show Below w.heap.size w w1 by rw [<-hw1]; exact bnew w _)
 have L1:=hid (show w1.heap[w.heap.size]? = some (.cells #[.string ⟨#[]⟩,.int .i64 0,.int .i64 0,.int .i64 0,.bool false,.int .i64 0,.int .i64 0,.int .i64 0,.int .i64 0] 37 (0,0)) by rw [<-hw1]; exact heap_alloc_new w _)
 have HNo:=hid (none_at (h.later B1.out) hs)
 have hB1:=h.later B1.out
 obtain ⟨Ai,ci,Ad,cd,h1,_,h3,_⟩:=hB1.at_
 have c2:=blk_cells (show Blk w1 g 159 [.slice Ai bs.length ci,.int .i64 size,.slice Ad D.length cd] from h1) 2
 have h3:=hid h3
 by_cases hi:i < 0\/(D.length:Int)<=i
 ·have HO1:=hid (meta_all zeroM)
  have HI:=hid (show metaI D i=zeroM from if_pos hi)
  have HE:=hid (show metaE D i=7 from if_pos hi)
  obtain ⟨n,hn⟩:∃ n,D.length=n:=⟨_,rfl⟩
  rw [hn] at hi c2
  clear h1 hB1 h hn
  rcases Int.lt_or_le i 0 with q | q
  ·clear hi
   go_enter Tryz.func31,Tryz.ntmps31
   go_wp2_with (first | (go_at_call 78; refine HNo.out.mono ?_; rintro e w2 ⟨rfl,rfl⟩) | (refine wpList_store_row_w rfl 37 (.tmp 4) (.tmp 22) rfl w.heap.size rfl _ _ #[.string ⟨#[]⟩,.int .i64 0,.int .i64 0,.int .i64 0,.bool false,.int .i64 0,.int .i64 0,.int .i64 0,.int .i64 0] rfl L1.out HMf.out rfl HO1.out ?_))
   refine bodyPost_ret (v:=.tuple #[.agg #[.string ⟨#[]⟩,.int .i64 0,.int .i64 0,.int .i64 0,.bool false,.int .i64 0,.int .i64 0,.int .i64 0,.int .i64 0],.int .i64 7]) (results_cell_tmp Tryz.results31 _ _ w.heap.size 37 _ (0,0) _ _ rfl rfl (setRow_at w1 _ _ _ _ L1.out) Tryz.underlying37 rfl HMf.out) rfl ?_
   exact ⟨by rw [HI.out,HE.out]; rfl,below_setRow B1.out (Nat.le_refl _) _⟩
  ·have q0:¬ i < 0:=by omega
   have q1:(n:Int)<=i:=by omega
   clear hi q
   go_enter Tryz.func31,Tryz.ntmps31
   go_wp2_with (first | (go_at_call 78; refine HNo.out.mono ?_; rintro e w2 ⟨rfl,rfl⟩) | (refine wpList_store_row_w rfl 37 (.tmp 4) (.tmp 22) rfl w.heap.size rfl _ _ #[.string ⟨#[]⟩,.int .i64 0,.int .i64 0,.int .i64 0,.bool false,.int .i64 0,.int .i64 0,.int .i64 0,.int .i64 0] rfl L1.out HMf.out rfl HO1.out ?_))
   refine bodyPost_ret (v:=.tuple #[.agg #[.string ⟨#[]⟩,.int .i64 0,.int .i64 0,.int .i64 0,.bool false,.int .i64 0,.int .i64 0,.int .i64 0,.int .i64 0],.int .i64 7]) (results_cell_tmp Tryz.results31 _ _ w.heap.size 37 _ (0,0) _ _ rfl rfl (setRow_at w1 _ _ _ _ L1.out) Tryz.underlying37 rfl HMf.out) rfl ?_
   exact ⟨by rw [HI.out,HE.out]; rfl,below_setRow B1.out (Nat.le_refl _) _⟩
 ·obtain ⟨m,rfl⟩:=Int.eq_ofNat_of_zero_le (show 0<=i by omega)
  have hm:m < D.length:=by omega
  obtain ⟨x,hx⟩:∃ x,D[m]? = some x:=⟨_,List.getElem?_eq_getElem hm⟩
  have HI:=hid (show metaI D m=x by
   unfold metaI
   rw [if_neg hi,Int.toNat_natCast,List.getD_eq_getElem?_getD,hx]; rfl)
  have HE:=hid (show metaE D m=0 from if_neg hi)
  have HO1:=hid (meta_all x)
  obtain ⟨b,o,rfl,hb,hc⟩:=meta_at h3.out hx
  have HX:=hid hc
  have HFl:=hid (show (Tryz.prog.info? 37).map (·.size)=some x.cells.length from HMf.out)
  have HFs:=hid (show (Tryz.prog.info? 37).map (·.size)=some x.cells.toArray.size from HMf.out)
  have HSz:=hid (show (9:Nat)=x.cells.toArray.size from rfl)
  obtain ⟨mc,hmc⟩:∃ mc,x.cells=mc:=⟨_,rfl⟩
  have HMc:=hid hmc
  rw [hmc] at HFl HFs HSz HX HO1
  obtain ⟨n,hn⟩:∃ n,D.length=n:=⟨_,rfl⟩
  rw [hn] at hm c2
  have q0:¬ (m:Int) < 0:=by omega
  have q1:¬ (n:Int)<=(m:Int):=by omega
  have q2:(m:Int) < (n:Int):=by omega
  have q3:(0:Int)<=(m:Int):=by omega
  clear h1 hB1 h hn hi hx hc hmc
  go_enter Tryz.func31,Tryz.ntmps31
  go_wp2_with (first | (go_at_call 78; refine HNo.out.mono ?_; rintro e w2 ⟨rfl,rfl⟩) | (refine wpList_load_part_w rfl 37 (.tmp 28) rfl b (o+m*9) rfl mc _ HX.out Tryz.underlying37 rfl HFl.out ?_) | (refine wpList_store_row_w rfl 37 (.tmp 4) (.tmp 29) rfl w.heap.size rfl _ _ mc.toArray rfl L1.out HFs.out HSz.out HO1.out ?_))
  refine bodyPost_ret (v:=.tuple #[.agg mc.toArray,.int .i64 0]) (results_cell_tmp Tryz.results31 _ _ w.heap.size 37 _ (0,0) _ _ rfl rfl (setRow_at w1 _ _ _ _ L1.out) Tryz.underlying37 rfl HFs.out) rfl ?_
  exact ⟨by rw [HI.out,HE.out,HMc.out],below_setRow B1.out (Nat.le_refl _) _⟩
end
section
open Go.RowKit Go.Lib
def Byt (l:List Nat):Prop:=∀ x ∈ l,x < 256
theorem packN_byt {L:List Nat} (h:Bin L):Byt (packN L):=fun x hx=>by
 unfold packN at hx
 obtain ⟨j,_,rfl⟩:=List.mem_map.1 hx
 exact byteAt_lt h j
theorem frameBytes_byt (f:FrameV) (size:Nat):Byt (frameBytes f size):=fun x hx=>by
 unfold frameBytes at hx
 rcases List.mem_append.1 hx with h | h
 ·exact packN_byt (frameB_bin f) x h
 ·obtain ⟨_,rfl⟩:=List.mem_replicate.1 h; omega
theorem numB_byt (size v:Nat):Byt (numB size v):=fun x hx=>by
 unfold numB at hx
 obtain ⟨j,_,rfl⟩:=List.mem_map.1 hx
 exact Nat.mod_lt _ (by decide)
theorem nameB_byt (s:ByteArray):Byt (nameB s):=fun x hx=>by
 unfold nameB at hx
 obtain ⟨j,_,rfl⟩:=List.mem_map.1 hx
 exact j.toNat_lt
theorem putAt_byt {bs xs:List Nat} {o:Nat} (h:Byt bs) (hx:Byt xs):Byt (putAt bs o xs):=fun x hm=>by
 unfold putAt at hm
 rcases List.mem_append.1 hm with h1 | h1
 ·rcases List.mem_append.1 h1 with h2 | h2
  ·exact h x (List.mem_of_mem_take h2)
  ·exact hx x h2
 ·exact h x (List.mem_of_mem_drop h1)
def BytW (l:List (Nat × List Nat)):Prop:=∀ p ∈ l,Byt p.2
theorem lays_byt:∀ {l:List (Nat × List Nat)} {bs:List Nat},Byt bs->BytW l->Byt (lays bs l)
 | [],_,h,_=>h
 | p :: r,bs,h,hl=>lays_byt (l:=r) (putAt_byt h (hl p (by simp))) (fun q hq=>hl q (by simp [hq]))
theorem chanW_byt {first sums size ch k:Nat} {fs:List FrameV}:∀ i,BytW (chanW first sums size ch k fs i)
 | 0=>fun p hp=>by simp [chanW] at hp
 | i+1=>fun p hp=>by
  unfold chanW at hp
  rcases List.mem_append.1 hp with h | h
  ·exact chanW_byt i p h
  ·cases hx:fs[i]? with
   | none=>rw [hx] at h; simp at h
   | some x =>
    rw [hx] at h
    simp only [frameW,List.mem_cons,List.not_mem_nil,or_false] at h
    rcases h with rfl | rfl
    ·exact frameBytes_byt _ _
    ·exact numB_byt _ _
theorem layTo_byt {first sums size:Nat} {rows:List (List Int)}:∀ k,BytW (layTo first sums size rows k)
 | 0=>fun p hp=>by simp [layTo] at hp
 | k+1=>fun p hp=>by
  unfold layTo at hp
  rcases List.mem_append.1 hp with h | h
  ·exact layTo_byt k p h
  ·cases hx:rows[k]? with
   | none=>rw [hx] at h; simp at h
   | some d=>rw [hx] at h; exact chanW_byt _ p h
theorem packTo_byt {size:Nat} {SS:List SampV} {PM:List MetaV}:∀ m,BytW (packTo size SS PM m)
 | 0=>fun p hp=>by simp [packTo] at hp
 | m+1=>fun p hp=>by
  unfold packTo at hp
  rcases List.mem_append.1 hp with h | h
  ·exact packTo_byt m p h
  ·cases hs:SS[m]? with
   | none=>rw [hs] at h; simp at h
   | some s =>
    cases hx:PM[m]? with
    | none=>rw [hs,hx] at h; simp at h
    | some x=>rw [hs,hx] at h; exact layTo_byt _ p h
theorem entryW_byt {o:Nat} {x:MetaV} (h:x.channels<=255):BytW (entryW o x):=fun p hp=>by
 have hc:Byt [x.channels.toNat]:=fun y hy=>by rw [List.mem_singleton] at hy; omega
 have h1:Byt [1]:=fun y hy=>by rw [List.mem_singleton] at hy; omega
 unfold entryW at hp
 split at hp
 ·simp only [List.mem_append,List.mem_cons,List.not_mem_nil,or_false] at hp
  rcases hp with (rfl | rfl | rfl | rfl | rfl | rfl | rfl | rfl) | rfl
  all_goals first | exact nameB_byt _ | exact numB_byt _ _ | exact hc | exact h1
 ·simp only [List.mem_append,List.mem_cons,List.not_mem_nil,or_false] at hp
  rcases hp with rfl | rfl | rfl | rfl | rfl | rfl | rfl | rfl
  all_goals first | exact nameB_byt _ | exact numB_byt _ _ | exact hc | exact h1
theorem entsTo_byt {L:List MetaV} (hL:∀ x ∈ L,x.channels<=255):∀ m,BytW (entsTo L m)
 | 0=>fun p hp=>by simp [entsTo] at hp
 | m+1=>fun p hp=>by
  unfold entsTo at hp
  rcases List.mem_append.1 hp with h | h
  ·exact entsTo_byt hL m p h
  ·cases hx:L[m]? with
   | none=>rw [hx] at h; simp at h
   | some x=>rw [hx] at h; exact entryW_byt (hL x (List.mem_of_getElem? hx)) p h
theorem withHead_byt {bs:List Nat} {L:List MetaV} {size:Nat} (hb:Byt bs) (hL:∀ x ∈ L,x.channels<=255) (hs:size<=255):Byt (withHead bs L size):=by
 unfold withHead
 refine putAt_byt (lays_byt hb fun p hp=>?_) (numB_byt _ _)
 rcases List.mem_append.1 hp with h | h
 ·unfold headW at h
  simp only [List.mem_cons,List.not_mem_nil,or_false] at h
  rcases h with rfl | rfl | rfl | rfl
  ·intro y hy; simp at hy; omega
  ·exact numB_byt _ _
  ·exact numB_byt _ _
  ·intro y hy; rw [List.mem_singleton] at hy; omega
 ·exact entsTo_byt hL _ p h
theorem packZ_byt {size:Nat} {SS:List SampV} (h:CanP size SS):Byt (packZ size SS):=by
 rw [packZ_eq]
 refine withHead_byt (lays_byt (fun x hx=>by obtain ⟨_,rfl⟩:=List.mem_replicate.1 hx; omega) (packTo_byt _)) (fun x hx=>(h.goodE x hx).1.ch.2) (by have:=h.hi; omega)
theorem bytes_at_row {w:World} {g:Nat} {bs:List Nat} (h:BytesAt w g bs):Row w w.heap.size (some ⟨g,0,none⟩) (u8s bs):=fun i v hv=>by
 refine ⟨g,0,rfl,h.lt,?_⟩
 have:=blk_cells h i
 rw [Nat.zero_add,this]
 exact hv
theorem Parse_packed {size:Nat} {SS:List SampV} (h:CanP size SS) (g:Nat) (w:World) (hb:BytesAt w g (packZ size SS)) :
  Calls Tryz.prog 75 #[.slice (some ⟨g,0,none⟩) (packLen size SS) (packLen size SS)] w fun e w'=>∃ x,e=.returned (.tuple #[.pointer (some ⟨x,0,none⟩),.int .i64 0])/\w.heap.size<=x/\BankAt w' x (packZ size SS) size (packDir size SS)/\Below w.heap.size w w':=by
 have hl:=h.len_bd
 refine (Parse_any (packZ size SS) (some ⟨g,0,none⟩) (packLen size SS) (packLen size SS) w (packZ_len h) (Nat.le_refl _) (by omega) (by omega) (fun h=>by cases h) (bytes_at_row hb) (packZ_byt h)).mono ?_
 rintro e w' (⟨h1,_⟩ | ⟨_,x,he,hx,hB,hbel⟩)
 ·exact absurd (packZ_parse h) h1
 ·rw [packZ_size h,packZ_cnt h,packZ_dir h] at hB
  exact ⟨x,he,hx,hB,hbel⟩
end
section
open Go.RowKit Go.Lib
end
section
open Go.RowKit Go.Lib
theorem results_t3 {P:Program} {fn:Func} {p q r:Tmp} (h:fn.results=#[.tmp p,.tmp q,.tmp r]) (tmps:Array Value) (w:World):(results fn tmps).run P w=.ok (.tuple #[tmps.getD p undef,tmps.getD q undef,tmps.getD r undef]) w:=by
 simp [results,h]
end
section
open Go.RowKit Go.Lib
structure FitB (bs:List Nat) (size:Nat) (D:List MetaV):Prop where
 lo:24<=size
 hi:size<=96
 many:D.length<=64
 long:bs.length<=4000000
 byt:Byt bs
 right:∀ x ∈ D,x.right=true
 lie:∀ x ∈ D,0<=x.sums/\x.sums+4*framesN x<=x.first/\x.first+size*framesN x<=bs.length
theorem upZ16_ge (n:Int):n<=upZ n 16:=by unfold upZ; omega
theorem upZ64_ge (n:Int):n<=upZ n 64:=by unfold upZ; omega
theorem genTo_step {size:Int} {L:List MetaV} (h1:24<=size) (hL:∀ x ∈ L,GenM x) (m:Nat):atTo size L m<=atTo size L (m+1):=by
 cases hx:L[m]? with
 | none =>
  have e:atTo size L (m+1)=atTo size L m:=by
   show (match L[m]? with | some x=>_ | none=>_)=_
   rw [hx]
  rw [e]; exact Int.le_refl _
 | some x =>
  rw [atTo_succ hx]
  have hF:=(hL x (List.mem_of_getElem? hx)).fr
  have h3:0<=size*framesN x:=Int.mul_nonneg (by omega) hF.1
  have h4:=upZ16_ge (atTo size L m+4*framesN x)
  omega
theorem genTo_mono {size:Int} {L:List MetaV} (h1:24<=size) (hL:∀ x ∈ L,GenM x) {m n:Nat} (h:m<=n):atTo size L m<=atTo size L n:=by
 induction n with
 | zero =>
  have:m=0:=by omega
  subst this; exact Int.le_refl _
 | succ n ih =>
  by_cases hm:m=n+1
  ·subst hm; exact Int.le_refl _
  ·exact Int.le_trans (ih (by omega)) (genTo_step h1 hL n)
theorem fit_parsed {bs:List Nat} (h:parseZ bs=0) (hl:bs.length<=4000000) (hb:Byt bs):FitB bs (sizeZ bs) (dirZ bs (cntZ bs)):=by
 unfold parseZ at h
 split at h
 ·cases h
 split at h
 ·cases h
 split at h
 ·cases h
 rename_i hsz
 split at h
 ·cases h
 split at h
 ·cases h
 split at h
 ·cases h
 rename_i hdir
 split at h
 ·cases h
 rename_i hpl
 have hdir:dirTo bs (cntZ bs)=true:=by simpa using hdir
 have hright:=dirTo_right _ hdir
 unfold sizeBad at hsz
 simp only [Bool.or_eq_true,decide_eq_true_eq,not_or] at hsz
 obtain ⟨h1,h2,h3,h4⟩:=hsz
 unfold placeBad at hpl
 simp only [Bool.or_eq_true,decide_eq_true_eq,Bool.not_eq_true',not_or,Bool.not_eq_false,Decidable.not_not] at hpl
 obtain ⟨h5,h6,h7⟩:=hpl
 have h7:=allEq_eq h7
 have hgen:∀ x ∈ dirZ bs (cntZ bs),GenM x:=fun x hx=>genM_right (hright x hx)
 refine ⟨by omega,by omega,by rw [dirZ_len]; omega,hl,hb,hright,fun x hx=>?_⟩
 obtain ⟨m,hm,rfl⟩:=List.mem_iff_getElem.1 hx
 have hm':m < cntZ bs:=by rw [dirZ_len] at hm; exact hm
 have hx0:(dirZ bs (cntZ bs))[m]? = some (dirZ bs (cntZ bs))[m]:=List.getElem?_eq_getElem hm
 have hg:=mixTo_get (size:=(sizeZ bs:Int)) hx0 (cntZ bs)
 rw [if_pos hm',h7,hx0] at hg
 injection hg with hg
 have hF:=(hgen _ hx).fr
 have hbd:=genTo_bd (size:=(sizeZ bs:Int)) (by omega) (by omega) hgen (by rw [dirZ_len]; omega) m
 have hmo:=genTo_mono (size:=(sizeZ bs:Int)) (by omega) hgen (show m+1<=cntZ bs by omega)
 rw [atTo_succ hx0] at hmo
 have hu:=upZ64_ge (atTo (sizeZ bs) (dirZ bs (cntZ bs)) (cntZ bs))
 have hge:=upZ16_ge (atTo (sizeZ bs) (dirZ bs (cntZ bs)) m+4*framesN (dirZ bs (cntZ bs))[m])
 have hs:((dirZ bs (cntZ bs))[m]).sums=atTo (sizeZ bs) (dirZ bs (cntZ bs)) m:=by
  have:=congrArg MetaV.sums hg; exact this
 have hf:((dirZ bs (cntZ bs))[m]).first=upZ (atTo (sizeZ bs) (dirZ bs (cntZ bs)) m+4*framesN (dirZ bs (cntZ bs))[m]) 16:=by
  have:=congrArg MetaV.first hg; exact this
 rw [hs,hf]
 omega
/-! The methods. -/
theorem BSize_any {w:World} {g size:Nat} {bs:List Nat} {D:List MetaV} (h:BankAt w g bs size D) (hs:0 < size):Calls Tryz.prog 85 #[.pointer (some ⟨g,0,none⟩)] w fun e w'=>e=.returned (.int .i64 size)/\w=w':=by
 have HN:=Lib.hid (none_at h hs)
 obtain ⟨Ai,ci,Ad,cd,h1,_⟩:=h.at_
 have c1:=blk_cells (show Blk w g 159 [.slice Ai bs.length ci,.int .i64 size,.slice Ad D.length cd] from h1) 1
 clear h1 h
 go_enter Tryz.func85,Tryz.ntmps85
 go_wp2_with (go_at_call 78; refine HN.out.mono ?_; rintro e w2 ⟨rfl,rfl⟩)
 go_ret
 exact ⟨rfl,rfl⟩
theorem BDir_any {w:World} {g size:Nat} {bs:List Nat} {D:List MetaV} (h:BankAt w g bs size D) (hs:0 < size) (hD:D.length<=64):Calls Tryz.prog 16 #[.pointer (some ⟨g,0,none⟩)] w (CopyP w 37 9 D.length (metaCells D)):=by
 have HN:=Lib.hid (none_at h hs)
 obtain ⟨Ai,ci,Ad,cd,h1,_,h3,_,_,_,_,_,h9⟩:=h.at_
 have c2:=blk_cells (show Blk w g 159 [.slice Ai bs.length ci,.int .i64 size,.slice Ad D.length cd] from h1) 2
 have HC:=Lib.hid (cloneM_any D Ad D.length cd w rfl (by omega) h9 h3)
 generalize D.length=n at *
 clear h1 h h3 h9
 go_enter Tryz.func16,Tryz.ntmps16
 go_wp2_with (first | (go_at_call 78; refine HN.out.mono ?_; rintro e w2 ⟨rfl,rfl⟩) | (go_at_call 79; fail))
 refine HC.out.mono ?_
 rintro e w2 ⟨A,c,rfl,h⟩
 go_wp2
 go_ret
 exact ⟨A,c,rfl,h⟩
end
section
open Go.RowKit Go.Lib
def whereE (D:List MetaV) (i c b:Int):Int:=if metaE D i ≠ 0 then 7 else if c < 0\/(metaI D i).channels<=c\/b < 0\/countZ (metaI D i).length<=b then 5 else 0
def frameNo (D:List MetaV) (i c b:Int):Int:=b*(metaI D i).channels+c
def whereAt (D:List MetaV) (size:Nat) (i c b:Int):Int:=if whereE D i c b=0 then (metaI D i).first+frameNo D i c b*size else 0
def whereSum (D:List MetaV) (bs:List Nat) (i c b:Int):Nat:=if whereE D i c b=0 then readTo bs ((metaI D i).sums+4*frameNo D i c b).toNat 4 else 0
theorem metaI_mem {D:List MetaV} {i:Int} (h:metaE D i=0):metaI D i ∈ D:=by
 unfold metaE at h
 split at h
 ·cases h
 ·rename_i hi
  unfold metaI
  rw [if_neg hi]
  have hm:i.toNat < D.length:=by omega
  rw [List.getD_eq_getElem?_getD,List.getElem?_eq_getElem hm]
  exact List.getElem_mem hm
theorem metaE_two (D:List MetaV) (i:Int):metaE D i=0\/metaE D i=7:=by unfold metaE; split <;> simp
theorem where_lies {bs:List Nat} {size:Nat} {D:List MetaV} (h:FitB bs size D) {i c b:Int} (hE:whereE D i c b=0) :
  ∃ x ∈ D,metaI D i=x/\∃ (ch cn bn S F q P:Nat),x.channels=ch/\c=cn/\b=bn/\x.sums=S/\x.first=F/\(bn:Int)*(ch:Int)=((bn*ch:Nat):Int)/\bn*ch+cn=q/\q*size=P/\(q:Int)*(size:Int)=(P:Int)/\S+4*q+4<=F/\F+P+size<=bs.length/\(0<=c/\c < x.channels)/\0<=b/\b < countZ x.length/\bn*ch<=1000000:=by
 unfold whereE at hE
 split at hE
 ·cases hE
 split at hE
 ·cases hE
 rename_i h1 h2
 have h1:metaE D i=0:=by simpa using h1
 have hx:=metaI_mem h1
 obtain ⟨x,hxe⟩:∃ x,metaI D i=x:=⟨_,rfl⟩
 rw [hxe] at h2 hx
 obtain ⟨r1,r2,r3,r4,r5⟩:=right_bds (h.right x hx)
 obtain ⟨l1,l2,l3⟩:=h.lie x hx
 obtain ⟨ch,hch⟩:=Int.eq_ofNat_of_zero_le (show 0<=x.channels by omega)
 obtain ⟨cn,hcn⟩:=Int.eq_ofNat_of_zero_le (show 0<=c by omega)
 obtain ⟨bn,hbn⟩:=Int.eq_ofNat_of_zero_le (show 0<=b by omega)
 obtain ⟨S,hS⟩:=Int.eq_ofNat_of_zero_le (show 0<=x.sums by omega)
 have hF0:0<=framesN x:=by
  have:=(genM_right (h.right x hx)).fr
  omega
 obtain ⟨F,hF⟩:=Int.eq_ofNat_of_zero_le (show 0<=x.first by omega)
 have hcz:0<=countZ x.length/\countZ x.length<=65536:=by unfold countZ; split <;> omega
 obtain ⟨cz,hczn⟩:=Int.eq_ofNat_of_zero_le hcz.1
 have hfr:framesN x=((cz*ch:Nat):Int):=by
  unfold framesN
  rw [hczn,hch]
  push_cast; rfl
 have hq:bn*ch+cn+1<=cz*ch:=by
  have:=Nat.mul_le_mul_right ch (show bn+1<=cz by omega)
  rw [Nat.succ_mul] at this
  omega
 have hP:(bn*ch+cn)*size+size<=size*(cz*ch):=by
  have:=Nat.mul_le_mul_right size hq
  rw [Nat.succ_mul,Nat.mul_comm (cz*ch) size] at this
  exact this
 have e1:(size:Int)*((cz*ch:Nat):Int)=((size*(cz*ch):Nat):Int):=by push_cast; rfl
 rw [hfr,hS,hF] at l2
 rw [hfr,hF,e1] at l3
 have hbc:bn*ch<=1000000:=by
  have hc2:ch<=2:=by omega
  have:=Nat.mul_le_mul (show bn<=65536 by omega) hc2
  omega
 refine ⟨x,hx,hxe,ch,cn,bn,S,F,bn*ch+cn,(bn*ch+cn)*size,hch,hcn,hbn,hS,hF,by push_cast; rfl,rfl,rfl,by push_cast; rfl,?_,?_,by omega,by omega,by omega,hbc⟩
 ·generalize cz*ch=T at *
  generalize bn*ch+cn=q at *
  omega
 ·generalize size*(cz*ch)=T at *
  generalize (bn*ch+cn)*size=P at *
  omega
def WherePost (w:World) (D:List MetaV) (bs:List Nat) (size:Nat) (i c b:Int) (e:Ending) (w':World):Prop :=
 e=.returned (.tuple #[.int .i64 (whereAt D size i c b),.int .u32 (whereSum D bs i c b:Nat),.int .i64 (whereE D i c b)])/\Below w.heap.size w w'
theorem Where_any (g size:Nat) (bs:List Nat) (D:List MetaV) (i c b:Int) (w:World) (h:BankAt w g bs size D) (hf:FitB bs size D) :
  Calls Tryz.prog 35 #[.pointer (some ⟨g,0,none⟩),.int .i64 i,.int .i64 c,.int .i64 b] w (WherePost w D bs size i c b):=by
 have HMe:=hid (BMeta_any g size bs D i w h (by have:=hf.lo; omega) (by have:=hf.many; omega))
 have HMf:=hid (show (Tryz.prog.info? 37).map (·.size)=some 9 by kernel_rfl)
 have HO1:=hid (meta_all (metaI D i))
 have Hh:=hid h
 have Hf:=hid hf
 unfold WherePost
 by_cases hE:metaE D i=0
 rotate_left
 ·have hE7:metaE D i=7:=(metaE_two D i).resolve_left hE
  have hW:whereE D i c b=7:=if_pos hE
  have hA:whereAt D size i c b=0:=by unfold whereAt; rw [hW]; rfl
  have hS:whereSum D bs i c b=0:=by unfold whereSum; rw [hW]; rfl
  rw [hW,hA,hS]
  rw [hE7] at HMe
  generalize metaI D i=x at *
  obtain ⟨nm,len,rate,ch,lp,f,t,sums,first⟩:=x
  clear hE hE7 hW hA hS h hf
  go_enter Tryz.func35,Tryz.ntmps35
  go_wp2_with (go_at_call 31; fail)
  refine HMe.out.mono ?_
  rintro e w2 ⟨rfl,hb2⟩
  go_wp2_with (refine wpList_store_row_w rfl 37 (.tmp 11) (.tmp 18) rfl w2.heap.size rfl _ _ #[.string nm,.int .i64 len,.int .i64 rate,.int .i64 ch,.bool lp,.int .i64 f,.int .i64 t,.int .i64 sums,.int .i64 first] rfl (heap_alloc_new w2 _) HMf.out rfl HO1.out ?_; rw [World.setRow_alloc_new])
  refine bodyPost_ret (results_t3 Tryz.results35 _ _) rfl ?_
  exact ⟨rfl,bnext hb2 (bnew w2 _)⟩
 rw [hE] at HMe
 by_cases hbad:c < 0\/(metaI D i).channels<=c\/b < 0\/countZ (metaI D i).length<=b
 ·have hW:whereE D i c b=5:=by unfold whereE; rw [if_neg (by simp [hE]),if_pos hbad]
  have hA:whereAt D size i c b=0:=by unfold whereAt; rw [hW]; rfl
  have hS:whereSum D bs i c b=0:=by unfold whereSum; rw [hW]; rfl
  rw [hW,hA,hS]
  obtain ⟨r1,_,r3,_⟩:=right_bds (hf.right _ (metaI_mem hE))
  have HCt:=hid (fun W=>CountI_any (metaI D i).length W (by omega))
  generalize metaI D i=x at *
  obtain ⟨nm,len,rate,ch,lp,f,t,sums,first⟩:=x
  clear hE hW hA hS h hf
  simp only at hbad
  generalize countZ len=cz at *
  by_cases q1:c < 0
  ·clear hbad
   go_enter Tryz.func35,Tryz.ntmps35
   go_wp2_with (go_at_call 31; fail)
   refine HMe.out.mono ?_
   rintro e w2 ⟨rfl,hb2⟩
   go_wp2_with (refine wpList_store_row_w rfl 37 (.tmp 11) (.tmp 18) rfl w2.heap.size rfl _ _ #[.string nm,.int .i64 len,.int .i64 rate,.int .i64 ch,.bool lp,.int .i64 f,.int .i64 t,.int .i64 sums,.int .i64 first] rfl (heap_alloc_new w2 _) HMf.out rfl HO1.out ?_; rw [World.setRow_alloc_new])
   refine bodyPost_ret (results_t3 Tryz.results35 _ _) rfl ?_
   exact ⟨rfl,bnext hb2 (bnew w2 _)⟩
  by_cases q2:ch<=c
  ·clear hbad
   go_enter Tryz.func35,Tryz.ntmps35
   go_wp2_with (go_at_call 31; fail)
   refine HMe.out.mono ?_
   rintro e w2 ⟨rfl,hb2⟩
   go_wp2_with (refine wpList_store_row_w rfl 37 (.tmp 11) (.tmp 18) rfl w2.heap.size rfl _ _ #[.string nm,.int .i64 len,.int .i64 rate,.int .i64 ch,.bool lp,.int .i64 f,.int .i64 t,.int .i64 sums,.int .i64 first] rfl (heap_alloc_new w2 _) HMf.out rfl HO1.out ?_; rw [World.setRow_alloc_new])
   refine bodyPost_ret (results_t3 Tryz.results35 _ _) rfl ?_
   exact ⟨rfl,bnext hb2 (bnew w2 _)⟩
  by_cases q3:b < 0
  ·clear hbad
   go_enter Tryz.func35,Tryz.ntmps35
   go_wp2_with (go_at_call 31; fail)
   refine HMe.out.mono ?_
   rintro e w2 ⟨rfl,hb2⟩
   go_wp2_with (refine wpList_store_row_w rfl 37 (.tmp 11) (.tmp 18) rfl w2.heap.size rfl _ _ #[.string nm,.int .i64 len,.int .i64 rate,.int .i64 ch,.bool lp,.int .i64 f,.int .i64 t,.int .i64 sums,.int .i64 first] rfl (heap_alloc_new w2 _) HMf.out rfl HO1.out ?_; rw [World.setRow_alloc_new])
   refine bodyPost_ret (results_t3 Tryz.results35 _ _) rfl ?_
   exact ⟨rfl,bnext hb2 (bnew w2 _)⟩
  have q4:cz<=b:=by omega
  clear hbad
  go_enter Tryz.func35,Tryz.ntmps35
  go_wp2_with (go_at_call 31; fail)
  refine HMe.out.mono ?_
  rintro e w2 ⟨rfl,hb2⟩
  go_wp2_with (first | (refine wpList_store_row_w rfl 37 (.tmp 11) (.tmp 18) rfl w2.heap.size rfl _ _ #[.string nm,.int .i64 len,.int .i64 rate,.int .i64 ch,.bool lp,.int .i64 f,.int .i64 t,.int .i64 sums,.int .i64 first] rfl (heap_alloc_new w2 _) HMf.out rfl HO1.out ?_; rw [World.setRow_alloc_new]) | (go_at_call 90; refine (HCt.out _).mono ?_; rintro e w3 ⟨rfl,rfl⟩))
  refine bodyPost_ret (results_t3 Tryz.results35 _ _) rfl ?_
  exact ⟨rfl,bnext hb2 (bnew w2 _)⟩
 ·have hW:whereE D i c b=0:=by unfold whereE; rw [if_neg (by simp [hE]),if_neg hbad]
  obtain ⟨x,hxD,hxe,chN,cn,bn,S,F,q,P,e1,rfl,rfl,e2,e3,hm1,hq,hP,hm2,l1,l2,⟨c0,c1⟩,b0,b1,hbc⟩:=where_lies hf hW
  have HA:=hid (show whereAt D size i cn bn=((F+P:Nat):Int) by
   unfold whereAt frameNo
   rw [if_pos hW,hxe,e1,e3,hm1,<-Int.natCast_add,hq,hm2]
   push_cast; rfl)
  obtain ⟨V,hV⟩:∃ V,readTo bs (S+4*q) 4=V:=⟨_,rfl⟩
  have HS:=hid (show whereSum D bs i cn bn=V by
   unfold whereSum frameNo
   rw [if_pos hW,hxe,e1,e2,hm1,<-Int.natCast_add,hq,<-hV]
   congr 1)
  have hVb:V < 4294967296:=by rw [<-hV]; exact readTo_lt hf.byt _ 4
  obtain ⟨r1,_,r3,_⟩:=right_bds (hf.right _ hxD)
  have HCt:=hid (fun W=>CountI_any x.length W (by omega))
  have hln:=hf.long
  have hlo:=hf.lo
  have hhi:=hf.hi
  obtain ⟨Ai,ci,Ad,cd,h1,h2,_,h4,_⟩:=h.at_
  have HRd:=hid (fun W (hW:Below w.heap.size w W)=>(show Calls Tryz.prog 93 #[.slice Ai bs.length ci,.int .i64 ((S:Int)+4*(q:Int)),.int .i64 4] W (fun e w'=>e=.returned (.int .i64 (V:Nat))/\W=w') from by
   have:=read_any bs Ai bs.length ci (S+4*q) 4 W rfl (h2.later hW) hf.byt (by omega) (by omega) (by omega)
   rw [hV,show ((S+4*q:Nat):Int)=(S:Int)+4*(q:Int) by push_cast; rfl] at this
   exact this))
  have HXc:=hid (fun W (hW:Below w.heap.size w W) j v (hv:([.slice Ai bs.length ci,.int .i64 size,.slice Ad D.length cd]:List Value)[j]? = some v)=>(show W.cell? ⟨g,j,none⟩=some v from by
   have hB:Blk w g 159 [.slice Ai bs.length ci,.int .i64 size,.slice Ad D.length cd]:=h1
   rw [blk_cells (hB.below hW hB.lt) j]; exact hv))
  rw [HA.out,HS.out,hW]
  rw [hxe] at HMe HO1
  clear hbad hE hW hxe hf h h1 h2 h4 hxD hV HA HS Hf Hh
  obtain ⟨nm,len,rate,ch,lp,f,t,sums,first⟩:=x
  simp only at e1 e2 e3 c1 b1 r1 r3 HCt
  subst e1 e2 e3
  generalize countZ len=cz at *
  generalize bs.length=n at *
  generalize D.length=dn at *
  obtain ⟨Q0,hQ0⟩:∃ Q0,bn*chN=Q0:=⟨_,rfl⟩
  rw [hQ0] at hm1 hq hbc
  have hqi:(Q0:Int)+(cn:Int)=(q:Int):=by omega
  have HFP:=hid (show (F:Int)+(P:Int)=((F+P:Nat):Int) by push_cast; rfl)
  have hwV:IntKind.u32.wrap (V:Int)=(V:Int):=by rw [IntKind.wrap_u32]; omega
  have k1:¬ (cn:Int) < 0:=by omega
  have k2:¬ (chN:Int)<=(cn:Int):=by omega
  have k3:¬ (bn:Int) < 0:=by omega
  have k4:¬ cz<=(bn:Int):=by omega
  clear hQ0 hq hP
  go_enter Tryz.func35,Tryz.ntmps35
  go_wp2_with (go_at_call 31; fail)
  refine HMe.out.mono ?_
  rintro e w2 ⟨rfl,hb2⟩
  have B2:=hid (bnext hb2 (bnew w2 (.cells #[.string nm,.int .i64 len,.int .i64 rate,.int .i64 chN,.bool lp,.int .i64 f,.int .i64 t,.int .i64 S,.int .i64 F] 37)))
  clear hb2
  go_wp2_with (first | (refine wpList_store_row_w rfl 37 (.tmp 11) (.tmp 18) rfl w2.heap.size rfl _ _ #[.string nm,.int .i64 len,.int .i64 rate,.int .i64 chN,.bool lp,.int .i64 f,.int .i64 t,.int .i64 S,.int .i64 F] rfl (heap_alloc_new w2 _) HMf.out rfl HO1.out ?_; rw [World.setRow_alloc_new]) | (go_at_call 90; refine (HCt.out _).mono ?_; rintro e w3 ⟨rfl,rfl⟩))
  obtain ⟨w3,hw3⟩:∃ w3,w2.alloc (.cells #[.string nm,.int .i64 len,.int .i64 rate,.int .i64 chN,.bool lp,.int .i64 f,.int .i64 t,.int .i64 S,.int .i64 F] 37)=w3:=⟨_,rfl⟩
  rw [hw3] at B2 ⊢
  have M3:=hid (show Blk w3 w2.heap.size 37 [.string nm,.int .i64 len,.int .i64 rate,.int .i64 chN,.bool lp,.int .i64 f,.int .i64 t,.int .i64 S,.int .i64 F] by rw [<-hw3]; exact Blk.new w2 _ [.string nm,.int .i64 len,.int .i64 rate,.int .i64 chN,.bool lp,.int .i64 f,.int .i64 t,.int .i64 S,.int .i64 F])
  clear hw3
  have m7:=fun (z:GW w3)=>(show z.1.cell? ⟨w2.heap.size,7,none⟩=some (.int .i64 S) from blk_cells (M3.out.below z.2 M3.out.lt) 7)
  have m8:=fun (z:GW w3)=>(show z.1.cell? ⟨w2.heap.size,8,none⟩=some (.int .i64 F) from blk_cells (M3.out.below z.2 M3.out.lt) 8)
  have x0:=fun (z:GW w3)=>HXc.out z.1 (bnext B2.out z.2) 0 _ rfl
  have x1:=fun (z:GW w3)=>HXc.out z.1 (bnext B2.out z.2) 1 _ rfl
  have HR3:=hid (fun (z:GW w3)=>HRd.out z.1 (bnext B2.out z.2))
  refine wp_region_calm (by kernel_rfl) (by kernel_rfl) ?_
  repeat (go_big_quiet_step ((go_at_call 93; exact calm_same (HR3.out _))))
  refine wpQuiet_nil ?_
  intro w5 hw'
  have B5:=hid (gw_below hw')
  clear hw' m7 m8 x0 x1
  go_wp2
  refine bodyPost_ret (results_t3 Tryz.results35 _ _) rfl ?_
  exact ⟨by rw [<-HFP.out]; rfl,bnext B2.out B5.out⟩
end
section
open Go.RowKit Go.Lib
def BytesP (w:World) (D:List MetaV) (bs:List Nat) (size:Nat) (i c b:Int) (e:Ending) (w':World):Prop :=
 Below w.heap.size w w'/\((whereE D i c b ≠ 0/\e=.returned (.tuple #[.slice none 0 0,.int .i64 (whereE D i c b)])) \/
  (whereE D i c b=0/\∃ A c',e=.returned (.tuple #[.slice A size c',.int .i64 0])/\size<=c'/\c'<=9223372036854775807/\(A=none->c'=0)/\Row w' w'.heap.size A (u8s (subB bs (whereAt D size i c b).toNat size))))
theorem Bytes_any (g size:Nat) (bs:List Nat) (D:List MetaV) (i c b:Int) (w:World) (h:BankAt w g bs size D) (hf:FitB bs size D) :
  Calls Tryz.prog 33 #[.pointer (some ⟨g,0,none⟩),.int .i64 i,.int .i64 c,.int .i64 b] w (BytesP w D bs size i c b):=by
 have HW:=hid (Where_any g size bs D i c b w h hf)
 unfold BytesP
 unfold WherePost at HW
 by_cases hE:whereE D i c b=0
 rotate_left
 ·have hA:whereAt D size i c b=0:=if_neg hE
  have hS:whereSum D bs i c b=0:=if_neg hE
  rw [hA,hS] at HW
  generalize whereE D i c b=E at *
  have t1:(E != 0)=true:=by rw [bne_iff_ne]; exact hE
  have t2:(E == 0)=false:=beq_eq_false_iff_ne.2 hE
  have HE:=hid hE
  clear hE hA hS h hf
  go_enter Tryz.func33,Tryz.ntmps33
  go_wp2_with (go_at_call 35; fail)
  refine HW.out.mono ?_
  rintro e w2 ⟨rfl,hb2⟩
  go_wp2
  refine bodyPost_ret (results_tmp2 Tryz.results33 _ _ _) rfl ?_
  exact ⟨hb2,.inl ⟨HE.out,rfl⟩⟩
 ·obtain ⟨x,hxD,hxe,chN,cn,bn,S,F,q,P,e1,rfl,rfl,e2,e3,hm1,hq,hP,hm2,l1,l2,_,b0,b1,hbc⟩:=where_lies hf hE
  have hA:whereAt D size i cn bn=((F+P:Nat):Int):=by
   unfold whereAt frameNo
   rw [if_pos hE,hxe,e1,e3,hm1,<-Int.natCast_add,hq,hm2]
   push_cast; rfl
  have hVb:whereSum D bs i cn bn < 4294967296:=by
   rw [show whereSum D bs i cn bn=readTo bs ((metaI D i).sums+4*frameNo D i cn bn).toNat 4 from if_pos hE]
   exact readTo_lt hf.byt _ 4
  rw [hA,hE] at HW
  obtain ⟨V,hV⟩:∃ V,whereSum D bs i cn bn=V:=⟨_,rfl⟩
  rw [hV] at HW hVb
  have HEn:=hid hE
  obtain ⟨AT,hAT⟩:∃ AT,F+P=AT:=⟨_,rfl⟩
  rw [hAT] at HW hA l2
  have HAn:=hid (show (whereAt D size i cn bn).toNat=AT by rw [hA]; rfl)
  rw [HAn.out,hE]
  have hln:=hf.long
  have hlo:=hf.lo
  have hhi:=hf.hi
  obtain ⟨Ai,ci,Ad,cd,h1,h2,_,h4,h5,_,_,_,_⟩:=h.at_
  obtain ⟨y0,hy0⟩:∃ y0,bs[0]? = some y0:=⟨_,List.getElem?_eq_getElem (by omega)⟩
  obtain ⟨gi,off,rfl,_,_⟩:=h2 0 _ (u8s_get hy0)
  have HXc:=hid (fun W (hW:Below w.heap.size w W) j v (hv:([.slice (some ⟨gi,off,none⟩) bs.length ci,.int .i64 size,.slice Ad D.length cd]:List Value)[j]? = some v)=>(show W.cell? ⟨g,j,none⟩=some v from by
   have hB:Blk w g 159 [.slice (some ⟨gi,off,none⟩) bs.length ci,.int .i64 size,.slice Ad D.length cd]:=h1
   rw [blk_cells (hB.below hW hB.lt) j]; exact hv))
  have HCl:=hid (fun W (hW:Below w.heap.size w W)=>(show Calls Tryz.prog 91 #[.slice (some ⟨gi,off+AT,none⟩) size (ci - AT)] W (CopyP W 5 1 size (u8s (subB bs AT size))) from by
   have hr:=(((h2.later hW).drop_ AT).take size)
   rw [u8s_drop,u8s_take,subB_drop (by omega)] at hr
   exact cloneB_any (subB bs AT size) (some ⟨gi,off+AT,none⟩) size (ci - AT) W (subB_len _ _ _) (by omega) nofun hr))
  clear hE hxe hf h h1 h2 hxD hV hA e1 e2 e3 hm1 hq hP hm2 hAT hy0 b1 b0 HAn hbc l1
  generalize whereE D i cn bn=E at *
  generalize bs.length=n at *
  generalize D.length=dn at *
  have k1:AT+size<=n:=by omega
  have k2:n<=ci:=by omega
  have hati:(AT:Int)+(size:Int)=((AT+size:Nat):Int):=by push_cast; rfl
  have Hati:=hid hati
  clear hati l2
  go_enter Tryz.func33,Tryz.ntmps33
  go_wp2_with (go_at_call 35; fail)
  refine HW.out.mono ?_
  rintro e w2 ⟨rfl,hb2⟩
  have B2:=hid hb2
  clear hb2
  go_wp2_with fail
  have x0:=fun (z:GW w2)=>HXc.out z.1 (bnext B2.out z.2) 0 _ rfl
  have x1:=fun (z:GW w2)=>HXc.out z.1 (bnext B2.out z.2) 1 _ rfl
  refine wp_region_calm_tail 12 (by kernel_rfl) (by kernel_rfl) ?_
  simp only [List.take_succ_cons,List.take_zero,List.drop_succ_cons,List.drop_zero]
  repeat (go_big_quiet_step (fail))
  refine wpQuiet_nil ?_
  intro w5 hw'
  have B5:=hid (gw_below hw')
  clear hw' x0 x1
  have HC5:=hid (HCl.out w5 (bnext B2.out B5.out))
  go_wp2_with (go_at_call 91; fail)
  refine HC5.out.mono ?_
  rintro e w6 ⟨A6,c6,rfl,h6c,h6m,h6n,hown,hb6⟩
  have R6:=hid (Row.of_own hown)
  clear hown
  go_wp2
  refine bodyPost_ret (results_tmp2 Tryz.results33 _ _ _) rfl ?_
  exact ⟨bnext (bnext B2.out B5.out) hb6,.inr ⟨trivial,A6,c6,rfl,h6c,h6m,h6n,R6.out⟩⟩
end
section
open Go.RowKit Go.Lib
theorem layG_all {i V:Nat}:∀ {W:List (Nat × List Nat)} {v:Nat},(∀ p ∈ W,p.1<=i/\i < p.1+p.2.length->p.2.getD (i - p.1) 0=V)->(∃ p ∈ W,p.1<=i/\i < p.1+p.2.length)->layG W i v=V
 | [],_,_,he=>by obtain ⟨p,hp,_⟩:=he; simp at hp
 | p :: r,v,h,he=>by
  show layG r i _=V
  by_cases hr:∃ q ∈ r,q.1<=i/\i < q.1+q.2.length
  ·exact layG_all (fun q hq=>h q (by simp [hq])) hr
  ·rw [layG_far (fun q hq=>by
    have:¬ (q.1<=i/\i < q.1+q.2.length):=fun hc=>hr ⟨q,hq,hc⟩
    omega)]
   obtain ⟨q,hq,hc⟩:=he
   rcases List.mem_cons.1 hq with rfl | hq
   ·rw [if_pos hc]; exact h q (by simp) hc
   ·exact absurd ⟨q,hq,hc⟩ hr
structure FrW (first sums size:Nat) (rows:List (List Int)) (p:Nat × List Nat) (k i:Nat) (d:List Int) (x:FrameV):Prop where
 hk:k < rows.length
 row:rows[k]? = some d
 hi:i < countN d.length
 fr:(framesZ d size)[i]? = some x
 eq:p=(first+(i*rows.length+k)*size,frameBytes x size)\/p=(sums+4*(i*rows.length+k),numB 4 (crcZ (frameBytes x size)).toNat)
theorem mem_chanW {first sums size ch k:Nat} {fs:List FrameV} {p:Nat × List Nat}:∀ n,p ∈ chanW first sums size ch k fs n->∃ i x,i < n/\fs[i]? = some x/\p ∈ frameW first sums size (i*ch+k) x
 | 0,h=>by simp [chanW] at h
 | n+1,h=>by
  unfold chanW at h
  rcases List.mem_append.1 h with h | h
  ·obtain ⟨i,x,h1,h2,h3⟩:=mem_chanW n h
   exact ⟨i,x,by omega,h2,h3⟩
  ·cases hx:fs[n]? with
   | none=>rw [hx] at h; simp at h
   | some x=>rw [hx] at h; exact ⟨n,x,by omega,hx,h⟩
theorem mem_layTo {first sums size:Nat} {rows:List (List Int)} {p:Nat × List Nat}:∀ K,K<=rows.length->p ∈ layTo first sums size rows K->∃ k i d x,FrW first sums size rows p k i d x
 | 0,_,h=>by simp [layTo] at h
 | K+1,hK,h=>by
  unfold layTo at h
  rcases List.mem_append.1 h with h | h
  ·exact mem_layTo K (by omega) h
  ·cases hd:rows[K]? with
   | none=>rw [hd] at h; simp at h
   | some d =>
    rw [hd] at h
    obtain ⟨i,x,h1,h2,h3⟩:=mem_chanW _ h
    simp only [frameW,List.mem_cons,List.not_mem_nil,or_false] at h3
    exact ⟨K,i,d,x,by omega,hd,h1,h2,h3⟩
theorem chanW_mem {first sums size ch k:Nat} {fs:List FrameV} {i:Nat} {x:FrameV} {p:Nat × List Nat} (hx:fs[i]? = some x) (hp:p ∈ frameW first sums size (i*ch+k) x):∀ n,i < n->p ∈ chanW first sums size ch k fs n
 | 0,h=>by omega
 | n+1,h=>by
  unfold chanW
  by_cases hi:i=n
  ·subst hi
   rw [hx]
   exact List.mem_append_right _ hp
  ·exact List.mem_append_left _ (chanW_mem hx hp n (by omega))
theorem layTo_mem {first sums size:Nat} {rows:List (List Int)} {p:Nat × List Nat} {k i:Nat} {d:List Int} {x:FrameV} (h:FrW first sums size rows p k i d x):∀ K,k < K->p ∈ layTo first sums size rows K
 | 0,hK=>by omega
 | K+1,hK=>by
  unfold layTo
  by_cases hk:k=K
  ·subst hk
   rw [h.row]
   refine List.mem_append_right _ (chanW_mem h.fr ?_ _ h.hi)
   simp only [frameW,List.mem_cons,List.not_mem_nil,or_false]
   exact h.eq
  ·exact List.mem_append_left _ (layTo_mem h K (by omega))
theorem no_two {R i k i' k':Nat} (hk:k < R) (hk':k' < R) (h:i*R+k=i'*R+k'):i=i'/\k=k':=by
 have h1:(i*R+k) / R=i:=by rw [Nat.mul_comm,Nat.mul_add_div (by omega),Nat.div_eq_of_lt hk]; omega
 have h2:(i'*R+k') / R=i':=by rw [Nat.mul_comm,Nat.mul_add_div (by omega),Nat.div_eq_of_lt hk']; omega
 have:i=i':=by rw [<-h1,<-h2,h]
 subst this
 exact ⟨rfl,by omega⟩
section
variable {size : Nat} {SS : List SampV}
theorem mem_packTo {PM:List MetaV} {p:Nat × List Nat}:∀ M,p ∈ packTo size SS PM M->∃ m s x,m < M/\SS[m]? = some s/\PM[m]? = some x/\p ∈ layTo x.first.toNat x.sums.toNat size s.rows s.rows.length
 | 0,h=>by simp [packTo] at h
 | M+1,h=>by
  unfold packTo at h
  rcases List.mem_append.1 h with h | h
  ·obtain ⟨m,s,x,h1,h2⟩:=mem_packTo M h
   exact ⟨m,s,x,by omega,h2⟩
  ·cases hs:SS[M]? with
   | none=>rw [hs] at h; simp at h
   | some s =>
    cases hx:PM[M]? with
    | none=>rw [hs,hx] at h; simp at h
    | some x=>rw [hs,hx] at h; exact ⟨M,s,x,by omega,hs,hx,h⟩
theorem packTo_mem {PM:List MetaV} {p:Nat × List Nat} {m:Nat} {s:SampV} {x:MetaV} (hs:SS[m]? = some s) (hx:PM[m]? = some x) (hp:p ∈ layTo x.first.toNat x.sums.toNat size s.rows s.rows.length):∀ M,m < M->p ∈ packTo size SS PM M
 | 0,h=>by omega
 | M+1,h=>by
  unfold packTo
  by_cases hm:m=M
  ·subst hm
   rw [hs,hx]
   exact List.mem_append_right _ hp
  ·exact List.mem_append_left _ (packTo_mem hs hx hp M (by omega))
structure SPlace (size:Nat) (SS:List SampV) (m:Nat) (s:SampV) (F S cnt R A B:Nat):Prop where
 fst:((packDir size SS)[m]?).map (·.first)=some (F:Int)
 sum:((packDir size SS)[m]?).map (·.sums)=some (S:Int)
 hcnt:countN (len0 s.rows)=cnt
 hR:s.rows.length=R
 ha:atTo size (SS.map metaOf) m=A
 hb:atTo size (SS.map metaOf) (m+1)=B
 lo:A=S
 mid:S+4*(cnt*R)<=F
 up:F+size*(cnt*R)=B
theorem CanP.place (h:CanP size SS) {m:Nat} {s:SampV} (hs:SS[m]? = some s):∃ F S cnt R A B,SPlace size SS m s F S cnt R A B:=by
 have hm:=(List.getElem?_eq_some_iff.1 hs).1
 have hx:(SS.map metaOf)[m]? = some (metaOf s):=by rw [List.getElem?_map,hs]; rfl
 have hb:=h.bd m (by omega)
 have hb2:=h.bd (m+1) (by omega)
 have hsu:=atTo_succ (size:=(size:Int)) hx
 have hfr:=framesN_nat s
 rw [hfr] at hsu
 have hge:=upZ16_ge (atTo size (SS.map metaOf) m+4*framesN (metaOf s))
 rw [hfr] at hge
 obtain ⟨A,hA⟩:=Int.eq_ofNat_of_zero_le hb.1
 obtain ⟨B,hB⟩:=Int.eq_ofNat_of_zero_le hb2.1
 have hu0:0<=upZ (atTo size (SS.map metaOf) m+4*((countN (len0 s.rows)*s.rows.length:Nat):Int)) 16:=by omega
 obtain ⟨F,hF⟩:=Int.eq_ofNat_of_zero_le hu0
 have e1:(size:Int)*((countN (len0 s.rows)*s.rows.length:Nat):Int)=((size*(countN (len0 s.rows)*s.rows.length):Nat):Int):=by push_cast; rfl
 rw [hF,e1,hB] at hsu
 rw [hF,hA] at hge
 refine ⟨F,A,_,_,A,B,?_,?_,rfl,rfl,hA,hB,rfl,?_,?_⟩
 ·rw [packDir_get hs]
  show some (upZ (atTo size (SS.map metaOf) m+4*framesN (metaOf s)) 16)=_
  rw [hfr,hF]
 ·rw [packDir_get hs]
  show some (atTo size (SS.map metaOf) m)=_
  rw [hA]
 ·generalize countN (len0 s.rows)*s.rows.length=T at *
  omega
 ·generalize size*(countN (len0 s.rows)*s.rows.length)=T at *
  omega
theorem FrW.lies {m:Nat} {s:SampV} {F S cnt R A B:Nat} (h:CanP size SS) (hs:SS[m]? = some s) (hp:SPlace size SS m s F S cnt R A B) {p:Nat × List Nat} {k i:Nat} {d:List Int} {x:FrameV} (hf:FrW F S size s.rows p k i d x) :
  ∃ q,q=i*R+k/\q+1<=cnt*R/\q*size+size<=size*(cnt*R)/\(frameBytes x size).length=size/\(p=(F+q*size,frameBytes x size)\/p=(S+4*q,numB 4 (crcZ (frameBytes x size)).toNat))/\S<=p.1/\p.1+p.2.length<=B:=by
 have hfine:=h.fine s (List.mem_of_getElem? hs)
 have hdm:=List.mem_of_getElem? hf.row
 have hRi:=framesZ_right (hfine.good.2 d hdm).2 (size:=(size:Int)) (by have:=h.lo; omega) (by have:=h.hi; omega) x (List.mem_of_getElem? hf.fr)
 have hlen:=frameBytes_len hRi.1 hRi.2
 have hi:i < cnt:=by have:=hf.hi; rw [hfine.same d hdm,hp.hcnt] at this; exact this
 have hk:k < R:=by have:=hf.hk; rw [hp.hR] at this; exact this
 have hq:i*R+k+1<=cnt*R:=by
  have:=Nat.mul_le_mul_right R (show i+1<=cnt by omega)
  rw [Nat.succ_mul] at this
  omega
 have hqs:(i*R+k)*size+size<=size*(cnt*R):=by
  have:=Nat.mul_le_mul_right size hq
  rw [Nat.succ_mul,Nat.mul_comm (cnt*R) size] at this
  exact this
 have he:=hf.eq
 rw [hp.hR] at he
 have h1:=hp.mid
 have h2:=hp.up
 refine ⟨i*R+k,rfl,hq,hqs,hlen,he,?_⟩
 generalize size*(cnt*R)=T at *
 generalize cnt*R=T2 at *
 rcases he with rfl | rfl
 ·rw [hlen]
  show S<=F+_/\F+_+size<=B
  generalize (i*R+k)*size=P at *
  omega
 ·rw [numB_len]
  show S<=S+4*_/\S+4*_+4<=B
  generalize i*R+k=q at *
  omega
theorem SPlace.nat {m:Nat} {s:SampV} {F S cnt R A B:Nat} (hp:SPlace size SS m s F S cnt R A B) {x:MetaV} (hx:(packDir size SS)[m]? = some x):x.first.toNat=F/\x.sums.toNat=S:=by
 have h1:=hp.fst
 have h2:=hp.sum
 rw [hx] at h1 h2
 have h1':x.first=F:=Option.some.inj h1
 have h2':x.sums=S:=Option.some.inj h2
 rw [h1',h2']
 exact ⟨rfl,rfl⟩
theorem CanP.apart (h:CanP size SS) {p p':Nat × List Nat} (hp:p ∈ packTo size SS (packDir size SS) SS.length) (hp':p' ∈ packTo size SS (packDir size SS) SS.length) {j:Nat}
  (c1:p.1<=j/\j < p.1+p.2.length) (c2:p'.1<=j/\j < p'.1+p'.2.length):p=p':=by
 obtain ⟨m,s,x,hm,hs,hx,hl⟩:=mem_packTo _ hp
 obtain ⟨m',s',x',hm',hs',hx',hl'⟩:=mem_packTo _ hp'
 obtain ⟨F,S,cnt,R,A,B,hpl⟩:=h.place hs
 obtain ⟨F',S',cnt',R',A',B',hpl'⟩:=h.place hs'
 rw [(hpl.nat hx).1,(hpl.nat hx).2] at hl
 rw [(hpl'.nat hx').1,(hpl'.nat hx').2] at hl'
 obtain ⟨k,i,d,y,hf⟩:=mem_layTo _ (Nat.le_refl _) hl
 obtain ⟨k',i',d',y',hf'⟩:=mem_layTo _ (Nat.le_refl _) hl'
 obtain ⟨q,hq,q1,q2,hlen,he,l1,l2⟩:=hf.lies h hs hpl
 obtain ⟨q',hq',q1',q2',hlen',he',l1',l2'⟩:=hf'.lies h hs' hpl'
 have hmono:=fun (a b:Nat) (hab:a<=b)=>atTo_mono (size:=(size:Int)) (by have:=h.lo; omega) h.few hab
 rcases Nat.lt_trichotomy m m' with hlt | heq | hgt
 ·have:=hmono (m+1) m' hlt
  rw [hpl.hb,hpl'.ha,hpl'.lo] at this
  omega
 ·subst heq
  rw [hs] at hs'
  injection hs' with hs'
  subst hs'
  rw [hx] at hx'
  injection hx' with hx'
  subst hx'
  have e1:=(hpl.nat hx).1.symm.trans (hpl'.nat hx).1
  have e2:=(hpl.nat hx).2.symm.trans (hpl'.nat hx).2
  have e3:=hpl.hR.symm.trans hpl'.hR
  have e4:=hpl.hcnt.symm.trans hpl'.hcnt
  subst e1 e2 e3 e4
  have hmid:=hpl.mid
  have hkR:k < R:=by have:=hf.hk; rw [hpl.hR] at this; exact this
  have hkR':k' < R:=by have:=hf'.hk; rw [hpl.hR] at this; exact this
  have same:q=q'->p=p'\/(p=(F+q*size,frameBytes y size)/\p'=(S+4*q,numB 4 (crcZ (frameBytes y size)).toNat))\/(p'=(F+q*size,frameBytes y size)/\p=(S+4*q,numB 4 (crcZ (frameBytes y size)).toNat)):=fun e=>by
   rw [hq,hq'] at e
   obtain ⟨ei,ek⟩:=no_two hkR hkR' e
   subst ei ek
   have er:=hf.row.symm.trans hf'.row
   injection er with er
   subst er
   have ef:=hf.fr.symm.trans hf'.fr
   injection ef with ef
   subst ef
   rw [<-hq] at hq'
   subst hq'
   rcases he with rfl | rfl <;> rcases he' with rfl | rfl
   ·exact .inl rfl
   ·exact .inr (.inl ⟨rfl,rfl⟩)
   ·exact .inr (.inr ⟨rfl,rfl⟩)
   ·exact .inl rfl
  have cross:∀ (a b:Nat),a+1<=cnt*R->F+b*size<=j->¬ (S+4*a<=j/\j < S+4*a+4):=fun a b h1 h2 h3=>by
   generalize cnt*R=T at *
   generalize b*size=P at *
   omega
  have key:∀ a b:Nat,a*size<=j - F->j - F < a*size+size->b*size<=j - F->j - F < b*size+size->a=b:=fun a b h1 h2 h3 h4=>by
   have ha:(j - F) / size=a:=by
    rw [Nat.div_eq_iff (by have:=h.lo; omega)]
    constructor <;> omega
   have hb:(j - F) / size=b:=by
    rw [Nat.div_eq_iff (by have:=h.lo; omega)]
    constructor <;> omega
   omega
  rcases he with hpe | hpe <;> rcases he' with hpe' | hpe'
  ·have c1':=c1
   have c2':=c2
   rw [hpe,hlen] at c1'
   rw [hpe',hlen'] at c2'
   simp only at c1' c2'
   have e:=key q q' (by omega) (by omega) (by omega) (by omega)
   rcases same e with h1 | ⟨_,h1⟩ | ⟨_,h1⟩
   ·exact h1
   ·rw [h1] at c2; rw [numB_len] at c2; exact absurd c2 (cross q q q1 (by omega))
   ·rw [h1] at c1; rw [numB_len] at c1; exact absurd c1 (cross q q q1 (by omega))
  ·rw [hpe,hlen] at c1
   rw [hpe',numB_len] at c2
   exact absurd c2 (cross q' q q1' c1.1)
  ·rw [hpe,numB_len] at c1
   rw [hpe',hlen'] at c2
   exact absurd c1 (cross q q' q1 c2.1)
  ·have c1':=c1
   have c2':=c2
   rw [hpe,numB_len] at c1'
   rw [hpe',numB_len] at c2'
   simp only at c1' c2'
   have e:q=q':=by omega
   rcases same e with h1 | ⟨h1,_⟩ | ⟨h1,_⟩
   ·exact h1
   ·rw [h1,hlen] at c1; exact absurd c1' (cross q q q1 c1.1)
   ·rw [h1] at c2; rw [e] at c2; exact absurd c2' (cross q' q' q1' c2.1)
 ·have:=hmono (m'+1) m hgt
  rw [hpl'.hb,hpl.ha,hpl.lo] at this
  omega
theorem CanP.frame_gd (h:CanP size SS) {p:Nat × List Nat} (hp:p ∈ packTo size SS (packDir size SS) SS.length) {j:Nat} (hj:j < p.2.length):(packZ size SS).getD (p.1+j) 0=p.2.getD j 0:=by
 have hfit:FitsW (packLen size SS) (packTo size SS (packDir size SS) SS.length):=packTo_fits h.lo h.hi h.fine h.len_eq SS.length
 obtain ⟨m,s,x,hm,hs,hx,hl⟩:=mem_packTo _ hp
 obtain ⟨F,S,cnt,R,A,B,hpl⟩:=h.place hs
 rw [(hpl.nat hx).1,(hpl.nat hx).2] at hl
 obtain ⟨k,i,d,y,hf⟩:=mem_layTo _ (Nat.le_refl _) hl
 obtain ⟨q,hq,q1,q2,hlen,he,l1,l2⟩:=hf.lies h hs hpl
 have hbase:=h.base m
 rw [hpl.ha,hpl.lo] at hbase
 rw [packZ_eq,h.head.far (by omega),lays_gd (by rw [List.length_replicate]; exact hfit)]
 refine layG_all (fun p' hp' hc=>?_) ⟨p,hp,by omega,by omega⟩
 have:=h.apart hp hp' (j:=p.1+j) (by omega) hc
 subst this
 congr 1
 omega
theorem CanP.frame_at (h:CanP size SS) {m:Nat} {s:SampV} {F S cnt R A B:Nat} (hs:SS[m]? = some s) (hpl:SPlace size SS m s F S cnt R A B) {k i:Nat} {d:List Int} {x:FrameV} (hk:k < R) (hd:s.rows[k]? = some d) (hi:i < cnt) (hx:(framesZ d size)[i]? = some x) :
  subB (packZ size SS) (F+(i*R+k)*size) size=frameBytes x size/\(readTo (packZ size SS) (S+4*(i*R+k)) 4:Int)=crcZ (frameBytes x size):=by
 have hm:=(List.getElem?_eq_some_iff.1 hs).1
 have hfine:=h.fine s (List.mem_of_getElem? hs)
 have hlen':d.length=len0 s.rows:=hfine.same d (List.mem_of_getElem? hd)
 have hx0:=packDir_get (size:=size) hs
 obtain ⟨xm,hxm⟩:∃ xm,(packDir size SS)[m]? = some xm:=⟨_,hx0⟩
 have hn:=hpl.nat hxm
 have f1:FrW F S size s.rows (F+(i*s.rows.length+k)*size,frameBytes x size) k i d x:=⟨by rw [hpl.hR]; exact hk,hd,by rw [hlen',hpl.hcnt]; exact hi,hx,.inl rfl⟩
 have f2:FrW F S size s.rows (S+4*(i*s.rows.length+k),numB 4 (crcZ (frameBytes x size)).toNat) k i d x:=⟨by rw [hpl.hR]; exact hk,hd,by rw [hlen',hpl.hcnt]; exact hi,hx,.inr rfl⟩
 have m1:=packTo_mem hs hxm (by rw [hn.1,hn.2]; exact layTo_mem f1 _ (by rw [hpl.hR]; exact hk)) SS.length hm
 have m2:=packTo_mem hs hxm (by rw [hn.1,hn.2]; exact layTo_mem f2 _ (by rw [hpl.hR]; exact hk)) SS.length hm
 obtain ⟨q,hq,q1,q2,hlen,he,l1,l2⟩:=f1.lies h hs hpl
 rw [hpl.hR] at m1 m2
 constructor
 ·refine List.ext_getElem? fun j=>?_
  by_cases hj:j < size
  ·rw [subB_get hj,h.frame_gd m1 (by rw [hlen]; exact hj),List.getD_eq_getElem?_getD,List.getElem?_eq_getElem (by rw [hlen]; exact hj)]
   rfl
  ·rw [List.getElem?_eq_none (by rw [subB_len]; omega),List.getElem?_eq_none (by omega)]
 ·have hb:=crcZ_bd (frameBytes x size)
  have:=readTo_num4 (X:=packZ size SS) (a:=S+4*(i*R+k)) (v:=(crcZ (frameBytes x size)).toNat) (fun j hj=>h.frame_gd m2 (by rw [numB_len]; exact hj)) (by omega)
  rw [this]
  omega
end
end
section
open Go.RowKit Go.Lib
section
variable {size : Nat} {SS : List SampV}
theorem CanP.fit (h:CanP size SS):FitB (packZ size SS) size (packDir size SS):=by
 have hl:=h.len_bd
 have:=fit_parsed (packZ_parse h) (by rw [packZ_len h]; omega) (packZ_byt h)
 rw [packZ_size h,packZ_cnt h,packZ_dir h] at this
 exact this
theorem CanP.asked (h:CanP size SS) {i c b:Int} (hE:whereE (packDir size SS) i c b=0) :
  ∃ m s d x,i=(m:Nat)/\SS[m]? = some s/\s.rows[c.toNat]? = some d/\(framesZ d size)[b.toNat]? = some x/\subB (packZ size SS) (whereAt (packDir size SS) size i c b).toNat size=frameBytes x size/\(whereSum (packDir size SS) (packZ size SS) i c b:Int)=crcZ (frameBytes x size):=by
 have hE0:metaE (packDir size SS) i=0:=by
  unfold whereE at hE
  split at hE
  ·cases hE
  ·rename_i h1; simpa using h1
 have hi:¬ (i < 0\/((packDir size SS).length:Int)<=i):=by
  intro hc
  unfold metaE at hE0
  rw [if_pos hc] at hE0
  cases hE0
 obtain ⟨m,rfl⟩:=Int.eq_ofNat_of_zero_le (show 0<=i by omega)
 rw [packDir_len] at hi
 have hm:m < SS.length:=by omega
 obtain ⟨s,hs⟩:∃ s,SS[m]? = some s:=⟨_,List.getElem?_eq_getElem hm⟩
 obtain ⟨F,S,cnt,R,A,B,hpl⟩:=h.place hs
 have hx0:=packDir_get (size:=size) hs
 have hmi:metaI (packDir size SS) (m:Int)=plc size (SS.map metaOf) m (metaOf s):=by
  unfold metaI
  rw [packDir_len,if_neg hi,Int.toNat_natCast,List.getD_eq_getElem?_getD,hx0]
  rfl
 obtain ⟨x,hxD,hxe,ch,cn,bn,S',F',q,P,e1,rfl,rfl,e2,e3,hm1,hq,hP,hm2,l1,l2,⟨c0,c1⟩,b0,b1,hbc⟩:=where_lies h.fit hE
 rw [hmi] at hxe
 have hfst:x.first=F:=by
  have:=hpl.fst
  rw [hx0,hxe] at this
  exact Option.some.inj this
 have hsum:x.sums=S:=by
  have:=hpl.sum
  rw [hx0,hxe] at this
  exact Option.some.inj this
 have hch:x.channels=R:=by
  rw [<-hxe,<-hpl.hR]
  rfl
 have hlen:countZ x.length=cnt:=by
  rw [<-hxe,<-hpl.hcnt,<-countZ_N]
  rfl
 have hF:F'=F:=by omega
 have hS:S'=S:=by omega
 have hR:ch=R:=by omega
 subst hF hS hR
 have hfine:=h.fine s (List.mem_of_getElem? hs)
 have hcn:cn < ch:=by omega
 obtain ⟨d,hd⟩:∃ d,s.rows[cn]? = some d:=⟨_,List.getElem?_eq_getElem (by rw [hpl.hR]; exact hcn)⟩
 have hbn:bn < cnt:=by omega
 have hdl:d.length=len0 s.rows:=hfine.same d (List.mem_of_getElem? hd)
 obtain ⟨y,hy⟩:∃ y,(framesZ d size)[bn]? = some y:=⟨_,List.getElem?_eq_getElem (by rw [framesZ_len,hdl,hpl.hcnt]; exact hbn)⟩
 obtain ⟨r1,r2⟩:=h.frame_at hs hpl hcn hd hbn hy
 have hA:whereAt (packDir size SS) size m cn bn=((F'+P:Nat):Int):=by
  unfold whereAt frameNo
  rw [if_pos hE,hmi,hxe,e1,e3,hm1,<-Int.natCast_add,hq,hm2]
  push_cast; rfl
 have hSu:whereSum (packDir size SS) (packZ size SS) m cn bn=readTo (packZ size SS) (S'+4*q) 4:=by
  unfold whereSum frameNo
  rw [if_pos hE,hmi,hxe,e1,e2,hm1,<-Int.natCast_add,hq]
  congr 1
 refine ⟨m,s,d,y,rfl,hs,hd,hy,?_,?_⟩
 ·rw [hA,Int.toNat_natCast,<-hP,<-hq]
  exact r1
 ·rw [hSu,<-hq]
  exact r2
end
end
section
open Go.RowKit Go.Lib
theorem take_row {w:World} {W:Nat} {A:Option Addr} {xs:List Value} (h:Row w W A xs) (n:Nat):Row w W A (xs.take n):=fun i v hv=>by
 rw [List.getElem?_take] at hv
 split at hv
 ·exact h i v hv
 ·cases hv
def packE (size:Int) (ss:List SampV):Int:=if size < 24\/96 < size then 12 else checkAllZ ss
def PackP (w:World) (size:Int) (ss:List SampV) (e:Ending) (w':World):Prop :=
 Below w.heap.size w w'/\((packE size ss ≠ 0/\e=.returned (.tuple #[.slice none 0 0,.int .i64 (packE size ss)])) \/
  (packE size ss=0/\∃ (sz g:Nat),size=sz/\CanP sz (sortS ss)/\w.heap.size<=g/\BytesAt w' g (packZ sz (sortS ss))/\e=.returned (.tuple #[.slice (some ⟨g,0,none⟩) (packLen sz (sortS ss)) (packLen sz (sortS ss)),.int .i64 0])))
theorem Pack_any (size:Int) (L:List (HSamp × SampV)) (A:Option Addr) (cap:Nat) (w:World) (hl:L.length<=8) (hn:A=none->cap=0) (hs:SampsAt w w.heap.size A L) (hsm:∀ p ∈ L,p.2.small) :
  Calls Tryz.prog 73 #[.int .i64 size,.slice A L.length cap] w (PackP w size (L.map (·.2))):=by
 by_cases hsz:size < 24\/96 < size
 ·have hE:packE size (L.map (·.2))=12:=if_pos hsz
  refine (Pack_size size A L.length cap w hsz).mono ?_
  rintro e w' ⟨he,hb⟩
  exact ⟨hb,.inl ⟨by rw [hE]; decide,by rw [hE]; exact he⟩⟩
 ·have hE0:packE size (L.map (·.2))=checkAllZ (L.map (·.2)):=if_neg hsz
  by_cases hE:checkAllZ (L.map (·.2))=0
  ·obtain ⟨sz,rfl⟩:=Int.eq_ofNat_of_zero_le (show 0<=size by omega)
   refine (Pack_ok sz L A cap w (by omega) (by omega) hl hn hs hsm hE).mono ?_
   rintro e w' ⟨g,he,hg,hb,hbel⟩
   refine ⟨hbel,.inr ⟨by rw [hE0]; exact hE,sz,g,rfl,canP_of (by omega) (by omega) (by rw [List.length_map]; exact hl) (fun s hs=>?_) hE,hg,hb,he⟩⟩
   obtain ⟨p,hp,rfl⟩:=List.mem_map.1 hs
   exact hsm p hp
  ·refine (Pack_bad size _ L A cap w (by omega) (by omega) hl hs rfl hE).mono ?_
   rintro e w' ⟨he,hb⟩
   exact ⟨hb,.inl ⟨by rw [hE0]; exact hE,by rw [hE0]; exact he⟩⟩
end
end Go.Proofs.YtnbbfblaipjcmaaGreatDoor
