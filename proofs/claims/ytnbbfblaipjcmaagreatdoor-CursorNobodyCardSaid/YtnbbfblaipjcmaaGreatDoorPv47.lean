/- ParF. Conditions: as each theorem states. -/
import Derived.Laws.Cover1
import Derived.Test.YtnbbfblaipjcmaaGreatDoorPv46
namespace Go.Proofs.YtnbbfblaipjcmaaGreatDoor
open Go.RowKit Go.Lib
theorem sQ (bs:List Nat) (o i:Nat):(bs.drop o).getD i 0=bs.getD (o+i) 0:=by
 rw [List.getD_eq_getElem?_getD,List.getD_eq_getElem?_getD,List.getElem?_drop]
theorem PZ (bs:List Nat) (o:Nat):uX (bs.drop o) 0=uX bs o:=by
 unfold uX
 rw [FI (X:=bs.drop o) (Y:=bs) (a:=0) (b:=o) (n:=32) (fun j _=>by rw [sQ,Nat.zero_add])]
theorem j6 (bs:List Nat) (o k m:Nat):bM (bs.drop o) (0+k) m=bM bs (o+k) m :=
 wQ m (fun j _=>by rw [sQ]; congr 1; omega)
theorem AB (bs:List Nat) (o:Nat):fH (bs.drop o) 0=fH bs o:=by
 unfold fH
 rw [PZ,j6,j6,j6,j6,j6,j6,sQ,sQ,Nat.zero_add,Nat.zero_add]
theorem TY (bs:List Nat) (o:Nat):qY (bs.drop o) 0=qY bs o:=by
 unfold qY qQ
 rw [AB,sQ,Nat.zero_add,FI (X:=bs.drop o) (Y:=bs) (a:=0+58) (b:=o+58) (n:=6) (fun j _=>by rw [sQ]; congr 1; omega)]
theorem Row.drop_ {w:World} {B b off:Nat} {vs:List Value} (h:Row w B (some ⟨b,off,none⟩) vs) (k:Nat):Row w B (some ⟨b,off+k,none⟩) (vs.drop k):=fun i v hv=>by
 rw [List.getElem?_drop] at hv
 obtain ⟨b',o',ha,hb,hc⟩:=h (k+i) v hv
 injection ha with ha
 injection ha with e1 e2
 subst e1 e2
 exact ⟨b,off+k,rfl,hb,by rw [Nat.add_assoc]; exact hc⟩
theorem aCl (l:List Nat) (k:Nat):(u8s l).drop k=u8s (l.drop k):=by simp [u8s,List.map_drop]
theorem aCm (l:List Nat) (k:Nat):(u8s l).take k=u8s (l.take k):=by simp [u8s,List.map_take]
theorem KO (a b:ByteArray):Op.bytesLess a.toList b.toList=bV a b:=by
 have key:∀ (x y:List UInt8),Op.bytesLess x y=decide (compareBytes x y < 0):=by
  intro x
  induction x with
  | nil=>intro y; cases y <;> simp [Op.bytesLess,compareBytes]
  | cons u r ih =>
   intro y
   cases y with
   | nil=>simp [Op.bytesLess,compareBytes]
   | cons v s =>
    unfold Op.bytesLess compareBytes
    rw [ih s]
    by_cases h1:u < v
    ·simp [h1]
    ·by_cases h2:v < u
     ·have h3:u ≠ v:=fun e=>by subst e; exact h1 h2
      simp [h1,h2,h3]
     ·have h3:u=v:=RS (Nat.le_antisymm (sE h2) (sE h1))
      simp [h3]
 unfold bV
 rw [ByteArray.toList_eq,ByteArray.toList_eq]
 exact key _ _
theorem N8 {bs:List Nat} {k:Nat} (h:kG bs k=false):∀ c,k<=c->kG bs c=false
 | 0,hc=>by rw [show k=0 by omega] at h; exact h
 | c+1,hc=>by
  by_cases hk:k=c+1
  ·subst hk; exact h
  ·unfold kG
   rw [N8 h c (by omega)]
   rfl
theorem rR {bs:List Nat}:∀ c,kG bs c=true->∀ x ∈ eC bs c,x.right=true
 | 0,_,x,hx=>by simp [eC] at hx
 | c+1,h,x,hx=>by
  unfold kG at h
  simp only [Bool.and_eq_true] at h
  obtain ⟨⟨h1,h2⟩,_⟩:=h
  unfold eC at hx
  rw [List.range_succ,List.map_append] at hx
  rcases List.mem_append.1 hx with h3 | h3
  ·exact rR c h1 x h3
  ·simp only [List.map_cons,List.map_nil,List.mem_singleton] at h3
   subst h3
   unfold qY at h2
   simp only [Bool.and_eq_true] at h2
   exact h2.2.2
theorem YQ (bs:List Nat) (m:Nat):eC bs (m+1)=eC bs m ++ [fH bs (16+m*64)]:=by
 unfold eC
 rw [List.range_succ,List.map_append]
 rfl
theorem lY (bs:List Nat) (m:Nat):(eC bs m).length=m:=by simp [eC]
theorem aBf (bs:List Nat) {m k:Nat} (h:k < m):(eC bs m)[k]? = some (fH bs (16+k*64)):=by
 unfold eC
 rw [List.getElem?_map,List.getElem?_range h]
 rfl
theorem ZG {w:World} {g:Nat} {o:Obj} (h:w.heap[g]? = some o):g < w.heap.size:=by
 rcases Nat.lt_or_ge g w.heap.size with h1 | h1
 ·exact h1
 ·rw [Array.getElem?_eq_none h1] at h; cases h
set_option maxRecDepth 100000 in
set_option maxHeartbeats 16000000 in
theorem XZ (bs:List Nat) (A:Option Addr) (n cap:Nat) (w:World) (hn:bs.length=n) (hnc:n<=cap) (hcm:cap<=9223372036854775807) (hl:n<=4000000) (hA:A=none->cap=0) (hr:Row w w.heap.size A (u8s bs)) (hb:∀ x ∈ bs,x < 256) :
  Calls Tryz.prog 75 #[.slice A n cap] w (IH w bs):=by
 have HD0:=hid (fun W=>(show Calls Tryz.prog 131 #[.int .i64 0] W (fun e w'=>e=.returned (.int .i64 20)/\W=w') from lU 0 W (by omega) (by omega)))
 have HDn:=hid (fun (k:Nat) W (hk:k<=65536)=>(show Calls Tryz.prog 131 #[.int .i64 k] W (fun e w'=>e=.returned (.int .i64 (16+(k:Int)*64+4))/\W=w') from lU k W (by omega) (by omega)))
 have HRd:=hid (fun W (a s:Nat) (hW:Below w.heap.size w W) (ha:a+s<=n) (hs:s<=4)=>(show Calls Tryz.prog 93 #[.slice A n cap,.int .i64 a,.int .i64 s] W (fun e w'=>e=.returned (.int .i64 (bM bs a s:Nat))/\W=w') from E0 bs A n cap a s W hn (hr.later hW) hb ha (by omega) hs))
 unfold IH
 by_cases h20:n < 20
 ·have hE:eK bs=2:=by unfold eK; rw [if_pos (by omega)]
  have t1:(n:Int) < 20:=by omega
  rw [hE]
  go_enter Tryz.func75,Tryz.ntmps75
  go_wp2_with (go_at_call 131; refine (HD0.out _).mono ?_; rintro e w2 ⟨rfl,rfl⟩)
  refine bodyPost_ret (results_tmp2 Tryz.results75 _ _ _) rfl ?_
  exact .inl ⟨by omega,rfl,Below.refl _ _⟩
 ·obtain ⟨y0,hy0⟩:=aE (k:=0) hn (by omega)
  obtain ⟨g,off,rfl,hgl,_⟩:=hr 0 _ (d9 hy0)
  clear hA hy0
  have t1:¬ (n:Int) < 20:=by omega
  have HXb:=hid (fun W (j:Nat) (hW:Below w.heap.size w W) (hj:j < n)=>(show W.cell? ⟨g,off+j,none⟩=some (.int .u8 (bs.getD j 0:Nat)) from by
   have h1:(u8s bs)[j]? = some (.int .u8 (bs.getD j 0:Nat)):=by
    rw [d9 (show bs[j]? = some (bs.getD j 0) by rw [List.getD_eq_getElem?_getD,List.getElem?_eq_getElem (by omega)]; rfl)]
   obtain ⟨b',o',ha,_,hc⟩:=(hr.later hW) j _ h1
   injection ha with ha
   injection ha with e1 e2
   subst e1 e2
   exact hc))
  have HYb:=hid (fun (j:Nat) (hj:j < n)=>(show bs.getD j 0 < 256 from by
   rw [List.getD_eq_getElem?_getD,List.getElem?_eq_getElem (by omega)]
   exact hb _ (List.getElem_mem _)))
  have Hcv:=hid (fun W (hW:Below w.heap.size w W)=>run_convert_bytes_arg (P:=Tryz.prog) W 30 5 Tryz.underlying30 Tryz.underlying5 g off 4 cap ((cA bs 0 4).map fun (x:Nat)=>(x:Int)) (by rw [List.length_map,eO]) (fun i hi=>by
   have e:((cA bs 0 4).map fun (x:Nat)=>(x:Int)).getD i 0=((bs.getD i 0:Nat):Int):=by
    rw [List.getD_eq_getElem?_getD,List.getElem?_map,gR hi,Nat.zero_add]
    rfl
   rw [e]
   exact HXb.out W i hW (by omega)))
  rw [XJ] at Hcv
  obtain ⟨s4,hs4⟩:∃ s4:ByteArray,(⟨(oF (cA bs 0 4)).toArray⟩:ByteArray)=s4:=⟨_,rfl⟩
  rw [hs4] at Hcv
  have Hs4:=hid hs4
  obtain ⟨c,hc⟩:∃ c,gX bs=c:=⟨_,rfl⟩
  obtain ⟨sz,hsz⟩:∃ sz,kQ bs=sz:=⟨_,rfl⟩
  have hcb:c < 65536:=by rw [<-hc]; exact sZ hb 8 2
  have hszb:sz < 256:=by rw [<-hsz]; exact HYb.out 10 (by omega)
  have Hn:=hid hn
  have Hr:=hid hr
  have Hb:=hid hb
  have Hc:=hid hc
  have Hsz:=hid hsz
  clear hn hr hb hs4
  have HR2:=hid (fun (z:GW w)=>(show Calls Tryz.prog 93 #[.slice (some ⟨g,off,none⟩) n cap,.int .i64 8,.int .i64 2] z.1 (fun e w'=>e=.returned (.int .i64 (c:Nat))/\z.1=w') from by
   have:=HRd.out z.1 8 2 z.2 (by omega) (by omega)
   rw [show bM bs 8 2=c from hc] at this
   exact this))
  have x10:=fun (z:GW w)=>(show z.1.cell? ⟨g,off+10,none⟩=some (.int .u8 (sz:Nat)) from by
   have:=HXb.out z.1 10 z.2 (by omega)
   rw [show bs.getD 10 0=sz from hsz] at this
   exact this)
  have hwsz:IntKind.i64.wrap (sz:Int)=(sz:Int):=IntWalk.i64_in _ (by omega)
  have t10:(10:Int) < (n:Int):=by omega
  clear hc hsz
  go_enter Tryz.func75,Tryz.ntmps75
  go_wp2_with (go_at_call 131; refine (HD0.out _).mono ?_; rintro e w2 ⟨rfl,rfl⟩)
  refine aR (by kernel_rfl) (by kernel_rfl) ?_
  repeat (go_big_quiet_step ((go_at_call 93; exact cR (HR2.out _))))
  refine wpQuiet_nil ?_
  intro w1 hw'
  have B1:=hid (aK hw')
  clear hw' x10
  have hcv:=Hcv.out w1 B1.out
  have HP4:=hid (fun (h:jO bs=true)=>(show eK bs=4 from by unfold eK; rw [if_neg (by rw [Hn.out]; omega),if_pos h]))
  have HP12:=hid (fun (h0:jO bs=false) (h:jR bs=true)=>(show eK bs=12 from by unfold eK; rw [if_neg (by rw [Hn.out]; omega),if_neg (by rw [h0]; decide),if_pos h]))
  have HP2:=hid (fun (h0:jO bs=false) (h1:jR bs=false) (h:n < 20+c*64)=>(show eK bs=2 from by unfold eK; rw [if_neg (by rw [Hn.out]; omega),if_neg (by rw [h0]; decide),if_neg (by rw [h1]; decide),if_pos (by rw [Hn.out,Hc.out]; exact h)]))
  have HP9:=hid (fun (h0:jO bs=false) (h1:jR bs=false) (h2:¬ n < 20+c*64) (h:qP bs=true)=>(show eK bs=9 from by unfold eK; rw [if_neg (by rw [Hn.out]; omega),if_neg (by rw [h0]; decide),if_neg (by rw [h1]; decide),if_neg (by rw [Hn.out,Hc.out]; exact h2),if_pos h]))
  have HP4':=hid (fun (h0:jO bs=false) (h1:jR bs=false) (h2:¬ n < 20+c*64) (h3:qP bs=false) (h:kG bs c=false)=>(show eK bs=4 from by unfold eK; rw [if_neg (by rw [Hn.out]; omega),if_neg (by rw [h0]; decide),if_neg (by rw [h1]; decide),if_neg (by rw [Hn.out,Hc.out]; exact h2),if_neg (by rw [h3]; decide),if_pos (by rw [Hc.out]; exact h)]))
  have HPp:=hid (fun (h0:jO bs=false) (h1:jR bs=false) (h2:¬ n < 20+c*64) (h3:qP bs=false) (h:kG bs c=true)=>(show eK bs=if pF bs=true then 12 else 0 from by unfold eK; rw [if_neg (by rw [Hn.out]; omega),if_neg (by rw [h0]; decide),if_neg (by rw [h1]; decide),if_neg (by rw [Hn.out,Hc.out]; exact h2),if_neg (by rw [h3]; decide),if_neg (by rw [Hc.out,h]; decide)]))
  have HSg:=hid (show s4.toList=[67,65,76,49] ↔ cA bs 0 4=[67,65,76,49] from by
   rw [ByteArray.toList_eq,<-Hs4.out]
   have hq:∀ x ∈ cA bs 0 4,x < 256:=fun x hx=>by
    unfold cA at hx
    obtain ⟨j,hj,rfl⟩:=List.mem_map.1 hx
    exact HYb.out _ (by have:=List.mem_range.1 hj; omega)
   show oF (cA bs 0 4)=_ ↔ _
   constructor
   ·intro h
    have h2:=congrArg (List.map UInt8.toNat) h
    unfold oF at h2
    rw [List.map_map] at h2
    have h3:(cA bs 0 4).map (UInt8.toNat ∘ UInt8.ofNat)=cA bs 0 4:=(List.map_congr_left fun x hx=>by have:=hq x hx; simp; omega).trans (List.map_id _)
    rw [h3] at h2
    exact h2
   ·intro h
    rw [h]
    rfl)
  obtain ⟨r11,hr11⟩:∃ r,bM bs 11 4=r:=⟨_,rfl⟩
  obtain ⟨y15,hy15⟩:∃ r,bs.getD 15 0=r:=⟨_,rfl⟩
  have HHB:=hid (show jO bs=(decide (cA bs 0 4 ≠ [67,65,76,49]) || (decide (r11 ≠ 0) || decide (y15 ≠ 0))) by unfold jO; rw [hr11,hy15])
  have HR11:=hid (show Calls Tryz.prog 93 #[.slice (some ⟨g,off,none⟩) n cap,.int .i64 11,.int .i64 4] w1 (fun e w'=>e=.returned (.int .i64 (r11:Nat))/\w1=w') from by
   have:=HRd.out w1 11 4 B1.out (by omega) (by omega)
   rw [hr11] at this
   exact this)
  have c15:=HXb.out w1 15 B1.out (by omega)
  rw [hy15] at c15
  clear hr11 hy15
  by_cases q1:s4.toList=[67,65,76,49]
  rotate_left
  ·have hE:=HP4.out (by rw [HHB.out,decide_eq_true (show cA bs 0 4 ≠ [67,65,76,49] from fun h=>q1 (HSg.out.2 h))]; rfl)
   go_wp2
   refine bodyPost_ret (results_tmp2 Tryz.results75 _ _ _) rfl ?_
   exact .inl ⟨by rw [hE]; decide,by rw [hE]; rfl,B1.out⟩
  have HQ1:=hid (show decide (cA bs 0 4 ≠ [67,65,76,49])=false from decide_eq_false (fun h=>h (HSg.out.1 q1)))
  go_wp2_with (go_at_call 93; fail)
  refine HR11.out.mono ?_
  rintro e w2 ⟨rfl,rfl⟩
  clear HR11 hcv q1
  by_cases q2:r11=0
  rotate_left
  ·have t2:((r11:Int) != 0)=true:=by rw [bne_iff_ne]; omega
   have hE:=HP4.out (by rw [HHB.out,HQ1.out,decide_eq_true q2]; rfl)
   go_wp2
   refine bodyPost_ret (results_tmp2 Tryz.results75 _ _ _) rfl ?_
   exact .inl ⟨by rw [hE]; decide,by rw [hE]; rfl,B1.out⟩
  subst q2
  by_cases q3:y15=0
  rotate_left
  ·have t2:((y15:Int) != 0)=true:=by rw [bne_iff_ne]; omega
   have t15:(15:Int) < (n:Int):=by omega
   have hE:=HP4.out (by rw [HHB.out,HQ1.out,decide_eq_true q3]; rfl)
   go_wp2
   refine bodyPost_ret (results_tmp2 Tryz.results75 _ _ _) rfl ?_
   exact .inl ⟨by rw [hE]; decide,by rw [hE]; rfl,B1.out⟩
  subst q3
  have h0:jO bs=false:=by rw [HHB.out,HQ1.out]; rfl
  have H0:=hid h0
  clear h0
  obtain ⟨r4,hr4⟩:∃ r,bM bs 4 4=r:=⟨_,rfl⟩
  have HSB:=hid (show jR bs=(decide (sz < 24) || (decide (96 < sz) || (decide (64 < c) || decide (r4 ≠ n)))) by unfold jR; rw [Hsz.out,Hc.out,hr4,Hn.out])
  have HR4:=hid (show Calls Tryz.prog 93 #[.slice (some ⟨g,off,none⟩) n cap,.int .i64 4,.int .i64 4] w1 (fun e w'=>e=.returned (.int .i64 (r4:Nat))/\w1=w') from by
   have:=HRd.out w1 4 4 B1.out (by omega) (by omega)
   rw [hr4] at this
   exact this)
  clear hr4
  have t15:(15:Int) < (n:Int):=by omega
  by_cases q4:sz < 24
  ·have t2:(sz:Int) < 24:=by omega
   have hE:=HP12.out H0.out (by rw [HSB.out,decide_eq_true q4]; rfl)
   go_wp2
   refine bodyPost_ret (results_tmp2 Tryz.results75 _ _ _) rfl ?_
   exact .inl ⟨by rw [hE]; decide,by rw [hE]; rfl,B1.out⟩
  have t2:¬ (sz:Int) < 24:=by omega
  by_cases q5:96 < sz
  ·have t3:(96:Int) < (sz:Int):=by omega
   have hE:=HP12.out H0.out (by rw [HSB.out,decide_eq_true q5]; simp)
   go_wp2
   refine bodyPost_ret (results_tmp2 Tryz.results75 _ _ _) rfl ?_
   exact .inl ⟨by rw [hE]; decide,by rw [hE]; rfl,B1.out⟩
  have t3:¬ (96:Int) < (sz:Int):=by omega
  by_cases q6:64 < c
  ·have t4:(64:Int) < (c:Int):=by omega
   have hE:=HP12.out H0.out (by rw [HSB.out,decide_eq_true q6]; simp)
   go_wp2
   refine bodyPost_ret (results_tmp2 Tryz.results75 _ _ _) rfl ?_
   exact .inl ⟨by rw [hE]; decide,by rw [hE]; rfl,B1.out⟩
  have t4:¬ (64:Int) < (c:Int):=by omega
  go_wp2_with (go_at_call 93; fail)
  refine HR4.out.mono ?_
  rintro e w2 ⟨rfl,rfl⟩
  clear HR4
  by_cases q7:r4=n
  rotate_left
  ·have t5:((r4:Int) != (n:Int))=true:=by rw [bne_iff_ne]; omega
   have hE:=HP12.out H0.out (by rw [HSB.out,decide_eq_true q7]; simp)
   go_wp2
   refine bodyPost_ret (results_tmp2 Tryz.results75 _ _ _) rfl ?_
   exact .inl ⟨by rw [hE]; decide,by rw [hE]; rfl,B1.out⟩
  subst q7
  have h1:jR bs=false:=by rw [HSB.out,decide_eq_false q4,decide_eq_false q5,decide_eq_false q6]; simp
  have H1:=hid h1
  clear h1 HSB HHB HQ1
  have HDc:=hid (fun W=>HDn.out c W (by omega))
  by_cases q8:r4 < 20+c*64
  ·have t6:(r4:Int) < 16+(c:Int)*64+4:=by omega
   have hE:=HP2.out H0.out H1.out q8
   go_wp2_with (go_at_call 131; refine (HDc.out _).mono ?_; rintro e w2 ⟨rfl,rfl⟩)
   refine bodyPost_ret (results_tmp2 Tryz.results75 _ _ _) rfl ?_
   exact .inl ⟨by rw [hE]; decide,by rw [hE]; rfl,B1.out⟩
  have t6:¬ (r4:Int) < 16+(c:Int)*64+4:=by omega
  obtain ⟨rs,hrs⟩:∃ r,bM bs (16+c*64) 4=r:=⟨_,rfl⟩
  obtain ⟨C,hC⟩:∃ r,lD (bs.take (16+c*64))=r:=⟨_,rfl⟩
  have hCb:=sM (bs.take (16+c*64))
  rw [hC] at hCb
  have HSm:=hid (show qP bs=decide (C ≠ (rs:Int)) by unfold qP; rw [Hc.out,hC,hrs])
  have HRs:=hid (show Calls Tryz.prog 93 #[.slice (some ⟨g,off,none⟩) r4 cap,.int .i64 (16+(c:Int)*64),.int .i64 4] w1 (fun e w'=>e=.returned (.int .i64 (rs:Nat))/\w1=w') from by
   have:=HRd.out w1 (16+c*64) 4 B1.out (by omega) (by omega)
   rw [hrs,show ((16+c*64:Nat):Int)=16+(c:Int)*64 by push_cast; rfl] at this
   exact this)
  have HCr:=hid (show Calls Tryz.prog 92 #[.slice (some ⟨g,off,none⟩) (16+c*64) cap] w1 (fun e w'=>e=.returned (.int .u32 C)/\w1=w') from by
   have h:=(Hr.out.later B1.out).take (16+c*64)
   rw [aCm] at h
   have:=pZ (bs.take (16+c*64)) (some ⟨g,off,none⟩) cap w1 (by rw [List.length_take]; omega) h
   rw [List.length_take,Hn.out,Nat.min_eq_left (by omega),hC] at this
   exact this)
  have hwC:IntKind.i64.wrap C=C:=IntWalk.i64_in _ (by omega)
  clear hrs hC
  go_wp2_with (first | (go_at_call 131; refine (HDc.out _).mono ?_; rintro e w2 ⟨rfl,rfl⟩) | (go_at_call 92; refine HCr.out.mono ?_; rintro e w2 ⟨rfl,rfl⟩) | (go_at_call 93; fail))
  refine HRs.out.mono ?_
  rintro e w2 ⟨rfl,rfl⟩
  clear HRs HCr
  by_cases q9:C=(rs:Int)
  rotate_left
  ·have t7:(C != (rs:Int))=true:=by rw [bne_iff_ne]; exact q9
   have hE:=HP9.out H0.out H1.out q8 (by rw [HSm.out,decide_eq_true q9])
   go_wp2
   refine bodyPost_ret (results_tmp2 Tryz.results75 _ _ _) rfl ?_
   exact .inl ⟨by rw [hE]; decide,by rw [hE]; rfl,B1.out⟩
  subst q9
  have h2:qP bs=false:=by rw [HSm.out]; simp
  have H2:=hid h2
  clear h2 HSm
  have HCl:=hid (TJ bs (some ⟨g,off,none⟩) r4 cap w1 Hn.out (by omega) nofun (Hr.out.later B1.out))
  go_wp2_with (go_at_call 91; fail)
  refine HCl.out.mono ?_
  rintro e w2 ⟨Ai,ci,rfl,hci,hcim,hcin,hown,hb2⟩
  have B2:=hid (aC B1.out hb2)
  have RI:=hid (Row.of_own hown)
  clear hown hb2 HCl
  obtain ⟨w3,hw3⟩:∃ w3,w2.alloc (.cells #[.slice Ai r4 ci,.int .i64 sz,.slice none 0 0] 159)=w3:=⟨_,rfl⟩
  have X3:=hid (show Blk w3 w2.heap.size 159 [.slice Ai r4 ci,.int .i64 sz,.slice none 0 0] by rw [<-hw3]; exact Blk.new w2 _ [.slice Ai r4 ci,.int .i64 sz,.slice none 0 0])
  have B3:=hid (show Below w2.heap.size w2 w3 by rw [<-hw3]; exact aL w2 _)
  go_wp2_with fail
  clear hw3
  obtain ⟨i0,hi,⟨zz0,hz0,hz0s⟩,hi1,hi2⟩:=yE
  have HMf:=hid (show (Tryz.prog.info? 37).map (·.size)=some 9 by kernel_rfl)
  go_loopw [81] (fun v wr=>∃ (m:Nat) (Ad:Option Addr) (cd:Nat),m<=c/\v=.int .i64 m/\Blk wr w2.heap.size 159 [.slice Ai r4 ci,.int .i64 sz,.slice Ad m cd]/\wr.ownsRow (w2.heap.size+1) 37 9 (.slice Ad m cd) m (aZ (eC bs m))/\Below w2.heap.size w2 wr/\kG bs m=true) (fun v _=>c - (intOf v).toNat)
  case atStart=>exact ⟨0,none,0,by omega,rfl,X3.out,World.ownsRow_nil _ _ _ _,B3.out,rfl⟩
  case round =>
   obtain ⟨m,Ad,cd,hm,rfl,hx,hown,hbel,hdir⟩:=hrel
   have Hx:=hid hx
   have Hown:=hid hown
   have Hbel:=hid hbel
   have Hdir:=hid hdir
   have Hge:=hid (bJ hown)
   have HBw:=hid (show Below w.heap.size w wr from aC B2.out hbel)
   have hxl:=hx.lt
   clear hx hown hbel hdir
   by_cases hlt:m < c
   ·have u1:(m:Int) < (c:Int):=by omega
    have u2:(0:Int)<=(m:Int):=by omega
    have u3:16+m*64+64<=r4:=by omega
    have HOp:=hid (show Calls Tryz.prog 132 #[.slice (some ⟨g,off+(16+m*64),none⟩) (r4 - (16+m*64)) (cap - (16+m*64))] wr (fun e w'=>e=.returned (.tuple #[.agg (fH bs (16+m*64)).cells.toArray,.bool (qY bs (16+m*64))])/\Below wr.heap.size wr w') from by
     have h:=(Hr.out.later HBw.out).drop_ (16+m*64)
     rw [aCl] at h
     have:=aBZ (bs.drop (16+m*64)) g (off+(16+m*64)) (r4 - (16+m*64)) (cap - (16+m*64)) wr (by rw [List.length_drop,Hn.out]) (by omega) (by omega) (by omega) h (fun x hx=>Hb.out x (List.mem_of_mem_drop hx))
     rwa [AB,TY] at this)
    have HDs:=hid (show kG bs (m+1)=(kG bs m && qY bs (16+m*64) && (decide (m=0) || bV (fH bs (16+(m - 1)*64)).name (fH bs (16+m*64)).name)) from rfl)
    have HZs:=hid (YQ bs m)
    have HHd:=hid (fun (h:kG bs (m+1)=false)=>HP4'.out H0.out H1.out q8 H2.out (N8 h c (by omega)))
    obtain ⟨M,hM⟩:∃ M,fH bs (16+m*64)=M:=⟨_,rfl⟩
    rw [hM] at HOp HDs HZs
    clear hM
    obtain ⟨nm,len,rate,ch,lp,f,t,sums,first⟩:=M
    have HO1:=hid (o5 ⟨nm,len,rate,ch,lp,f,t,sums,first⟩)
    obtain ⟨ok,hok⟩:∃ ok,qY bs (16+m*64)=ok:=⟨_,rfl⟩
    rw [hok] at HOp HDs
    clear hok
    have HOp2:=hid (show Calls Tryz.prog 132 #[.slice (some ⟨g,off+(16+m*64),none⟩) (r4 - (16+m*64)) (cap - (16+m*64))] wr (fun e w'=>e=.returned (.tuple #[.agg #[.string nm,.int .i64 len,.int .i64 rate,.int .i64 ch,.bool lp,.int .i64 f,.int .i64 t,.int .i64 sums,.int .i64 first],.bool ok])/\Below wr.heap.size wr w') from HOp.out)
    clear HOp
    go_wp2_with (go_at_call 132; fail)
    refine HOp2.out.mono ?_
    rintro e w4 ⟨rfl,hb4⟩
    have B4:=hid hb4
    have G4:=hb4.size
    clear hb4 HOp2
    go_wp2_with (refine aA rfl 37 (.tmp 8) (.tmp 91) rfl w4.heap.size rfl _ _ #[.string nm,.int .i64 len,.int .i64 rate,.int .i64 ch,.bool lp,.int .i64 f,.int .i64 t,.int .i64 sums,.int .i64 first] rfl (heap_alloc_new w4 _) HMf.out rfl HO1.out ?_; rw [World.setRow_alloc_new])
    obtain ⟨w5,hw5⟩:∃ w5,w4.alloc (.cells #[.string nm,.int .i64 len,.int .i64 rate,.int .i64 ch,.bool lp,.int .i64 f,.int .i64 t,.int .i64 sums,.int .i64 first] 37)=w5:=⟨_,rfl⟩
    rw [hw5]
    have X5:=hid (show Blk w5 w2.heap.size 159 [.slice Ai r4 ci,.int .i64 sz,.slice Ad m cd] by rw [<-hw5]; exact (Hx.out.below B4.out Hx.out.lt).alloc _)
    have M5:=hid (show Blk w5 w4.heap.size 37 [.string nm,.int .i64 len,.int .i64 rate,.int .i64 ch,.bool lp,.int .i64 f,.int .i64 t,.int .i64 sums,.int .i64 first] by rw [<-hw5]; exact Blk.new w4 _ [.string nm,.int .i64 len,.int .i64 rate,.int .i64 ch,.bool lp,.int .i64 f,.int .i64 t,.int .i64 sums,.int .i64 first])
    have O5:=hid (show w5.ownsRow (w2.heap.size+1) 37 9 (.slice Ad m cd) m (aZ (eC bs m)) by rw [<-hw5]; exact (cS Hown.out B4.out).alloc _)
    have B5:=hid (show Below wr.heap.size wr w5 by rw [<-hw5]; exact aC B4.out (aL w4 _))
    clear hw5
    have HNe:=hid (show some w4.heap.size ≠ (Value.slice Ad m cd).ownBlock from fun e=>by
     rcases Nat.eq_zero_or_pos m with h0 | h0
     ·subst h0
      rcases Hown.out.2 with ⟨h1,_⟩ | ⟨g',cap',cur',h1,hb',hh',_⟩
      ·injection h1 with h1
       subst h1
       simp [Value.ownBlock] at e
      ·injection h1 with h1
       subst h1
       have h2:w4.heap.size=g':=by simpa [Value.ownBlock] using e
       have h3:=ZG hh'
       omega
     ·obtain ⟨g',h1,hb',hl'⟩:=qH Hown.out h0
      subst h1
      have h2:w4.heap.size=g':=by simpa [Value.ownBlock] using e
      omega)
    cases ok with
    | false =>
     have hE:=HHd.out (by rw [HDs.out]; simp)
     go_wp2_with fail
     refine aR (by kernel_rfl) (by kernel_rfl) ?_
     repeat (go_big_quiet_step (fail))
     refine wpQuiet_nil ?_
     intro w6 hw'
     have B6:=hid (aK hw')
     clear hw'
     go_wp2
     refine bodyPost_ret (results_tmp2 Tryz.results75 _ _ _) rfl ?_
     exact .inl ⟨by rw [hE]; decide,by rw [hE]; rfl,aC (aC HBw.out B5.out) B6.out⟩
    | true =>
     have xd:=fun (z:GW w5)=>(show z.1.cell? ⟨w2.heap.size,2,none⟩=some (.slice Ad m cd) from aG (X5.out.below z.2 X5.out.lt) 2)
     have xn:=fun (z:GW w5)=>(show z.1.cell? ⟨w4.heap.size,0,none⟩=some (.string nm) from aG (M5.out.below z.2 M5.out.lt) 0)
     by_cases hm0:m=0
     ·have hgood:kG bs (m+1)=true:=by rw [HDs.out,Hdir.out,decide_eq_true hm0]; rfl
      have v1:decide ((0:Int) < (m:Int))=false:=decide_eq_false (by omega)
      have v2:decide (0 < m)=false:=decide_eq_false (by omega)
      clear hm0
      go_wp2_with fail
      refine aR (by kernel_rfl) (by kernel_rfl) ?_
      repeat (go_big_quiet_step (fail))
      refine wpQuiet_nil ?_
      intro w6 hw'
      have B6:=hid (aK hw')
      clear hw'
      clear xd xn
      have X6:=hid (X5.out.below B6.out X5.out.lt)
      have M6:=hid (M5.out.below B6.out M5.out.lt)
      have O6:=hid (cS O5.out B6.out)
      have G5:=hid B5.out.size
      have G6:=hid B6.out.size
      have Gx:=hid hxl
      have HD2:=hid hgood
      have HS:=hid (fun (W:World) (hW:Below w6.heap.size w6 W)=>(show W.cell? ⟨w2.heap.size,2,none⟩=some (.slice Ad m cd)/\W.cell? ⟨w4.heap.size,0,none⟩=some (.string nm)/\W.cell? ⟨w4.heap.size,1,none⟩=some (.int .i64 len)/\W.cell? ⟨w4.heap.size,2,none⟩=some (.int .i64 rate)/\W.cell? ⟨w4.heap.size,3,none⟩=some (.int .i64 ch)/\W.cell? ⟨w4.heap.size,4,none⟩=some (.bool lp)/\W.cell? ⟨w4.heap.size,5,none⟩=some (.int .i64 f)/\W.cell? ⟨w4.heap.size,6,none⟩=some (.int .i64 t)/\W.cell? ⟨w4.heap.size,7,none⟩=some (.int .i64 sums)/\W.cell? ⟨w4.heap.size,8,none⟩=some (.int .i64 first) from ⟨aG (X6.out.below hW X6.out.lt) 2,aG (M6.out.below hW M6.out.lt) 0,aG (M6.out.below hW M6.out.lt) 1,aG (M6.out.below hW M6.out.lt) 2,aG (M6.out.below hW M6.out.lt) 3,aG (M6.out.below hW M6.out.lt) 4,aG (M6.out.below hW M6.out.lt) 5,aG (M6.out.below hW M6.out.lt) 6,aG (M6.out.below hW M6.out.lt) 7,aG (M6.out.below hW M6.out.lt) 8⟩))
      have HSg:=hid (fun (W W':World) (hW:Below w6.heap.size w6 W) (hg:W.grownBy W' (Value.slice Ad m cd).ownBlock)=>(show W'.cell? ⟨w2.heap.size,2,none⟩=some (.slice Ad m cd)/\W'.cell? ⟨w4.heap.size,0,none⟩=some (.string nm)/\W'.cell? ⟨w4.heap.size,1,none⟩=some (.int .i64 len)/\W'.cell? ⟨w4.heap.size,2,none⟩=some (.int .i64 rate)/\W'.cell? ⟨w4.heap.size,3,none⟩=some (.int .i64 ch)/\W'.cell? ⟨w4.heap.size,4,none⟩=some (.bool lp)/\W'.cell? ⟨w4.heap.size,5,none⟩=some (.int .i64 f)/\W'.cell? ⟨w4.heap.size,6,none⟩=some (.int .i64 t)/\W'.cell? ⟨w4.heap.size,7,none⟩=some (.int .i64 sums)/\W'.cell? ⟨w4.heap.size,8,none⟩=some (.int .i64 first) from ⟨aG (Blk.grown (X6.out.below hW X6.out.lt) hg (fun e=>by have:=Hge.out _ e.symm; omega)) 2,aG (Blk.grown (M6.out.below hW M6.out.lt) hg (HNe.out)) 0,aG (Blk.grown (M6.out.below hW M6.out.lt) hg (HNe.out)) 1,aG (Blk.grown (M6.out.below hW M6.out.lt) hg (HNe.out)) 2,aG (Blk.grown (M6.out.below hW M6.out.lt) hg (HNe.out)) 3,aG (Blk.grown (M6.out.below hW M6.out.lt) hg (HNe.out)) 4,aG (Blk.grown (M6.out.below hW M6.out.lt) hg (HNe.out)) 5,aG (Blk.grown (M6.out.below hW M6.out.lt) hg (HNe.out)) 6,aG (Blk.grown (M6.out.below hW M6.out.lt) hg (HNe.out)) 7,aG (Blk.grown (M6.out.below hW M6.out.lt) hg (HNe.out)) 8⟩))
      have HFz:=hid (fun (W W':World) (hW:Below w6.heap.size w6 W) (hg:W.grownBy W' (Value.slice Ad m cd).ownBlock)=>(show ∀ i,W'.frozen? ⟨w2.heap.size,i,none⟩=false from lW (Blk.grown (X6.out.below hW X6.out.lt) hg (fun e=>by have:=Hge.out _ e.symm; omega))))
      have HOw:=hid (fun (W:World) (hW:Below w6.heap.size w6 W)=>cS O6.out hW)
      clear hgood
      go_wp2_with fail
      obtain ⟨y2,z0,z1,z2,z3,z4,z5,z6,z7,z8⟩:=HS.out w6 (Below.refl _ _)
      have ya2:=fun O=>bP y2 O
      have za0:=fun O=>bP z0 O
      have za1:=fun O=>bP z1 O
      have za2:=fun O=>bP z2 O
      have za3:=fun O=>bP z3 O
      have za4:=fun O=>bP z4 O
      have za5:=fun O=>bP z5 O
      have za6:=fun O=>bP z6 O
      have za7:=fun O=>bP z7 O
      have za8:=fun O=>bP z8 O
      go_region_law (first | (refine Q6 (by rfl) _ _ _ (by rfl) (w2.heap.size+1) 37 i0 zz0 9 80 Tryz.underlying26 hi hz0 hi1 hi2 hz0s (by omega) (.slice Ad m cd) m (aZ (eC bs m)) (by rfl) (HOw.out _ (aC (fI w6) (aL _ _))) (w6.drew.heap.size+1) (some ⟨w6.drew.heap.size,0,none⟩) 1 1 [.string nm,.int .i64 len,.int .i64 rate,.int .i64 ch,.bool lp,.int .i64 f,.int .i64 t,.int .i64 sums,.int .i64 first] (by rfl) (by rfl) (Row.new w6.drew _ [.string nm,.int .i64 len,.int .i64 rate,.int .i64 ch,.bool lp,.int .i64 f,.int .i64 t,.int .i64 sums,.int .i64 first]) (rX ⟨nm,len,rate,ch,lp,f,t,sums,first⟩) (by omega) (by omega) (by simp; have:=Gx.out; have:=G5.out; have:=G6.out; omega) ?_; intro A2 c2 w9 hown9 hgr9 hat9 hcc9; have fz9:=HFz.out _ _ (aC (fI w6) (aL _ _)) hgr9; have cz9:=(HSg.out _ _ (aC (fI w6) (aL _ _)) hgr9).1))
      all_goals
       have hbq:=aC (fI w6) (aL w6.drew (.cells #[.string nm,.int .i64 len,.int .i64 rate,.int .i64 ch,.bool lp,.int .i64 f,.int .i64 t,.int .i64 sums,.int .i64 first] 37))
       have hbe:=(mD (mD (mD Hbel.out B5.out (by have:=Hbel.out.size; omega)) B6.out (by have:=G5.out; omega)) hbq (by have:=G5.out; have:=G6.out; omega)).grown hgr9 (by simp; have:=G5.out; have:=G6.out; omega) (fun k hk=>by have:=Hge.out k hk; omega)
       have HBe:=hid (Below.setCell (p:=⟨w2.heap.size,2,none⟩) hbe (Nat.le_refl _) (.slice A2 (m+1) c2))
       have HX9:=hid ((Blk.grown (X6.out.below hbq X6.out.lt) hgr9 (fun e=>by have:=Hge.out _ e.symm; omega)).set_ 2 (.slice A2 (m+1) c2))
       have HO9:=hid (show (w9.setCell ⟨w2.heap.size,2,none⟩ (.slice A2 (m+1) c2)).ownsRow (w2.heap.size+1) 37 9 (.slice A2 (m+1) c2) (m+1) (aZ (eC bs (m+1))) from by
        rw [HZs.out,nB]
        exact ownsRow_setCell_below hown9 (Nat.lt_succ_self _) _)
       clear hbq hbe hown9 hgr9 hat9
       go_wp2
       go_roundw
       case rel=>exact ⟨m+1,A2,c2,by omega,by go_num,HX9.out,HO9.out,HBe.out,HD2.out⟩
       case measure=>simp [intOf]; omega
     ·have v1:(0:Int) < (m:Int):=by omega
      have v2:0 < m:=by omega
      obtain ⟨r,hrm⟩:∃ r,m=r+1:=⟨m - 1,by omega⟩
      have hmr:(m:Int) - 1=(r:Int):=by omega
      have v3:(r:Int) < (m:Int):=by omega
      have v4:(0:Int)<=(r:Int):=by omega
      obtain ⟨gd,hAd,_,hgd⟩:=qH O5.out (by omega)
      have xd2:=fun (z:GW w5)=>(show z.1.cell? ⟨w2.heap.size,2,none⟩=some (.slice (some ⟨gd,0,none⟩) m cd) from by rw [xd z,hAd])
      clear xd
      obtain ⟨pv,hpv⟩:∃ pv,fH bs (16+r*64)=pv:=⟨_,rfl⟩
      have hpr:(eC bs m)[r]? = some pv:=by rw [aBf bs (by omega),hpv]
      obtain ⟨b',o',hA',_,hcl⟩:=gI (Row.of_own O5.out) hpr
      rw [hAd] at hA'
      injection hA' with hA'
      injection hA' with e1 e2
      subst e1 e2
      have xp:=fun (z:GW w5)=>(show z.1.cell? ⟨gd,r*9,none⟩=some (.string pv.name) from by
       have h:=(z.2.cell (p:=⟨gd,0+r*9+0,none⟩) hgd).trans (hcl 0 _ rfl)
       rwa [Nat.zero_add,Nat.add_zero] at h)
      have HDm:=hid (show kG bs (m+1)=bV pv.name nm by
       rw [HDs.out,Hdir.out,decide_eq_false hm0,show m - 1=r by omega,hpv]
       simp)
      have hbl:=KO pv.name nm
      have Hm0:=hid hm0
      clear hm0 hrm hpv hpr hcl hAd
      by_cases hlss:bV pv.name nm=true
      ·have hgood:kG bs (m+1)=true:=by rw [HDm.out,hlss]
       rw [hlss] at hbl
       clear hlss
       go_wp2_with fail
       refine aR (by kernel_rfl) (by kernel_rfl) ?_
       repeat (go_big_quiet_step (fail))
       refine wpQuiet_nil ?_
       intro w6 hw'
       have B6:=hid (aK hw')
       clear hw'
       clear xd2 xn xp hbl v1 v2 v3 v4 hmr
       have X6:=hid (X5.out.below B6.out X5.out.lt)
       have M6:=hid (M5.out.below B6.out M5.out.lt)
       have O6:=hid (cS O5.out B6.out)
       have G5:=hid B5.out.size
       have G6:=hid B6.out.size
       have Gx:=hid hxl
       have HD2:=hid hgood
       have HS:=hid (fun (W:World) (hW:Below w6.heap.size w6 W)=>(show W.cell? ⟨w2.heap.size,2,none⟩=some (.slice Ad m cd)/\W.cell? ⟨w4.heap.size,0,none⟩=some (.string nm)/\W.cell? ⟨w4.heap.size,1,none⟩=some (.int .i64 len)/\W.cell? ⟨w4.heap.size,2,none⟩=some (.int .i64 rate)/\W.cell? ⟨w4.heap.size,3,none⟩=some (.int .i64 ch)/\W.cell? ⟨w4.heap.size,4,none⟩=some (.bool lp)/\W.cell? ⟨w4.heap.size,5,none⟩=some (.int .i64 f)/\W.cell? ⟨w4.heap.size,6,none⟩=some (.int .i64 t)/\W.cell? ⟨w4.heap.size,7,none⟩=some (.int .i64 sums)/\W.cell? ⟨w4.heap.size,8,none⟩=some (.int .i64 first) from ⟨aG (X6.out.below hW X6.out.lt) 2,aG (M6.out.below hW M6.out.lt) 0,aG (M6.out.below hW M6.out.lt) 1,aG (M6.out.below hW M6.out.lt) 2,aG (M6.out.below hW M6.out.lt) 3,aG (M6.out.below hW M6.out.lt) 4,aG (M6.out.below hW M6.out.lt) 5,aG (M6.out.below hW M6.out.lt) 6,aG (M6.out.below hW M6.out.lt) 7,aG (M6.out.below hW M6.out.lt) 8⟩))
       have HSg:=hid (fun (W W':World) (hW:Below w6.heap.size w6 W) (hg:W.grownBy W' (Value.slice Ad m cd).ownBlock)=>(show W'.cell? ⟨w2.heap.size,2,none⟩=some (.slice Ad m cd)/\W'.cell? ⟨w4.heap.size,0,none⟩=some (.string nm)/\W'.cell? ⟨w4.heap.size,1,none⟩=some (.int .i64 len)/\W'.cell? ⟨w4.heap.size,2,none⟩=some (.int .i64 rate)/\W'.cell? ⟨w4.heap.size,3,none⟩=some (.int .i64 ch)/\W'.cell? ⟨w4.heap.size,4,none⟩=some (.bool lp)/\W'.cell? ⟨w4.heap.size,5,none⟩=some (.int .i64 f)/\W'.cell? ⟨w4.heap.size,6,none⟩=some (.int .i64 t)/\W'.cell? ⟨w4.heap.size,7,none⟩=some (.int .i64 sums)/\W'.cell? ⟨w4.heap.size,8,none⟩=some (.int .i64 first) from ⟨aG (Blk.grown (X6.out.below hW X6.out.lt) hg (fun e=>by have:=Hge.out _ e.symm; omega)) 2,aG (Blk.grown (M6.out.below hW M6.out.lt) hg (HNe.out)) 0,aG (Blk.grown (M6.out.below hW M6.out.lt) hg (HNe.out)) 1,aG (Blk.grown (M6.out.below hW M6.out.lt) hg (HNe.out)) 2,aG (Blk.grown (M6.out.below hW M6.out.lt) hg (HNe.out)) 3,aG (Blk.grown (M6.out.below hW M6.out.lt) hg (HNe.out)) 4,aG (Blk.grown (M6.out.below hW M6.out.lt) hg (HNe.out)) 5,aG (Blk.grown (M6.out.below hW M6.out.lt) hg (HNe.out)) 6,aG (Blk.grown (M6.out.below hW M6.out.lt) hg (HNe.out)) 7,aG (Blk.grown (M6.out.below hW M6.out.lt) hg (HNe.out)) 8⟩))
       have HFz:=hid (fun (W W':World) (hW:Below w6.heap.size w6 W) (hg:W.grownBy W' (Value.slice Ad m cd).ownBlock)=>(show ∀ i,W'.frozen? ⟨w2.heap.size,i,none⟩=false from lW (Blk.grown (X6.out.below hW X6.out.lt) hg (fun e=>by have:=Hge.out _ e.symm; omega))))
       have HOw:=hid (fun (W:World) (hW:Below w6.heap.size w6 W)=>cS O6.out hW)
       clear hgood
       go_wp2_with fail
       obtain ⟨y2,z0,z1,z2,z3,z4,z5,z6,z7,z8⟩:=HS.out w6 (Below.refl _ _)
       have ya2:=fun O=>bP y2 O
       have za0:=fun O=>bP z0 O
       have za1:=fun O=>bP z1 O
       have za2:=fun O=>bP z2 O
       have za3:=fun O=>bP z3 O
       have za4:=fun O=>bP z4 O
       have za5:=fun O=>bP z5 O
       have za6:=fun O=>bP z6 O
       have za7:=fun O=>bP z7 O
       have za8:=fun O=>bP z8 O
       go_region_law (first | (refine Q6 (by rfl) _ _ _ (by rfl) (w2.heap.size+1) 37 i0 zz0 9 80 Tryz.underlying26 hi hz0 hi1 hi2 hz0s (by omega) (.slice Ad m cd) m (aZ (eC bs m)) (by rfl) (HOw.out _ (aC (fI w6) (aL _ _))) (w6.drew.heap.size+1) (some ⟨w6.drew.heap.size,0,none⟩) 1 1 [.string nm,.int .i64 len,.int .i64 rate,.int .i64 ch,.bool lp,.int .i64 f,.int .i64 t,.int .i64 sums,.int .i64 first] (by rfl) (by rfl) (Row.new w6.drew _ [.string nm,.int .i64 len,.int .i64 rate,.int .i64 ch,.bool lp,.int .i64 f,.int .i64 t,.int .i64 sums,.int .i64 first]) (rX ⟨nm,len,rate,ch,lp,f,t,sums,first⟩) (by omega) (by omega) (by simp; have:=Gx.out; have:=G5.out; have:=G6.out; omega) ?_; intro A2 c2 w9 hown9 hgr9 hat9 hcc9; have fz9:=HFz.out _ _ (aC (fI w6) (aL _ _)) hgr9; have cz9:=(HSg.out _ _ (aC (fI w6) (aL _ _)) hgr9).1))
       all_goals
        have hbq:=aC (fI w6) (aL w6.drew (.cells #[.string nm,.int .i64 len,.int .i64 rate,.int .i64 ch,.bool lp,.int .i64 f,.int .i64 t,.int .i64 sums,.int .i64 first] 37))
        have hbe:=(mD (mD (mD Hbel.out B5.out (by have:=Hbel.out.size; omega)) B6.out (by have:=G5.out; omega)) hbq (by have:=G5.out; have:=G6.out; omega)).grown hgr9 (by simp; have:=G5.out; have:=G6.out; omega) (fun k hk=>by have:=Hge.out k hk; omega)
        have HBe:=hid (Below.setCell (p:=⟨w2.heap.size,2,none⟩) hbe (Nat.le_refl _) (.slice A2 (m+1) c2))
        have HX9:=hid ((Blk.grown (X6.out.below hbq X6.out.lt) hgr9 (fun e=>by have:=Hge.out _ e.symm; omega)).set_ 2 (.slice A2 (m+1) c2))
        have HO9:=hid (show (w9.setCell ⟨w2.heap.size,2,none⟩ (.slice A2 (m+1) c2)).ownsRow (w2.heap.size+1) 37 9 (.slice A2 (m+1) c2) (m+1) (aZ (eC bs (m+1))) from by
         rw [HZs.out,nB]
         exact ownsRow_setCell_below hown9 (Nat.lt_succ_self _) _)
        clear hbq hbe hown9 hgr9 hat9
        go_wp2
        go_roundw
        case rel=>exact ⟨m+1,A2,c2,by omega,by go_num,HX9.out,HO9.out,HBe.out,HD2.out⟩
        case measure=>simp [intOf]; omega
      ·have hlf:bV pv.name nm=false:=by simpa using hlss
       have hE:=HHd.out (by rw [HDm.out,hlf])
       rw [hlf] at hbl
       clear hlss hlf
       go_wp2_with fail
       refine aR (by kernel_rfl) (by kernel_rfl) ?_
       repeat (go_big_quiet_step (fail))
       refine wpQuiet_nil ?_
       intro w6 hw'
       have B6:=hid (aK hw')
       clear hw'
       clear xd2 xn xp hbl
       go_wp2
       refine bodyPost_ret (results_tmp2 Tryz.results75 _ _ _) rfl ?_
       exact .inl ⟨by rw [hE]; decide,by rw [hE]; rfl,aC (aC HBw.out B5.out) B6.out⟩
   ·have hmc:m=c:=by omega
    subst hmc
    have u1:¬ ((m:Int) < (m:Int)):=by omega
    have xq:wr.cell? ⟨w2.heap.size,2,none⟩=some (.slice Ad m cd):=aG Hx.out 2
    obtain ⟨A5,c5,h5,h5c,h5n⟩:=iL Hown.out
    injection h5 with e1 _ e3
    subst e1 e3
    have h5m:=iY Hown.out
    have HZl:=hid (lY bs m)
    have HClM:=hid (TK (eC bs m) Ad m cd wr (lY bs m) (by omega) (fun h=>(h5n h).2) (Row.of_own Hown.out))
    have HRt:=hid (rR m Hdir.out)
    have HPp:=hid (HPp.out H0.out H1.out q8 H2.out Hdir.out)
    have hPB:=(show pF bs=(decide (upZ (bL (kQ bs) (eC bs (gX bs)) (gX bs)) 64 ≠ bs.length) || (decide (4194304 < bs.length) || !allEq MetaV.same (dA (kQ bs) (eC bs (gX bs)) (gX bs)) (eC bs (gX bs)))) from rfl)
    rw [Hc.out,Hsz.out,Hn.out] at hPB
    have HPB:=hid hPB
    have hbd:=DS (size:=(sz:Int)) (L:=eC bs m) (by omega) (by omega) (fun x hx=>qB (HRt.out x hx)) (by rw [HZl.out]; omega) m
    have hub:0<=upZ (bL sz (eC bs m) m) 64/\upZ (bL sz (eC bs m) m) 64<=1000000000:=by
     unfold upZ
     generalize bL (sz:Int) (eC bs m) m=a at *
     omega
    have HPl:=hid (fun A7 c7 w7 (ho:w7.ownsRow wr.heap.size 37 9 (.slice A7 m c7) m (aZ (eC bs m))) (hz:wr.heap.size<=w7.heap.size)=>aAf (sz:Int) m c7 wr.heap.size (eC bs m) A7 w7 (lY bs m) (by omega) (fun x hx=>qB (HRt.out x hx)) (by omega) (by omega) ho hz)
    have HEq:=hid (fun A7 c7 w8 (hr7:Row w8 w8.heap.size A7 (aZ (dA sz (eC bs m) m))) (hr8:Row w8 w8.heap.size Ad (aZ (eC bs m)))=>GZ (dA sz (eC bs m) m) (eC bs m) A7 Ad m c7 cd w8 (by rw [lJ,lY]) (lY bs m) (by omega) hr7 hr8)
    have HRd2:=hid (Row.of_own Hown.out)
    generalize upZ (bL (sz:Int) (eC bs m) m) 64=U at *
    obtain ⟨q,hq⟩:∃ q,allEq MetaV.same (dA sz (eC bs m) m) (eC bs m)=q:=⟨_,rfl⟩
    rw [hq] at HPB HEq
    have H5z:=hid (fun (h:Ad=none)=>(h5n h).2)
    have Hcd:=hid h5c
    clear hq hPB hbd h5n h5c
    go_wp2_with (go_at_call 79; fail)
    refine HClM.out.mono ?_
    rintro e w7 ⟨A7,c7,rfl,h7c,h7m,h7n,hown7,hb7⟩
    have HP7:=hid (HPl.out A7 c7 w7 hown7 hb7.size)
    have B7:=hid hb7
    clear hown7 hb7 xq HClM HPl
    go_wp2_with (go_at_call 127; fail)
    refine HP7.out.mono ?_
    rintro e w8 ⟨rfl,hown8,hb8⟩
    have B8:=hid (B7.out.trans hb8)
    have R8:=hid (Row.of_own hown8)
    have D8:=hid (HRd2.out.later B8.out)
    have X8:=hid (Hx.out.below B8.out Hx.out.lt)
    have E8:=hid (HEq.out A7 c7 w8 R8.out D8.out)
    clear hown8 hb8 HP7 HEq
    have g2:¬ (4194304:Int) < (r4:Int):=by omega
    by_cases p1:U=(r4:Int)
    rotate_left
    ·have g1:(U != (r4:Int))=true:=by rw [bne_iff_ne]; exact p1
     have hE:eK bs=12:=by rw [HPp.out,HPB.out,decide_eq_true (show U ≠ (r4:Int) from p1)]; rfl
     go_wp2
     refine bodyPost_ret (results_tmp2 Tryz.results75 _ _ _) rfl ?_
     exact .inl ⟨by rw [hE]; decide,by rw [hE]; rfl,aC HBw.out B8.out⟩
    subst p1
    have g3:((r4:Int) != (r4:Int))=false:=by simp
    have xq:=aG X8.out 2
    go_wp2_with (go_at_call 133; fail)
    refine E8.out.mono ?_
    rintro e w9 ⟨rfl,hb9⟩
    have B9:=hid hb9
    clear hb9 xq E8
    have hF:decide ((r4:Int) ≠ (r4:Int))=false:=by simp
    have hF2:decide (4194304 < r4)=false:=decide_eq_false (by omega)
    cases q with
    | false =>
     have hE:eK bs=12:=by rw [HPp.out,HPB.out,hF,hF2]; rfl
     clear hF hF2
     go_wp2
     refine bodyPost_ret (results_tmp2 Tryz.results75 _ _ _) rfl ?_
     exact .inl ⟨by rw [hE]; decide,by rw [hE]; rfl,aC (aC HBw.out B8.out) B9.out⟩
    | true =>
     have hE:eK bs=0:=by rw [HPp.out,HPB.out,hF,hF2]; rfl
     clear hF hF2
     have X9:=hid (X8.out.below B9.out X8.out.lt)
     have D9:=hid (D8.out.later B9.out)
     have I9:=hid (RI.out.later (((Hbel.out.trans (B8.out.mono Hbel.out.size))).trans (B9.out.mono (by have:=Hbel.out.size; have:=B8.out.size; omega))))
     go_wp2
     refine bodyPost_ret (results_tmp2 Tryz.results75 _ _ _) rfl ?_
     refine .inr ⟨hE,w2.heap.size,rfl,B2.out.size,⟨Ai,ci,Ad,cd,?_,I9.out,?_,?_,hcim,?_,h5m,hcin,?_⟩,aC (aC HBw.out B8.out) B9.out⟩
     ·rw [Hn.out,Hc.out,HZl.out,Hsz.out]; exact X9.out
     ·rw [Hc.out]; exact D9.out
     ·rw [Hn.out]; exact hci
     ·rw [Hc.out,HZl.out]; exact Hcd.out
     ·exact H5z.out
end Go.Proofs.YtnbbfblaipjcmaaGreatDoor
