/- ListC, ListD, ListE, ListI, ListK, ListJ. Conditions: as each theorem states. -/
import Derived.Deep.RegionWith
import Derived.Test.YtnbbfblaipjcmaaGreatDoorPu22
import Derived.Test.YtnbbfblaipjcmaaGreatDoorPu04
import Derived.Test.YtnbbfblaipjcmaaGreatDoorPu16
import Derived.Test.YtnbbfblaipjcmaaGreatDoorPu48
import Derived.Test.YtnbbfblaipjcmaaGreatDoorPu42
import Derived.Test.YtnbbfblaipjcmaaGreatDoorPu05
import Derived.Test.YtnbbfblaipjcmaaGreatDoorPu38
set_option maxRecDepth 100000
set_option maxHeartbeats 16000000
namespace Go.Proofs.YtnbbfblaipjcmaaGreatDoor
section
open Go.RowKit Go.Lib
theorem listCount_any (v:Int) (hv:-9223372036854775808<=v/\v<=9223372036854775807) (w:World):Calls Tryz.prog 82 #[.int .i64 v] w fun e w'=>e=.returned (.string (numS v))/\Below w.heap.size w w':=by
 have HN:=Lib.hid (sayNumber_any v hv w)
 go_enter Tryz.func82,Tryz.ntmps82
 go_wp2_with (go_at_call 80; refine HN.out.mono ?_; rintro e w2 ⟨rfl,hb⟩)
 go_ret
 exact ⟨rfl,hb⟩
theorem lawCount31_any (v:Int) (hv:-9223372036854775808<=v/\v<=9223372036854775807) (w:World):Calls Tryz.prog 17 #[.int .i64 v] w fun e w'=>e=.returned (.string (numS v))/\Below w.heap.size w w':=by
 have HN:=Lib.hid (sayNumber_any v hv w)
 go_enter Tryz.func17,Tryz.ntmps17
 go_wp2_with (go_at_call 80; refine HN.out.mono ?_; rintro e w2 ⟨rfl,hb⟩)
 go_ret
 exact ⟨rfl,hb⟩
def joinS (xs:List ByteArray):ByteArray:=⟨(Lib.join (xs.map (·.data.toList)) [32]).toArray⟩
def rowS (xs:List ByteArray):ByteArray:=joinS xs ++ ⟨#[10]⟩
def sizesS (xs:List ByteArray):Nat:=(xs.map fun x=>x.size+1).sum
theorem joinS_size:∀ (xs:List ByteArray),(Lib.join (xs.map (·.data.toList)) [32]).length<=sizesS xs
 | []=>Nat.le_refl _
 | x :: r=>by
  rw [List.map_cons,join_length,List.length_map]
  unfold sizesS
  have h:∀ (l:List ByteArray),Lib.lens (l.map (·.data.toList))+l.length=(l.map fun x=>x.size+1).sum:=by
   intro l
   induction l with
   | nil=>rfl
   | cons y t ih =>
    rw [List.map_cons,List.map_cons,List.sum_cons,<-ih,List.length_cons]
    show (y.data.toList.length+Lib.lens _)+_=_
    have e:y.data.toList.length=y.size:=by simp
    omega
  have h1:=h (x :: r)
  rw [List.map_cons,List.length_cons] at h1
  simp only [List.length_cons,List.length_nil]
  omega
def strs (xs:List ByteArray):List Value:=xs.map Value.string
theorem listRow_any (xs:List ByteArray) (bk o c:Nat) (w:World) (hr:Row w w.heap.size (some ⟨bk,o,none⟩) (strs xs)) (h0:0 < xs.length) (hN:xs.length<=1000000) (hc:xs.length<=c) (hz:sizesS xs<=1000000000) :
  Calls Tryz.prog 83 #[.slice (some ⟨bk,o,none⟩) xs.length c] w fun e w'=>e=.returned (.string (rowS xs))/\Below w.heap.size w w':=by
 have hjz:=joinS_size xs
 have hcell:∀ (j:Nat) x,xs[j]? = some x->w.cell? ⟨bk,o+j,none⟩=some (.string x)/\bk < w.heap.size:=fun j x hx=>by
  obtain ⟨b,o',hA,hb,hc⟩:=hr j (.string x) (by unfold strs; rw [List.getElem?_map,hx]; rfl)
  injection hA with hA
  injection hA with e1 e2
  subst e1 e2
  exact ⟨hc,hb⟩
 obtain ⟨x0,hx0⟩:∃ x0,xs[0]? = some x0:=⟨_,List.getElem?_eq_getElem h0⟩
 have HJ:=Lib.hid (show Calls Tryz.prog 136 #[.slice (some ⟨bk,o,none⟩) xs.length c,.string ⟨#[32]⟩] w fun e w'=>e=.returned (.string (joinS xs))/\Below w.heap.size w w' from strings_Join bk o c xs ⟨#[32]⟩ w (fun j x hx=>(hcell j x hx).1) (hcell 0 x0 hx0).2 (by omega) hc (by show (Lib.join _ [32]).length<=_; omega))
 have HR:=Lib.hid (show rowS xs=joinS xs ++ ⟨#[10]⟩ from rfl)
 have hs:(joinS xs).size=(Lib.join (xs.map (·.data.toList)) [32]).length:=by
  show (Lib.join (xs.map (·.data.toList)) [32]).toArray.size=_
  simp
 have hz2:¬ 9223372036854775807 < (joinS xs).size+1:=by omega
 generalize joinS xs=J at *
 generalize rowS xs=R at *
 generalize xs.length=n at *
 clear hcell hx0 hr hs hjz
 go_enter Tryz.func83,Tryz.ntmps83
 go_wp2_with (go_at_call 136; refine HJ.out.mono ?_; rintro e w2 ⟨rfl,hb⟩)
 go_ret
 exact ⟨by rw [HR.out]; rfl,hb⟩
end
section
open Go.RowKit Go.Lib
def InR (v:Int):Prop:=-9223372036854775808<=v/\v<=9223372036854775807
structure MetaV.told (x:MetaV):Prop where
 name:x.name.size<=1000
 length:InR x.length
 rate:InR x.rate
 channels:InR x.channels
 from_:InR x.from_
 to_:InR x.to_
 first:InR x.first
def loopW (lp:Bool) (f t:Int):List ByteArray:=if lp then [⟨#[108,111,111,112]⟩,numS f,numS t] else []
def metaW (x:MetaV):List ByteArray:=([wordS x.name,⟨#[108,101,110,103,116,104]⟩,numS x.length,⟨#[114,97,116,101]⟩,numS x.rate,⟨#[99,104,97,110,110,101,108,115]⟩,numS x.channels] ++ loopW x.loop x.from_ x.to_) ++ [⟨#[97,116]⟩,numS x.first]
def metaS (x:MetaV):ByteArray:=rowS (metaW x)
theorem sizesS_app (a b:List ByteArray):sizesS (a ++ b)=sizesS a+sizesS b:=by simp [sizesS]
theorem metaW_size {x:MetaV} (h:x.name.size<=1000):sizesS (metaW x)<=1000000:=by
 have h1:=wordS_size x.name
 have h2:=numS_size x.length
 have h3:=numS_size x.rate
 have h4:=numS_size x.channels
 have h5:=numS_size x.from_
 have h6:=numS_size x.to_
 have h7:=numS_size x.first
 unfold metaW
 rw [sizesS_app,sizesS_app]
 have e2:sizesS (loopW x.loop x.from_ x.to_)<=100:=by
  unfold loopW
  split
  ·simp only [sizesS,List.map_cons,List.map_nil,List.sum_cons,List.sum_nil]
   show 4+1+_<=_
   omega
  ·exact Nat.zero_le _
 have e1:sizesS [wordS x.name,⟨#[108,101,110,103,116,104]⟩,numS x.length,⟨#[114,97,116,101]⟩,numS x.rate,⟨#[99,104,97,110,110,101,108,115]⟩,numS x.channels]<=10000:=by
  simp only [sizesS,List.map_cons,List.map_nil,List.sum_cons,List.sum_nil]
  show _+1+(6+1+(_+1+(4+1+(_+1+(8+1+(_+1+0))))))<=_
  omega
 have e3:sizesS [⟨#[97,116]⟩,numS x.first]<=100:=by
  simp only [sizesS,List.map_cons,List.map_nil,List.sum_cons,List.sum_nil]
  show 2+1+_<=_
  omega
 omega
theorem own_builtN (w:World) (e:TypeId) (xs:List Value) (n:Nat) (hn:xs.length=n) (hm:n<=9223372036854775807):(w.alloc (.cells xs.toArray e)).ownsRow w.heap.size e 1 (.slice (some ⟨w.heap.size,0,none⟩) n n) n xs :=
 ⟨by omega,.inr ⟨w.heap.size,n,xs.toArray,rfl,Nat.le_refl _,heap_alloc_new w _,Nat.le_refl _,hm,by rw [List.size_toArray]; omega,by rw [List.toList_toArray]; exact List.take_of_length_le (by omega)⟩⟩
theorem listMeta_any (x:MetaV) (h:x.told) (w:World):Calls Tryz.prog 18 #[.agg x.cells.toArray] w fun e w'=>e=.returned (.string (metaS x))/\Below w.heap.size w w':=by
 have HZ:=hid (metaW_size h.name)
 obtain ⟨nm,len,rate,ch,lp,f,t,sums,first⟩:=x
 obtain ⟨k0,k1,k2,k3,k4,k5,k6⟩:=h
 simp only at k0 k1 k2 k3 k4 k5 k6
 obtain ⟨i0,hi,hz0,hi1,hi2⟩:=info_parts inf_str
 have HC:=hid (fun (v:Int) (hv:InR v) (W:World)=>listCount_any v hv W)
 have HWd:=hid (fun (W:World)=>sayWord_any nm (by omega) W)
 have HF:=hid (show metaS ⟨nm,len,rate,ch,lp,f,t,sums,first⟩=rowS (metaW ⟨nm,len,rate,ch,lp,f,t,sums,first⟩) from rfl)
 have HMW:=hid (show metaW ⟨nm,len,rate,ch,lp,f,t,sums,first⟩=([wordS nm,⟨#[108,101,110,103,116,104]⟩,numS len,⟨#[114,97,116,101]⟩,numS rate,⟨#[99,104,97,110,110,101,108,115]⟩,numS ch] ++ loopW lp f t) ++ [⟨#[97,116]⟩,numS first] from rfl)
 obtain ⟨w1,hw1⟩:∃ w1,w.alloc (.cells #[.string nm,.int .i64 len,.int .i64 rate,.int .i64 ch,.bool lp,.int .i64 f,.int .i64 t,.int .i64 sums,.int .i64 first] 37)=w1:=⟨_,rfl⟩
 have B1:=hid (show Below w.heap.size w w1 by rw [<-hw1]; exact bnew w _)
 have X1:=hid (show Blk w1 w.heap.size 37 [.string nm,.int .i64 len,.int .i64 rate,.int .i64 ch,.bool lp,.int .i64 f,.int .i64 t,.int .i64 sums,.int .i64 first] by rw [<-hw1]; exact Blk.new w _ _)
 have x0:=fun (z:GW w1)=>(show z.1.cell? ⟨w.heap.size,0,none⟩=some (.string nm) from (z.2.cell (p:=⟨w.heap.size,0,none⟩) X1.out.lt).trans (X1.out.cell 0))
 have x1:=fun (z:GW w1)=>(show z.1.cell? ⟨w.heap.size,1,none⟩=some (.int .i64 len) from (z.2.cell (p:=⟨w.heap.size,1,none⟩) X1.out.lt).trans (X1.out.cell 1))
 have x2:=fun (z:GW w1)=>(show z.1.cell? ⟨w.heap.size,2,none⟩=some (.int .i64 rate) from (z.2.cell (p:=⟨w.heap.size,2,none⟩) X1.out.lt).trans (X1.out.cell 2))
 have x3:=fun (z:GW w1)=>(show z.1.cell? ⟨w.heap.size,3,none⟩=some (.int .i64 ch) from (z.2.cell (p:=⟨w.heap.size,3,none⟩) X1.out.lt).trans (X1.out.cell 3))
 generalize metaW ⟨nm,len,rate,ch,lp,f,t,sums,first⟩=MW at *
 generalize metaS ⟨nm,len,rate,ch,lp,f,t,sums,first⟩=MS at *
 show Calls Tryz.prog 18 #[.agg #[.string nm,.int .i64 len,.int .i64 rate,.int .i64 ch,.bool lp,.int .i64 f,.int .i64 t,.int .i64 sums,.int .i64 first]] w _
 go_enter Tryz.func18,Tryz.ntmps18
 go_wp2_with fail
 refine wp_region_calm_tail 12 (by kernel_rfl) (by kernel_rfl) ?_
 simp only [List.take_succ_cons,List.take_zero,List.drop_succ_cons,List.drop_zero]
 repeat (go_big_quiet_step (first | (go_at_call 81; exact calm_call (HWd.out _)) | (go_at_call 82; exact calm_call (HC.out _ (by assumption) _))))
 refine wpQuiet_nil ?_
 intro w2 hw'
 have B2:=hid (gw_below hw')
 clear hw' x0 x1 x2 x3 hw1
 have hOw:=own_builtN w2 9 (strs [wordS nm,⟨#[108,101,110,103,116,104]⟩,numS len,⟨#[114,97,116,101]⟩,numS rate,⟨#[99,104,97,110,110,101,108,115]⟩,numS ch]) 7 rfl (by omega)
 obtain ⟨w3,hw3⟩:∃ w3,w2.alloc (.cells #[.string (wordS nm),.string ⟨#[108,101,110,103,116,104]⟩,.string (numS len),.string ⟨#[114,97,116,101]⟩,.string (numS rate),.string ⟨#[99,104,97,110,110,101,108,115]⟩,.string (numS ch)] 9)=w3:=⟨_,rfl⟩
 have hOw:w3.ownsRow w2.heap.size 9 1 (.slice (some ⟨w2.heap.size,0,none⟩) 7 7) 7 (strs [wordS nm,⟨#[108,101,110,103,116,104]⟩,numS len,⟨#[114,97,116,101]⟩,numS rate,⟨#[99,104,97,110,110,101,108,115]⟩,numS ch]):=by rw [<-hw3]; exact hOw
 have B3:=hid (show Below w1.heap.size w1 w3 by rw [<-hw3]; exact bnext B2.out (bnew w2 _))
 have Own3:=hid hOw
 have X3:=hid (X1.out.below B3.out X1.out.lt)
 have Z3:=hid (show w2.heap.size<=w3.heap.size by rw [<-hw3]; simp)
 have c4:w3.cell? ⟨w.heap.size,4,none⟩=some (.bool lp):=X3.out.cell 4
 clear hOw
 have HL7:=hid (show [wordS nm,⟨#[108,101,110,103,116,104]⟩,numS len,⟨#[114,97,116,101]⟩,numS rate,⟨#[99,104,97,110,110,101,108,115]⟩,numS ch].length=7 from rfl)
 generalize [wordS nm,⟨#[108,101,110,103,116,104]⟩,numS len,⟨#[114,97,116,101]⟩,numS rate,⟨#[99,104,97,110,110,101,108,115]⟩,numS ch]=L7 at *
 cases lp with
 | false =>
  have c8:w3.cell? ⟨w.heap.size,8,none⟩=some (.int .i64 first):=X3.out.cell 8
  go_wp2_with (go_at_call 82; fail)
  refine (HC.out first k6 _).mono ?_
  rintro e w5 ⟨rfl,hb5⟩
  have Own5:=hid (own_below Own3.out hb5)
  have B5:=hid (bnext B3.out hb5)
  have Z5:=hid (show w2.heap.size<=w5.heap.size by have:=hb5.size; have:=Z3.out; omega)
  clear hb5 c8
  go_wp2_with (first | (at_builtin; refine wpList_app _ rfl (.tmp 28) (.tmp 32) 162 rfl w2.heap.size 9 i0 (.string ⟨#[]⟩) 1 16 Tryz.underlying162 hi hz0 hi1 hi2 rfl (by omega) (.slice (some ⟨w2.heap.size,0,none⟩) 7 7) 7 _ rfl (Own5.out.alloc _) (w5.heap.size+1) (some ⟨w5.heap.size,0,none⟩) 2 2 [.string ⟨#[97,116]⟩,.string (numS first)] rfl rfl (Row.new w5 _ _) (fun u hu=>by simp at hu; rcases hu with rfl | rfl <;> rfl) (by omega) (by omega) (by have:=Z5.out; simp; omega) ?_; intro A2 cc w6 hown6 hgrow hat hcc) | (go_at_call 83; fail))
  have hb6:Below w1.heap.size w1 w6:=(bnext B5.out (bnew w5 _)).grown hgrow (by have:=B5.out.size; simp; omega) (fun g h=>by have:=own_block_ge Own3.out g h; have:=B2.out.size; omega)
  obtain ⟨g,rfl⟩:∃ g,A2=some ⟨g,0,none⟩:=by
   rcases hown6.2 with ⟨_,h0⟩ | ⟨g,cap',cur,h,_⟩
   ·omega
   ·injection h with h; exact ⟨g,h⟩
  have HRw:=hid (show Calls Tryz.prog 83 #[.slice (some ⟨g,0,none⟩) (7+2) cc] w6 _ from by
   have h:=listRow_any MW g 0 cc w6 (by rw [HMW.out,show strs ((L7 ++ loopW false f t) ++ [⟨#[97,116]⟩,numS first])=strs L7 ++ [.string ⟨#[97,116]⟩,.string (numS first)] by simp [strs,loopW]]; exact Row.of_own hown6) (by rw [HMW.out]; simp [loopW]) (by rw [HMW.out]; simp [loopW,HL7.out]) (by rw [HMW.out]; simpa [loopW,HL7.out] using hcc) (by have:=HZ.out; omega)
   have e:MW.length=7+2:=by rw [HMW.out]; simp [loopW,HL7.out]
   rw [e] at h
   exact h)
  clear hown6 hgrow hat hcc
  refine HRw.out.mono ?_
  rintro e w7 ⟨rfl,hb7⟩
  go_wp2_with fail
  go_ret
  exact ⟨by rw [HF.out]; rfl,bnext B1.out (bnext hb6 hb7)⟩
 | true =>
  have HX3:=hid (fun W (hW:Below w3.heap.size w3 W) (k:Nat) v (hk:([.string nm,.int .i64 len,.int .i64 rate,.int .i64 ch,.bool true,.int .i64 f,.int .i64 t,.int .i64 sums,.int .i64 first]:List Value)[k]? = some v)=>(show W.cell? ⟨w.heap.size,k,none⟩=some v from (hW.cell (p:=⟨w.heap.size,k,none⟩) X3.out.lt).trans ((X3.out.cell k).trans hk)))
  have d5:w3.cell? ⟨w.heap.size,5,none⟩=some (.int .i64 f):=X3.out.cell 5
  have d6:w3.cell? ⟨w.heap.size,6,none⟩=some (.int .i64 t):=X3.out.cell 6
  go_wp2_with fail
  go_region_law (first | (go_simp; go_at_call 82; refine (HC.out f k4 _).mono ?_; rintro e wf ⟨rfl,hbf⟩; have Bf:=bnext (below_drew1 w3) hbf; have z6:=HX3.out wf Bf 6 _ rfl) | (go_simp; go_at_call 82; refine (HC.out t k5 _).mono ?_; rintro e wt ⟨rfl,hbt⟩; have Bt:=bnext Bf hbt) | (refine step_app (by rfl) _ _ _ (by rfl) w2.heap.size 9 i0 (.string ⟨#[]⟩) 1 16 Tryz.underlying162 hi hz0 hi1 hi2 rfl (by omega) (.slice (some ⟨w2.heap.size,0,none⟩) 7 7) 7 (strs L7) (by rfl) (own_below Own3.out (bnext Bt (bnew _ _))) (wt.heap.size+1) (some ⟨wt.heap.size,0,none⟩) 3 3 [.string ⟨#[108,111,111,112]⟩,.string (numS f),.string (numS t)] (by rfl) (by rfl) (Row.new wt _ [.string ⟨#[108,111,111,112]⟩,.string (numS f),.string (numS t)]) (fun u hu=>by simp at hu; rcases hu with rfl | rfl | rfl <;> rfl) (by omega) (by omega) (by have:=Bt.size; have:=Z3.out; simp; omega) ?_; intro A3 c3 w4 hown4 hgrow hat hcc))
  all_goals
   obtain ⟨g3,rfl⟩:∃ g,A3=some ⟨g,0,none⟩:=by
    rcases hown4.2 with ⟨_,h0⟩ | ⟨g,cap',cur,h,_⟩
    ·omega
    ·injection h with h; exact ⟨g,h⟩
   obtain ⟨L10,hL10⟩:∃ L,L7 ++ loopW true f t=L:=⟨_,rfl⟩
   have HL10:=hid hL10
   have Own4:=hid (show w4.ownsRow w2.heap.size 9 1 (.slice (some ⟨g3,0,none⟩) 10 c3) 10 (strs L10) by
    rw [<-hL10,show strs (L7 ++ loopW true f t)=strs L7 ++ [.string ⟨#[108,111,111,112]⟩,.string (numS f),.string (numS t)] by simp [strs,loopW]]
    exact hown4)
   have B4:=hid (show Below w1.heap.size w1 w4 from (bnext (bnext B3.out Bt) (bnew wt _)).grown hgrow (by have:=B3.out.size; have:=Bt.size; simp; omega) (fun g h=>by have:=own_block_ge Own3.out g h; have:=B2.out.size; omega))
   have X4:=hid (X1.out.below B4.out X1.out.lt)
   have Z4:=hid (show w2.heap.size<=w4.heap.size by have:=own_basis1 Own4.out (g:=g3) rfl; omega)
   clear hown4 hgrow hat hcc hL10 d5 d6
   have c8:w4.cell? ⟨w.heap.size,8,none⟩=some (.int .i64 first):=X4.out.cell 8
   go_wp2_with (go_at_call 82; fail)
   refine (HC.out first k6 _).mono ?_
   rintro e w5 ⟨rfl,hb5⟩
   have Own5:=hid (own_below Own4.out hb5)
   have B5:=hid (bnext B4.out hb5)
   have Z5:=hid (show w2.heap.size<=w5.heap.size by have:=hb5.size; have:=Z4.out; omega)
   clear hb5 c8
   go_wp2_with (first | (at_builtin; refine wpList_app _ rfl (.tmp 28) (.tmp 32) 162 rfl w2.heap.size 9 i0 (.string ⟨#[]⟩) 1 16 Tryz.underlying162 hi hz0 hi1 hi2 rfl (by omega) (.slice (some ⟨g3,0,none⟩) 10 c3) 10 _ rfl (Own5.out.alloc _) (w5.heap.size+1) (some ⟨w5.heap.size,0,none⟩) 2 2 [.string ⟨#[97,116]⟩,.string (numS first)] rfl rfl (Row.new w5 _ _) (fun u hu=>by simp at hu; rcases hu with rfl | rfl <;> rfl) (by omega) (by omega) (by have:=Z5.out; simp; omega) ?_; intro A2 cc w6 hown6 hgrow hat hcc) | (go_at_call 83; fail))
   have hb6:Below w1.heap.size w1 w6:=(bnext B5.out (bnew w5 _)).grown hgrow (by have:=B5.out.size; simp; omega) (fun g h=>by have:=own_block_ge Own4.out g h; have:=B2.out.size; omega)
   obtain ⟨g,rfl⟩:∃ g,A2=some ⟨g,0,none⟩:=by
    rcases hown6.2 with ⟨_,h0⟩ | ⟨g,cap',cur,h,_⟩
    ·omega
    ·injection h with h; exact ⟨g,h⟩
   have HRw:=hid (show Calls Tryz.prog 83 #[.slice (some ⟨g,0,none⟩) (10+2) cc] w6 _ from by
    have h:=listRow_any MW g 0 cc w6 (by rw [HMW.out,show strs ((L7 ++ loopW true f t) ++ [⟨#[97,116]⟩,numS first])=strs L10 ++ [.string ⟨#[97,116]⟩,.string (numS first)] by rw [<-HL10.out]; simp [strs,loopW]]; exact Row.of_own hown6) (by rw [HMW.out]; simp [loopW]) (by rw [HMW.out]; simp [loopW,HL7.out]) (by rw [HMW.out]; simpa [loopW,HL7.out] using hcc) (by have:=HZ.out; omega)
    have e:MW.length=10+2:=by rw [HMW.out]; simp [loopW,HL7.out]
    rw [e] at h
    exact h)
   clear hown6 hgrow hat hcc
   refine HRw.out.mono ?_
   rintro e w7 ⟨rfl,hb7⟩
   go_wp2_with fail
   go_ret
   exact ⟨by rw [HF.out]; rfl,bnext B1.out (bnext hb6 hb7)⟩
end
section
open Go.RowKit Go.Lib
theorem bytes_ext {a b:ByteArray} (h:a.data.toList=b.data.toList):a=b:=by
 cases a with | mk a=>cases b with | mk b=>exact congrArg ByteArray.mk (Array.toList_inj.1 h)
theorem bytes_app (a b:ByteArray):(a ++ b).data.toList=a.data.toList ++ b.data.toList:=by simp
theorem rowS_list (xs:List ByteArray):(rowS xs).data.toList=Lib.join (xs.map (·.data.toList)) [32] ++ [10]:=by
 unfold rowS joinS
 rw [bytes_app]
end
section
open Go.RowKit Go.Lib
structure FrameV.told (f:FrameV):Prop where
 len:f.Len
 gains:∀ x ∈ f.gains,InR x
 tones:∀ t ∈ f.tones,InR t.idx/\InR t.val
 scale:∀ x ∈ f.scale,InR x
 width:∀ x ∈ f.width,InR x
 q:∀ x ∈ f.q,InR x
 few:f.tones.length<=5
def wGains (f:FrameV) (k:Nat):List ByteArray:=⟨#[103,97,105,110,115]⟩ :: (f.gains.take k).map numS
def toneW (t:ToneV):List ByteArray:=[⟨#[116,111,110,101]⟩,numS t.idx,numS t.val]
def wTones (f:FrameV) (k:Nat):List ByteArray:=wGains f 4 ++ ((f.tones.take k).map toneW).flatten
def bandW (f:FrameV) (b j:Nat):List ByteArray:=[⟨#[98,97,110,100]⟩,numS (bgt f.scale b),numS (bgt f.width b)] ++ (List.range j).map fun i=>numS (bgt f.q (4*b+i))
def wBands (f:FrameV):Nat->List ByteArray
 | 0=>wTones f f.tones.length
 | b+1=>wBands f b ++ bandW f b 4
def frameS (f:FrameV):ByteArray:=rowS (wBands f 4)
theorem wGains_step (f:FrameV) {k:Nat} {g:Int} (h:f.gains[k]? = some g):wGains f (k+1)=wGains f k ++ [numS g]:=by
 unfold wGains
 rw [List.take_add_one,h]
 simp
theorem wTones_step (f:FrameV) {k:Nat} {t:ToneV} (h:f.tones[k]? = some t):wTones f (k+1)=wTones f k ++ toneW t:=by
 unfold wTones
 rw [List.take_add_one,h]
 simp
theorem bandW_step (f:FrameV) (b j:Nat):bandW f b (j+1)=bandW f b j ++ [numS (bgt f.q (4*b+j))]:=by
 unfold bandW
 rw [List.range_succ,List.map_append,List.append_assoc]
 rfl
theorem wGains_len {f:FrameV} (h:f.Len) {k:Nat} (hk:k<=4):(wGains f k).length=1+k:=by
 unfold wGains
 rw [List.length_cons,List.length_map,List.length_take,h.g]
 omega
theorem tonesW_len:∀ (l:List ToneV),((l.map toneW).flatten).length=3*l.length
 | []=>rfl
 | t :: r=>by
  rw [List.map_cons,List.flatten_cons,List.length_append,tonesW_len r,List.length_cons]
  show 3+_=_
  omega
theorem wTones_len {f:FrameV} (h:f.Len) {k:Nat} (hk:k<=f.tones.length):(wTones f k).length=5+3*k:=by
 unfold wTones
 rw [List.length_append,wGains_len h (Nat.le_refl _),tonesW_len,List.length_take]
 omega
theorem bandW_len (f:FrameV) (b j:Nat):(bandW f b j).length=3+j:=by
 unfold bandW
 rw [List.length_append,List.length_map,List.length_range]
 rfl
theorem wBands_len {f:FrameV} (h:f.Len):∀ b,(wBands f b).length=5+3*f.tones.length+7*b
 | 0=>wTones_len h (Nat.le_refl _)
 | b+1=>by
  show (wBands f b ++ bandW f b 4).length=_
  rw [List.length_append,wBands_len h b,bandW_len]
  omega
theorem sizesS_le:∀ (xs:List ByteArray),(∀ x ∈ xs,x.size<=22)->sizesS xs<=23*xs.length
 | [],_=>Nat.le_refl _
 | x :: r,h=>by
  have h1:=sizesS_le r (fun y hy=>h y (by simp [hy]))
  have h2:=h x (by simp)
  have h3:sizesS (x :: r)=x.size+1+sizesS r:=by simp [sizesS]
  rw [h3,List.length_cons]
  omega
theorem wGains_small (f:FrameV) (k:Nat):∀ x ∈ wGains f k,x.size<=22:=fun x hx=>by
 unfold wGains at hx
 rcases List.mem_cons.1 hx with rfl | hx
 ·show 5<=22; omega
 ·obtain ⟨y,_,rfl⟩:=List.mem_map.1 hx
  exact numS_size y
theorem toneW_small (t:ToneV):∀ x ∈ toneW t,x.size<=22:=fun x hx=>by
 unfold toneW at hx
 simp only [List.mem_cons,List.not_mem_nil,or_false] at hx
 rcases hx with rfl | rfl | rfl
 ·show 4<=22; omega
 ·exact numS_size _
 ·exact numS_size _
theorem wTones_small (f:FrameV) (k:Nat):∀ x ∈ wTones f k,x.size<=22:=fun x hx=>by
 unfold wTones at hx
 rcases List.mem_append.1 hx with hx | hx
 ·exact wGains_small f 4 x hx
 ·obtain ⟨l,hl,hx⟩:=List.mem_flatten.1 hx
  obtain ⟨t,_,rfl⟩:=List.mem_map.1 hl
  exact toneW_small t x hx
theorem bandW_small (f:FrameV) (b j:Nat):∀ x ∈ bandW f b j,x.size<=22:=fun x hx=>by
 unfold bandW at hx
 rcases List.mem_append.1 hx with hx | hx
 ·simp only [List.mem_cons,List.not_mem_nil,or_false] at hx
  rcases hx with rfl | rfl | rfl
  ·show 4<=22; omega
  ·exact numS_size _
  ·exact numS_size _
 ·obtain ⟨y,_,rfl⟩:=List.mem_map.1 hx
  exact numS_size _
theorem wBands_small (f:FrameV):∀ b,∀ x ∈ wBands f b,x.size<=22
 | 0=>wTones_small f _
 | b+1=>fun x hx=>by
  have hx:x ∈ wBands f b ++ bandW f b 4:=hx
  rcases List.mem_append.1 hx with hx | hx
  ·exact wBands_small f b x hx
  ·exact bandW_small f b 4 x hx
theorem joinS_le (xs:List ByteArray) (h:∀ x ∈ xs,x.size<=22):(joinS xs).size<=23*xs.length:=by
 have h1:=joinS_size xs
 have h2:=sizesS_le xs h
 have h3:(joinS xs).size=(Lib.join (xs.map (·.data.toList)) [32]).length:=by
  show (Lib.join (xs.map (·.data.toList)) [32]).toArray.size=_
  simp
 omega
theorem joinS_snoc {xs:List ByteArray} (h:xs ≠ []) (y:ByteArray):joinS (xs ++ [y])=joinS xs ++ ⟨#[32]⟩ ++ y:=by
 apply bytes_ext
 rw [bytes_app,bytes_app]
 show Lib.join ((xs ++ [y]).map (·.data.toList)) [32]=Lib.join (xs.map (·.data.toList)) [32] ++ [32] ++ y.data.toList
 cases xs with
 | nil=>exact absurd rfl h
 | cons x r =>
  rw [List.cons_append,List.map_cons,List.map_cons,join_cons,join_cons,List.map_append]
  unfold joinTail
  simp
end
section
open Go.RowKit Go.Lib
theorem joinS_three {xs:List ByteArray} (h:xs ≠ []) (a b c:ByteArray):joinS (xs ++ [a,b,c])=joinS xs ++ ⟨#[32]⟩ ++ a ++ ⟨#[32]⟩ ++ b ++ ⟨#[32]⟩ ++ c:=by
 have e:xs ++ [a,b,c]=((xs ++ [a]) ++ [b]) ++ [c]:=by simp
 rw [e,joinS_snoc (by simp),joinS_snoc (by simp),joinS_snoc h]
theorem tone_join {xs:List ByteArray} (h:xs ≠ []) (b c:ByteArray):joinS xs ++ ⟨#[32,116,111,110,101,32]⟩ ++ b ++ ⟨#[32]⟩ ++ c=joinS (xs ++ [⟨#[116,111,110,101]⟩,b,c]):=by
 rw [joinS_three h]
 apply bytes_ext
 simp
theorem band_join {xs:List ByteArray} (h:xs ≠ []) (b c:ByteArray):joinS xs ++ ⟨#[32,98,97,110,100,32]⟩ ++ b ++ ⟨#[32]⟩ ++ c=joinS (xs ++ [⟨#[98,97,110,100]⟩,b,c]):=by
 rw [joinS_three h]
 apply bytes_ext
 simp
theorem joinS_one (x:ByteArray):joinS [x]=x:=by
 apply bytes_ext
 show Lib.join [x.data.toList] [32]=_
 rw [join_one]
def pfxW (f:FrameV) (b j:Nat):List ByteArray:=if j=0 then wBands f b else wBands f b ++ bandW f b j
theorem pfxW_next (f:FrameV) (b j:Nat) (hj:j < 4):wBands f b ++ bandW f b (j+1)=(if j+1=4 then pfxW f (b+1) 0 else pfxW f b (j+1)):=by
 unfold pfxW
 by_cases h:j+1=4
 ·rw [if_pos h,if_pos rfl,h]; rfl
 ·rw [if_neg h,if_neg (by omega)]
theorem lawFrame31_any (f:FrameV) (A0:Option Addr) (c0:Nat) (w:World) (h:f.told) (hr:Row w w.heap.size A0 (toneCells f.tones)) :
  Calls Tryz.prog 30 #[.agg (frameA f (.slice A0 f.tones.length c0))] w fun e w'=>e=.returned (.string (frameS f))/\Below w.heap.size w w':=by
 obtain ⟨hL,kg,kt,ks,kw,kq,hfew⟩:=h
 have HC:=hid (fun (v:Int) (hv:InR v) (W:World)=>lawCount31_any v hv W)
 have HN:=hid (fun (v:Int) (hv:InR v) (W:World)=>sayNumber_any v hv W)
 have HF:=hid (show frameS f=joinS (wBands f 4) ++ ⟨#[10]⟩ from rfl)
 have HJ:=hid (fun (xs:List ByteArray) (hx:∀ x ∈ xs,x.size<=22) (hl:xs.length<=100)=>(show (joinS xs).size<=2300 by have:=joinS_le xs hx; omega))
 obtain ⟨cs,hcs⟩:∃ cs,frameA f (.slice A0 f.tones.length c0)=cs:=⟨_,rfl⟩
 obtain ⟨w1,hw1⟩:∃ w1,w.alloc (.cells cs 50)=w1:=⟨_,rfl⟩
 have B1:=hid (show Below w.heap.size w w1 by rw [<-hw1]; exact bnew w _)
 have X1:=hid (show w1.heap[w.heap.size]? = some (.cells cs 50 (0,0)) by rw [<-hw1]; exact heap_alloc_new w _)
 have HXg:=hid (fun W (hW:Below w1.heap.size w1 W) (k:Nat) g (hg:f.gains[k]? = some g)=>(show W.cell? ⟨w.heap.size,k,none⟩=some (.int .i64 g) from (cell_of_row _ _ _ _ _ _ (hkeep X1.out hW)).trans (by rw [<-hcs]; have:=frameA_gain hL (.slice A0 f.tones.length c0) (j:=k) (v:=.int .i64 g) (by rw [List.getElem?_map,hg]; rfl); rw [Nat.zero_add] at this; exact this)))
 have HXs:=hid (fun W (hW:Below w1.heap.size w1 W) (b:Nat) (hb:b < 4)=>(show W.cell? ⟨w.heap.size,5+b,none⟩=some (.int .i64 (bgt f.scale b)) from (cell_of_row _ _ _ _ _ _ (hkeep X1.out hW)).trans (by
  rw [<-hcs]
  obtain ⟨x,hx⟩:=list_get (k:=b) hL.s hb
  rw [bgt_get hx]
  exact frameA_scale hL _ (by rw [List.getElem?_map,hx]; rfl))))
 have HXw:=hid (fun W (hW:Below w1.heap.size w1 W) (b:Nat) (hb:b < 4)=>(show W.cell? ⟨w.heap.size,9+b,none⟩=some (.int .i64 (bgt f.width b)) from (cell_of_row _ _ _ _ _ _ (hkeep X1.out hW)).trans (by
  rw [<-hcs]
  obtain ⟨x,hx⟩:=list_get (k:=b) hL.w hb
  rw [bgt_get hx]
  exact frameA_width hL _ (by rw [List.getElem?_map,hx]; rfl))))
 have HXq:=hid (fun W (hW:Below w1.heap.size w1 W) (b:Nat) (hb:b < 16)=>(show W.cell? ⟨w.heap.size,13+b,none⟩=some (.int .i64 (bgt f.q b)) from (cell_of_row _ _ _ _ _ _ (hkeep X1.out hW)).trans (by
  rw [<-hcs]
  obtain ⟨x,hx⟩:=list_get (k:=b) hL.q hb
  rw [bgt_get hx]
  exact frameA_q hL _ (by rw [List.getElem?_map,hx]; rfl))))
 have HXt:=hid (fun W (hW:Below w1.heap.size w1 W)=>(show W.cell? ⟨w.heap.size,4,none⟩=some (.slice A0 f.tones.length c0) from (cell_of_row _ _ _ _ _ _ (hkeep X1.out hW)).trans (by rw [<-hcs]; exact frameA_tones hL _)))
 have HR:=hid hr
 have HLl:=hid hL
 have Kg:=hid (fun (k:Nat) g (hg:f.gains[k]? = some g)=>kg g (List.mem_of_getElem? hg))
 have Kt:=hid (fun (k:Nat) t (ht:f.tones[k]? = some t)=>kt t (List.mem_of_getElem? ht))
 have Ks:=hid (fun (b:Nat) (hb:b < 4)=>(show InR (bgt f.scale b) by obtain ⟨x,hx⟩:=list_get (k:=b) hL.s hb; rw [bgt_get hx]; exact ks x (List.mem_of_getElem? hx)))
 have Kw:=hid (fun (b:Nat) (hb:b < 4)=>(show InR (bgt f.width b) by obtain ⟨x,hx⟩:=list_get (k:=b) hL.w hb; rw [bgt_get hx]; exact kw x (List.mem_of_getElem? hx)))
 have Kq:=hid (fun (b:Nat) (hb:b < 16)=>(show InR (bgt f.q b) by obtain ⟨x,hx⟩:=list_get (k:=b) hL.q hb; rw [bgt_get hx]; exact kq x (List.mem_of_getElem? hx)))
 have HT:=hid (show f.tones.length<=5 from hfew)
 have HG0:=hid (show joinS (wGains f 0)=⟨#[103,97,105,110,115]⟩ by
  have e:wGains f 0=[⟨#[103,97,105,110,115]⟩]:=by simp [wGains]
  rw [e,joinS_one])
 generalize frameS f=FS at *
 rw [hcs]
 clear hL kg kt ks kw kq hr hcs hfew
 go_enter Tryz.func30,Tryz.ntmps30
 go_wp2_with fail
 go_loopw [4,3] (fun i s wr=>∃ (k:Nat),k<=4/\i=.int .i64 k/\s=.string (joinS (wGains f k))/\Below w1.heap.size w1 wr) (fun i _ _=>4 - (intOf i).toNat)
 case atStart=>exact ⟨0,by omega,rfl,by rw [HG0.out],Below.refl _ _⟩
 case round =>
  obtain ⟨k,hk,rfl,rfl,hbel⟩:=hrel
  have Hbel:=hid hbel
  clear hbel
  obtain ⟨wa,rfl⟩:∃ wa,wa=wr:=⟨_,rfl⟩
  by_cases hk4:k < 4
  ·have t1:(k:Int) < 4:=by omega
   have t2:(0:Int)<=(k:Int):=by omega
   obtain ⟨g,hg⟩:=list_get (k:=k) HLl.out.g hk4
   have z:=HXg.out wa Hbel.out k g hg
   have HS:=hid (show joinS (wGains f (k+1))=joinS (wGains f k) ++ ⟨#[32]⟩ ++ numS g by rw [wGains_step f hg,joinS_snoc (by simp [wGains])])
   have hgi:=hid (Kg.out k g hg)
   have hsz:=HJ.out (wGains f k) (wGains_small f k) (by rw [wGains_len HLl.out hk]; omega)
   have hng:=numS_size g
   generalize joinS (wGains f k)=S at *
   have q1:¬ 9223372036854775807 < S.size+1:=by omega
   have q2:¬ 9223372036854775807 < S.size+1+(numS g).size:=by omega
   clear hg hsz hng
   go_wp2_with (go_at_call 17; refine (HC.out g hgi.out _).mono ?_; rintro e w5 ⟨rfl,hb5⟩)
   go_roundw
   case rel=>exact ⟨k+1,by omega,by go_num,by rw [HS.out],bnext Hbel.out hb5⟩
   case measure=>first | (simp [intOf]; done) | (simp [intOf]; omega)
  ·obtain rfl:k=4:=by omega
   have t1:¬ ((4:Nat):Int) < 4:=by omega
   obtain ⟨T,hT⟩:∃ T,f.tones.length=T:=⟨_,rfl⟩
   rw [hT] at HXt
   have HTl:=hid hT
   have hT5:T<=5:=by rw [<-hT]; exact HT.out
   have BA:=hid Hbel.out
   have HW0:=hid (show joinS (wGains f 4)=joinS (wTones f 0) by simp [wTones])
   rw [HW0.out]
   clear Hbel hT HG0 Kg HXg
   go_wp2_with fail
   go_loopw [5,3] (fun i s wr=>∃ (k:Nat),k<=T/\i=.int .i64 k/\s=.string (joinS (wTones f k))/\Below w1.heap.size w1 wr) (fun i _ _=>T - (intOf i).toNat)
   case atStart=>exact ⟨0,by omega,rfl,rfl,BA.out⟩
   case round =>
    obtain ⟨k,hk,rfl,rfl,hbel⟩:=hrel
    have Hbel:=hid hbel
    clear hbel
    obtain ⟨wb,rfl⟩:∃ wb,wb=wr:=⟨_,rfl⟩
    by_cases hkT:k < T
    ·have t1:(k:Int) < (T:Int):=by omega
     have t2:(0:Int)<=(k:Int):=by omega
     obtain ⟨t,ht⟩:=list_get (k:=k) HTl.out hkT
     have hcell:∀ (j:Nat) x,t.cells[j]? = some x->(toneCells f.tones)[k*2+j]? = some x:=fun j x hx=>by
      unfold toneCells
      have hj:j < 2:=(List.getElem?_eq_some_iff.1 hx).1
      rw [flat_get 2 _ (fun cs hcs=>by obtain ⟨z,_,rfl⟩:=List.mem_map.1 hcs; rfl) k j hj]
      simp [ht,hx]
     have HRb:=(HR.out.later B1.out).later Hbel.out
     obtain ⟨bT,oT,rfl,hbT,hc0⟩:=HRb (k*2+0) _ (hcell 0 _ rfl)
     obtain ⟨bT',oT',hA',_,hc1⟩:=HRb (k*2+1) _ (hcell 1 _ rfl)
     injection hA' with hA'
     injection hA' with e1 e2
     subst e1 e2
     rw [<-Nat.add_assoc] at hc0 hc1
     rw [Nat.add_zero] at hc0
     have HS:=hid (show joinS (wTones f (k+1))=joinS (wTones f k) ++ ⟨#[32,116,111,110,101,32]⟩ ++ numS t.idx ++ ⟨#[32]⟩ ++ numS t.val by
      rw [wTones_step f ht,tone_join (by simp [wTones,wGains])]; rfl)
     have hti:=hid (Kt.out k t ht)
     have hsz:=HJ.out (wTones f k) (wTones_small f k) (by rw [wTones_len HLl.out (by rw [HTl.out]; omega)]; omega)
     obtain ⟨ti,tv⟩:=t
     simp only at hti HS
     have n1:=numS_size ti
     have n2:=numS_size tv
     have x0:=fun (z:GW wb)=>(show z.1.cell? ⟨bT,oT+k*2,none⟩=some (.int .i64 ti) from (z.2.cell (p:=⟨bT,oT+k*2,none⟩) hbT).trans hc0)
     have x1:=fun (z:GW wb)=>(show z.1.cell? ⟨bT,oT+k*2+1,none⟩=some (.int .i64 tv) from (z.2.cell (p:=⟨bT,oT+k*2+1,none⟩) hbT).trans hc1)
     have xt:=fun (z:GW wb)=>HXt.out z.1 (bnext Hbel.out z.2)
     have ct:=HXt.out wb Hbel.out
     have k1:=hid hti.out.1
     have k2:=hid hti.out.2
     generalize joinS (wTones f k)=S at *
     have q1:¬ 9223372036854775807 < S.size+6:=by omega
     have q2:¬ 9223372036854775807 < S.size+6+(numS ti).size:=by omega
     have q3:¬ 9223372036854775807 < S.size+6+(numS ti).size+1:=by omega
     have q4:¬ 9223372036854775807 < S.size+6+(numS ti).size+1+(numS tv).size:=by omega
     clear ht hcell HRb hbT hc0 hc1 hsz n1 n2 hti
     go_wp2_with fail
     refine wp_region_calm (by kernel_rfl) (by kernel_rfl) ?_
     repeat (go_big_quiet_step (first | (go_at_call 17; exact calm_call (HC.out _ k1.out _)) | (go_at_call 80; exact calm_call (HN.out _ k2.out _))))
     refine wpQuiet_nil ?_
     intro w4 hw'
     have B4:=hid (gw_below hw')
     clear hw' x0 x1 xt ct q1 q2 q3 q4
     go_wp2_with fail
     go_roundw
     case rel=>exact ⟨k+1,by omega,by go_num,by rw [HS.out],bnext Hbel.out B4.out⟩
     case measure=>first | (simp [intOf]; done) | (simp [intOf]; omega)
    ·obtain rfl:k=T:=by omega
     have t1:¬ (k:Int) < (k:Int):=by omega
     have ct:=HXt.out wb Hbel.out
     have HW1:=hid (show joinS (wTones f k)=joinS (pfxW f 0 0) by show _=joinS (wTones f f.tones.length); rw [HTl.out])
     rw [HW1.out]
     have BB:=hid Hbel.out
     clear Hbel HXt Kt HW0 HW1 BA HR
     go_wp2_with fail
     go_loopw [6,3] (fun i s wr=>∃ (b j:Nat),j < 4/\4*b+j<=16/\i=.int .i64 ((4*b+j:Nat):Int)/\s=.string (joinS (pfxW f b j))/\Below w1.heap.size w1 wr) (fun i _ _=>16 - (intOf i).toNat)
     case atStart=>exact ⟨0,0,by omega,by omega,rfl,rfl,BB.out⟩
     case round =>
      obtain ⟨b,j,hj,hbj,rfl,rfl,hbel⟩:=hrel
      have Hbel:=hid hbel
      clear hbel
      obtain ⟨wd,rfl⟩:∃ wd,wd=wr:=⟨_,rfl⟩
      obtain ⟨m,hm⟩:∃ m,4*b+j=m:=⟨_,rfl⟩
      rw [hm] at hbj ⊢
      by_cases hm16:m < 16
      ·have t1:(m:Int) < 16:=by omega
       have t2:(0:Int)<=(m:Int):=by omega
       have hb4:b < 4:=by omega
       have hrem:(m:Int).tmod 4=(j:Int):=by
        have:m % 4=j:=by omega
        rw [<-this]; rfl
       have hwr:IntKind.i64.wrap (j:Int)=(j:Int):=IntWalk.i64_in _ (by omega)
       have HE:=hid (show joinS (wBands f b ++ bandW f b (j+1))=joinS (wBands f b ++ bandW f b j) ++ ⟨#[32]⟩ ++ numS (bgt f.q m) by
        rw [bandW_step,hm,<-List.append_assoc,joinS_snoc (by simp [bandW])])
       have HNx:=hid (show joinS (if j+1=4 then pfxW f (b+1) 0 else pfxW f b (j+1))=joinS (wBands f b ++ bandW f b (j+1)) by rw [pfxW_next f b j hj])
       have hT5':=HTl.out
       have hsz:=HJ.out (wBands f b ++ bandW f b j) (fun x hx=>by
        rcases List.mem_append.1 hx with hx | hx
        ·exact wBands_small f b x hx
        ·exact bandW_small f b j x hx) (by rw [List.length_append,wBands_len HLl.out,bandW_len]; omega)
       have kQ:=hid (Kq.out m hm16)
       have HXm:=hid (fun W (hW:Below w1.heap.size w1 W)=>HXq.out W hW m hm16)
       have Hm:=hid hm
       have nq:=numS_size (bgt f.q m)
       by_cases hj0:j=0
       ·subst hj0
        have hquo:(m:Int).tdiv 4=(b:Int):=by
         have:m / 4=b:=by omega
         rw [<-this]; rfl
        have hwq:IntKind.i64.wrap (b:Int)=(b:Int):=IntWalk.i64_in _ (by omega)
        have u1:(((0:Nat):Int) == 0)=true:=rfl
        have u2:(b:Int) < 4:=by omega
        have u3:(0:Int)<=(b:Int):=by omega
        have HBj:=hid (show joinS (wBands f b ++ bandW f b 0)=joinS (pfxW f b 0) ++ ⟨#[32,98,97,110,100,32]⟩ ++ numS (bgt f.scale b) ++ ⟨#[32]⟩ ++ numS (bgt f.width b) by
         have e0:pfxW f b 0=wBands f b:=rfl
         have hne:wBands f b ≠ []:=fun e=>by
          have:=wBands_len HLl.out b
          rw [e,List.length_nil] at this
          omega
         rw [e0,band_join hne]
         simp [bandW])
        have hs2:=HJ.out (wBands f b) (wBands_small f b) (by rw [wBands_len HLl.out]; omega)
        have e0:joinS (pfxW f b 0)=joinS (wBands f b):=rfl
        rw [<-e0] at hs2
        have n1:=numS_size (bgt f.scale b)
        have n2:=numS_size (bgt f.width b)
        have kS:=hid (Ks.out b hb4)
        have kW:=hid (Kw.out b hb4)
        have x5:=fun (z:GW wd)=>HXs.out z.1 (bnext Hbel.out z.2) b hb4
        have x9:=fun (z:GW wd)=>HXw.out z.1 (bnext Hbel.out z.2) b hb4
        generalize joinS (wBands f b ++ bandW f b 0)=J0 at *
        generalize joinS (wBands f b ++ bandW f b (0+1))=J1 at *
        generalize joinS (pfxW f b 0)=S at *
        generalize bgt f.scale b=SC at *
        generalize bgt f.width b=WD at *
        generalize bgt f.q m=QV at *
        have q1:¬ 9223372036854775807 < S.size+6:=by omega
        have q2:¬ 9223372036854775807 < S.size+6+(numS SC).size:=by omega
        have q3:¬ 9223372036854775807 < S.size+6+(numS SC).size+1:=by omega
        have q4:¬ 9223372036854775807 < S.size+6+(numS SC).size+1+(numS WD).size:=by omega
        clear e0 hs2 n1 n2 hm
        go_wp2_with fail
        refine wp_region_calm (by kernel_rfl) (by kernel_rfl) ?_
        repeat (go_big_quiet_step (first | (go_at_call 17; exact calm_call (HC.out SC kS.out _)) | (go_at_call 17; exact calm_call (HC.out WD kW.out _))))
        refine wpQuiet_nil ?_
        intro w4 hw'
        have B4:=hid (gw_below hw')
        have zq:=HXm.out w4 (bnext Hbel.out B4.out)
        rw [<-HBj.out]
        have q5:¬ 9223372036854775807 < J0.size+1:=by omega
        have q6:¬ 9223372036854775807 < J0.size+1+(numS QV).size:=by omega
        clear hw' x5 x9 q1 q2 q3 q4
        go_wp2_with (go_at_call 80; refine (HN.out QV kQ.out _).mono ?_; rintro e w5 ⟨rfl,hb5⟩)
        go_roundw
        case rel =>
         by_cases hj3:0+1=4
         ·exact ⟨b+1,0,by omega,by have:=Hm.out; omega,by have:=Hm.out; rw [show 4*(b+1)+0=m+1 by omega]; go_num,by rw [<-HE.out,<-HNx.out,if_pos hj3],bnext (bnext Hbel.out B4.out) hb5⟩
         ·exact ⟨b,0+1,by omega,by have:=Hm.out; omega,by have:=Hm.out; rw [show 4*b+(0+1)=m+1 by omega]; go_num,by rw [<-HE.out,<-HNx.out,if_neg hj3],bnext (bnext Hbel.out B4.out) hb5⟩
        case measure=>first | (simp [intOf]; done) | (simp [intOf]; omega)
       ·have u1:((j:Int) == 0)=false:=beq_eq_false_iff_ne.2 (by omega)
        have e0:pfxW f b j=wBands f b ++ bandW f b j:=if_neg hj0
        rw [e0]
        generalize joinS (wBands f b ++ bandW f b j)=J0 at *
        generalize joinS (wBands f b ++ bandW f b (j+1))=J1 at *
        generalize bgt f.q m=QV at *
        have zq:=HXm.out wd Hbel.out
        have q5:¬ 9223372036854775807 < J0.size+1:=by omega
        have q6:¬ 9223372036854775807 < J0.size+1+(numS QV).size:=by omega
        clear e0 hm
        go_wp2_with (go_at_call 80; refine (HN.out QV kQ.out _).mono ?_; rintro e w5 ⟨rfl,hb5⟩)
        go_roundw
        case rel =>
         by_cases hj3:j+1=4
         ·exact ⟨b+1,0,by omega,by have:=Hm.out; omega,by have:=Hm.out; rw [show 4*(b+1)+0=m+1 by omega]; go_num,by rw [<-HE.out,<-HNx.out,if_pos hj3],bnext Hbel.out hb5⟩
         ·exact ⟨b,j+1,by omega,by have:=Hm.out; omega,by have:=Hm.out; rw [show 4*b+(j+1)=m+1 by omega]; go_num,by rw [<-HE.out,<-HNx.out,if_neg hj3],bnext Hbel.out hb5⟩
        case measure=>first | (simp [intOf]; done) | (simp [intOf]; omega)
      ·obtain rfl:m=16:=by omega
       obtain rfl:j=0:=by omega
       obtain rfl:b=4:=by omega
       have t1:¬ ((16:Nat):Int) < 16:=by omega
       have hsz:=HJ.out (pfxW f 4 0) (wBands_small f 4) (by show (wBands f 4).length<=100; rw [wBands_len HLl.out]; have:=HTl.out; omega)
       have hHF:=HF.out
       have e4:joinS (pfxW f 4 0)=joinS (wBands f 4):=rfl
       rw [<-e4] at hHF
       generalize joinS (pfxW f 4 0)=S at *
       have q1:¬ 9223372036854775807 < S.size+1:=by omega
       have HHF:=hid hHF
       clear hsz hHF e4 hm
       go_wp2_with fail
       go_ret
       exact ⟨by rw [HHF.out]; rfl,bnext B1.out Hbel.out⟩
end
section
open Go.RowKit Go.Lib
theorem listFrame_any (f:FrameV) (A0:Option Addr) (c0:Nat) (w:World) (h:f.told) (hr:Row w w.heap.size A0 (toneCells f.tones)) :
  Calls Tryz.prog 29 #[.agg (frameA f (.slice A0 f.tones.length c0))] w fun e w'=>e=.returned (.string (frameS f))/\Below w.heap.size w w':=by
 obtain ⟨hL,kg,kt,ks,kw,kq,hfew⟩:=h
 obtain ⟨i0,hi,hz0,hi1,hi2⟩:=info_parts inf_str
 have HC:=hid (fun (v:Int) (hv:InR v) (W:World)=>listCount_any v hv W)
 have HN:=hid (fun (v:Int) (hv:InR v) (W:World)=>sayNumber_any v hv W)
 have HF:=hid (show frameS f=rowS (wBands f 4) from rfl)
 have HZ:=hid (show sizesS (wBands f 4)<=1000000000 by
  have h1:=sizesS_le _ (wBands_small f 4)
  have h2:=wBands_len hL 4
  omega)
 have HL4:=hid (wBands_len hL 4)
 have hgl:(f.gains.map (Value.int .i64)).length=4:=by simp [hL.g]
 have HF4:=hid (show (Tryz.prog.info? 45).map (·.size)=some (f.gains.map (Value.int .i64)).length by rw [hgl]; exact inf_four)
 have HGi:=hid (fun (k:Nat) g (hg:f.gains[k]? = some g)=>(show ∀ W,(Instr.index 45 (.agg (f.gains.map (Value.int .i64)).toArray) (.int .i64 (k:Int))).run Tryz.prog W=.ok (.int .i64 g) W from fun W =>
  run_index_arr (P:=Tryz.prog) Tryz.underlying45 (by have:=(List.getElem?_eq_some_iff.1 hg).1; rw [hL.g] at this; exact this) Tryz.sizeOf3 Tryz.isAgg3 (by rw [List.getElem?_toArray,List.getElem?_map,hg]; rfl) W))
 obtain ⟨cs,hcs⟩:∃ cs,frameA f (.slice A0 f.tones.length c0)=cs:=⟨_,rfl⟩
 obtain ⟨w1,hw1⟩:∃ w1,w.alloc (.cells cs 50)=w1:=⟨_,rfl⟩
 have B1:=hid (show Below w.heap.size w w1 by rw [<-hw1]; exact bnew w _)
 have X1:=hid (show w1.heap[w.heap.size]? = some (.cells cs 50 (0,0)) by rw [<-hw1]; exact heap_alloc_new w _)
 have HXg:=hid (fun W (hW:Below w1.heap.size w1 W) j v (hv:(f.gains.map (Value.int .i64))[j]? = some v)=>(show W.cell? ⟨w.heap.size,0+j,none⟩=some v from (cell_of_row _ _ _ _ _ _ (hkeep X1.out hW)).trans (by rw [<-hcs]; exact frameA_gain hL _ hv)))
 have HXs:=hid (fun W (hW:Below w1.heap.size w1 W) (b:Nat) (hb:b < 4)=>(show W.cell? ⟨w.heap.size,5+b,none⟩=some (.int .i64 (bgt f.scale b)) from (cell_of_row _ _ _ _ _ _ (hkeep X1.out hW)).trans (by
  rw [<-hcs]
  obtain ⟨x,hx⟩:=list_get (k:=b) hL.s hb
  rw [bgt_get hx]
  exact frameA_scale hL _ (by rw [List.getElem?_map,hx]; rfl))))
 have HXw:=hid (fun W (hW:Below w1.heap.size w1 W) (b:Nat) (hb:b < 4)=>(show W.cell? ⟨w.heap.size,9+b,none⟩=some (.int .i64 (bgt f.width b)) from (cell_of_row _ _ _ _ _ _ (hkeep X1.out hW)).trans (by
  rw [<-hcs]
  obtain ⟨x,hx⟩:=list_get (k:=b) hL.w hb
  rw [bgt_get hx]
  exact frameA_width hL _ (by rw [List.getElem?_map,hx]; rfl))))
 have HXq:=hid (fun W (hW:Below w1.heap.size w1 W) (b:Nat) (hb:b < 16)=>(show W.cell? ⟨w.heap.size,13+b,none⟩=some (.int .i64 (bgt f.q b)) from (cell_of_row _ _ _ _ _ _ (hkeep X1.out hW)).trans (by
  rw [<-hcs]
  obtain ⟨x,hx⟩:=list_get (k:=b) hL.q hb
  rw [bgt_get hx]
  exact frameA_q hL _ (by rw [List.getElem?_map,hx]; rfl))))
 have HXt:=hid (fun W (hW:Below w1.heap.size w1 W)=>(show W.cell? ⟨w.heap.size,4,none⟩=some (.slice A0 f.tones.length c0) from (cell_of_row _ _ _ _ _ _ (hkeep X1.out hW)).trans (by rw [<-hcs]; exact frameA_tones hL _)))
 have HR:=hid hr
 have HLl:=hid hL
 have Kg:=hid (fun (k:Nat) g (hg:f.gains[k]? = some g)=>kg g (List.mem_of_getElem? hg))
 have Kt:=hid (fun (k:Nat) t (ht:f.tones[k]? = some t)=>kt t (List.mem_of_getElem? ht))
 have Ks:=hid (fun (b:Nat) (hb:b < 4)=>(show InR (bgt f.scale b) by obtain ⟨x,hx⟩:=list_get (k:=b) hL.s hb; rw [bgt_get hx]; exact ks x (List.mem_of_getElem? hx)))
 have Kw:=hid (fun (b:Nat) (hb:b < 4)=>(show InR (bgt f.width b) by obtain ⟨x,hx⟩:=list_get (k:=b) hL.w hb; rw [bgt_get hx]; exact kw x (List.mem_of_getElem? hx)))
 have Kq:=hid (fun (b:Nat) (hb:b < 16)=>(show InR (bgt f.q b) by obtain ⟨x,hx⟩:=list_get (k:=b) hL.q hb; rw [bgt_get hx]; exact kq x (List.mem_of_getElem? hx)))
 generalize frameS f=FS at *
 rw [hcs]
 clear hL kg kt ks kw kq hr hcs
 have hOw:=own_builtN w1 9 (strs [⟨#[103,97,105,110,115]⟩]) 1 rfl (by omega)
 obtain ⟨w2,hw2⟩:∃ w2,w1.alloc (.cells #[.string ⟨#[103,97,105,110,115]⟩] 9)=w2:=⟨_,rfl⟩
 have Own2:=hid (show w2.ownsRow w1.heap.size 9 1 (.slice (some ⟨w1.heap.size,0,none⟩) 1 1) 1 (strs (wGains f 0)) by rw [<-hw2]; exact hOw)
 have B2:=hid (show Below w1.heap.size w1 w2 by rw [<-hw2]; exact bnew w1 _)
 have HXg2:=hid (HXg.out w2 B2.out)
 clear hOw
 go_enter Tryz.func29,Tryz.ntmps29
 go_wp2_with (refine wpList_load_part_w rfl 45 (.tmp 12) rfl w.heap.size 0 rfl (f.gains.map (Value.int .i64)) _ HXg2.out Tryz.underlying45 rfl HF4.out ?_)
 generalize f.gains.map (Value.int .i64)=GV at *
 go_loopw [14,3] (fun i s wr=>∃ (k l c:Nat) (A:Option Addr),k<=4/\l=1+k/\i=.int .i64 k/\s=.slice A l c/\wr.ownsRow w1.heap.size 9 1 (.slice A l c) l (strs (wGains f k))/\Below w1.heap.size w1 wr) (fun i _ _=>4 - (intOf i).toNat)
 case atStart=>exact ⟨0,1,1,some ⟨w1.heap.size,0,none⟩,by omega,by omega,rfl,rfl,Own2.out,B2.out⟩
 case round =>
  obtain ⟨k,l,c,A,hk,hlk,rfl,rfl,hown,hbel⟩:=hrel
  have Own:=hid hown
  have Hbel:=hid hbel
  have Hge:=hid (own_block_ge hown)
  have Hlk:=hid hlk
  have hl5:l<=5:=by omega
  clear hown hbel hlk
  by_cases hk4:k < 4
  ·have t1:(k:Int) < 4:=by omega
   obtain ⟨g,hg⟩:=list_get (k:=k) HLl.out.g hk4
   have hix:=HGi.out k g hg
   have HS:=hid (wGains_step f hg)
   have hgi:=hid (Kg.out k g hg)
   clear hg
   go_wp2_with (go_at_call 82; fail)
   refine (HC.out g hgi.out _).mono ?_
   rintro e w5 ⟨rfl,hb5⟩
   have Own5:=hid (own_below Own.out hb5)
   have B5:=hid (bnext Hbel.out hb5)
   clear hb5 hix
   go_wp2_with (at_builtin; refine wpList_app _ rfl (.tmp 17) (.tmp 20) 162 rfl w1.heap.size 9 i0 (.string ⟨#[]⟩) 1 16 Tryz.underlying162 hi hz0 hi1 hi2 rfl (by omega) _ l _ rfl (Own5.out.alloc _) (w5.heap.size+1) (some ⟨w5.heap.size,0,none⟩) 1 1 [.string (numS g)] rfl rfl (Row.new w5 _ _) (fun u hu=>by simp at hu; subst hu; rfl) (by omega) (by omega) (by have:=B5.out.size; simp; omega) ?_; intro A2 cc w6 hown6 hgrow hat hcc)
   go_roundw
   case rel =>
    have hb6:Below w1.heap.size w1 w6:=(bnext B5.out (bnew w5 _)).grown hgrow (by have:=B5.out.size; simp; omega) (fun g h=>Hge.out g h)
    refine ⟨k+1,l+1,cc,A2,by omega,by have:=Hlk.out; omega,by go_num,rfl,?_,hb6⟩
    rw [HS.out]
    have e:strs (wGains f k ++ [numS g])=strs (wGains f k) ++ [.string (numS g)]:=by simp [strs]
    rw [e]
    exact hown6
   case measure=>first | (simp [intOf]; done) | (simp [intOf]; omega)
  ·obtain rfl:k=4:=by omega
   have t1:¬ ((4:Nat):Int) < 4:=by omega
   clear Own2 HXg2 B2 hw2 HXg HGi HF4 hgl Kg
   have ct:=HXt.out wr Hbel.out
   obtain ⟨T,hT⟩:∃ T,f.tones.length=T:=⟨_,rfl⟩
   rw [hT] at ct hfew HL4 HXt
   have HT:=hid hT
   have OwnA:=hid Own.out
   have BA:=hid Hbel.out
   have e50:=Hlk.out
   obtain rfl:l=5:=by omega
   have HW0:=hid (show strs (wTones f 0)=strs (wGains f 4) by simp [wTones])
   clear Own Hbel Hge hT e50 Hlk hl5
   go_wp2_with fail
   go_loopw [26,3] (fun i s wr=>∃ (k l c:Nat) (A:Option Addr),k<=T/\l=5+3*k/\i=.int .i64 k/\s=.slice A l c/\wr.ownsRow w1.heap.size 9 1 (.slice A l c) l (strs (wTones f k))/\Below w1.heap.size w1 wr) (fun i _ _=>T - (intOf i).toNat)
   case atStart=>exact ⟨0,5,c,A,by omega,by omega,rfl,rfl,by rw [HW0.out]; exact OwnA.out,BA.out⟩
   case round =>
    obtain ⟨k,l,c',A',hk,hlk,rfl,rfl,hown,hbel⟩:=hrel
    have Own:=hid hown
    have Hbel:=hid hbel
    have Hge:=hid (own_block_ge hown)
    have Hlk:=hid hlk
    have hl5:l<=20:=by omega
    clear hown hbel hlk
    obtain ⟨wb,rfl⟩:∃ wb,wb=wr:=⟨_,rfl⟩
    by_cases hkT:k < T
    ·have t1:(k:Int) < (T:Int):=by omega
     have t2:(0:Int)<=(k:Int):=by omega
     obtain ⟨t,ht⟩:=list_get (k:=k) HT.out hkT
     have hcell:∀ (j:Nat) x,t.cells[j]? = some x->(toneCells f.tones)[k*2+j]? = some x:=fun j x hx=>by
      unfold toneCells
      have hj:j < 2:=(List.getElem?_eq_some_iff.1 hx).1
      rw [flat_get 2 _ (fun cs hcs=>by obtain ⟨z,_,rfl⟩:=List.mem_map.1 hcs; rfl) k j hj]
      simp [ht,hx]
     have HRb:=(HR.out.later B1.out).later Hbel.out
     obtain ⟨bT,oT,rfl,hbT,hc0⟩:=HRb (k*2+0) _ (hcell 0 _ rfl)
     obtain ⟨bT',oT',hA',_,hc1⟩:=HRb (k*2+1) _ (hcell 1 _ rfl)
     injection hA' with hA'
     injection hA' with e1 e2
     subst e1 e2
     rw [<-Nat.add_assoc] at hc0 hc1
     rw [Nat.add_zero] at hc0
     have HS:=hid (wTones_step f ht)
     have hti:=hid (Kt.out k t ht)
     obtain ⟨ti,tv⟩:=t
     simp only at hti
     have HS2:=hid (show toneW ⟨ti,tv⟩=[⟨#[116,111,110,101]⟩,numS ti,numS tv] from rfl)
     have hc0:wb.cell? ⟨bT,oT+k*2,none⟩=some (.int .i64 ti):=hc0
     have hc1:wb.cell? ⟨bT,oT+k*2+1,none⟩=some (.int .i64 tv):=hc1
     obtain ⟨w3,hw3⟩:∃ w3,wb.alloc (.cells #[.int .i64 ti,.int .i64 tv] 169)=w3:=⟨_,rfl⟩
     have B3:=hid (show Below wb.heap.size wb w3 by rw [<-hw3]; exact bnew wb _)
     have X3:=hid (show Blk w3 wb.heap.size 169 [.int .i64 ti,.int .i64 tv] by rw [<-hw3]; exact Blk.new wb _ _)
     have Own3:=hid (own_below Own.out B3.out)
     have E3:=hid (bnext Hbel.out B3.out)
     have z0:w3.cell? ⟨wb.heap.size,0,none⟩=some (.int .i64 ti):=X3.out.cell 0
     have z1:w3.cell? ⟨wb.heap.size,1,none⟩=some (.int .i64 tv):=X3.out.cell 1
     have HX3:=hid (fun W (hW:Below w3.heap.size w3 W)=>(show W.cell? ⟨wb.heap.size,1,none⟩=some (.int .i64 tv) from (hW.cell (p:=⟨wb.heap.size,1,none⟩) X3.out.lt).trans (X3.out.cell 1)))
     clear ht hcell HRb hbT
     go_wp2_with fail
     go_region_law (first | (go_simp; go_at_call 82; refine (HC.out ti hti.out.1 _).mono ?_; rintro e wf ⟨rfl,hbf⟩; have Bf:=bnext (below_drew1 w3) hbf; have z2:=HX3.out wf Bf) | (go_simp; go_at_call 80; refine (HN.out tv hti.out.2 _).mono ?_; rintro e wt ⟨rfl,hbt⟩; have Bt:=bnext Bf hbt) | (refine step_app (by rfl) _ _ _ (by rfl) w1.heap.size 9 i0 (.string ⟨#[]⟩) 1 16 Tryz.underlying162 hi hz0 hi1 hi2 rfl (by omega) (.slice A' l c') l (strs (wTones f k)) (by rfl) (own_below Own3.out (bnext Bt (bnew _ _))) (wt.heap.size+1) (some ⟨wt.heap.size,0,none⟩) 3 3 [.string ⟨#[116,111,110,101]⟩,.string (numS ti),.string (numS tv)] (by rfl) (by rfl) (Row.new wt _ [.string ⟨#[116,111,110,101]⟩,.string (numS ti),.string (numS tv)]) (fun u hu=>by simp at hu; rcases hu with rfl | rfl | rfl <;> rfl) (by omega) (by omega) (by have:=Bt.size; have:=E3.out.size; simp; omega) ?_; intro A3 c3 w4 hown4 hgrow hat hcc))
     all_goals
      have hb4:Below w1.heap.size w1 w4:=(bnext (bnext E3.out Bt) (bnew wt _)).grown hgrow (by have:=E3.out.size; have:=Bt.size; simp; omega) (fun g h=>Hge.out g h)
      go_wp2
      go_roundw
      case rel =>
       refine ⟨k+1,l+3,c3,A3,by omega,by have:=Hlk.out; omega,by go_num,rfl,?_,hb4⟩
       rw [HS.out,HS2.out]
       have e:strs (wTones f k ++ [⟨#[116,111,110,101]⟩,numS ti,numS tv])=strs (wTones f k) ++ [.string ⟨#[116,111,110,101]⟩,.string (numS ti),.string (numS tv)]:=by simp [strs]
       rw [e]
       exact hown4
      case measure=>first | (simp [intOf]; done) | (simp [intOf]; omega)
    ·obtain rfl:k=T:=by omega
     have t1:¬ (k:Int) < (k:Int):=by omega
     have OwnB:=hid Own.out
     have BB:=hid Hbel.out
     have HLb:=hid Hlk.out
     clear Own Hbel Hge Hlk OwnA BA HW0 HXt Kt ct
     have HB0:=hid (show wBands f 0=wTones f k by show wTones f f.tones.length=_; rw [HT.out])
     have hT5:=hid hfew
     go_wp2_with fail
     go_loopw [40,3] (fun i s wr=>∃ (b l c:Nat) (A:Option Addr),b<=4/\l=5+3*k+7*b/\i=.int .i64 b/\s=.slice A l c/\wr.ownsRow w1.heap.size 9 1 (.slice A l c) l (strs (wBands f b))/\Below w1.heap.size w1 wr) (fun i _ _=>4 - (intOf i).toNat)
     case atStart=>exact ⟨0,l,c',A',by omega,by have:=HLb.out; omega,rfl,rfl,by rw [HB0.out]; exact OwnB.out,BB.out⟩
     case round =>
      obtain ⟨b,l2,c2,A2,hb,hlk,rfl,rfl,hown,hbel⟩:=hrel
      have Own:=hid hown
      have Hbel:=hid hbel
      have Hge:=hid (own_block_ge hown)
      have Hlk:=hid hlk
      have hl5:l2<=100:=by omega
      clear hown hbel hlk
      obtain ⟨wd,rfl⟩:∃ wd,wd=wr:=⟨_,rfl⟩
      by_cases hb4:b < 4
      ·have t1:(b:Int) < 4:=by omega
       have t2:(0:Int)<=(b:Int):=by omega
       have z0:=HXs.out wd Hbel.out b hb4
       have z1:=HXw.out wd Hbel.out b hb4
       have HXw2:=hid (fun W (hW:Below w1.heap.size w1 W)=>HXw.out W hW b hb4)
       have kS:=hid (Ks.out b hb4)
       have kW:=hid (Kw.out b hb4)
       have HBa:=hid (show bandW f b 0=[⟨#[98,97,110,100]⟩,numS (bgt f.scale b),numS (bgt f.width b)] by simp [bandW])
       have HBs:=hid (fun j=>bandW_step f b j)
       have HBe:=hid (show wBands f (b+1)=wBands f b ++ bandW f b 4 from rfl)
       obtain ⟨SC,hSC⟩:∃ SC,bgt f.scale b=SC:=⟨_,rfl⟩
       obtain ⟨WD,hWD⟩:∃ WD,bgt f.width b=WD:=⟨_,rfl⟩
       rw [hSC] at z0 kS HBa
       rw [hWD] at z1 HXw2 kW HBa
       clear hSC hWD
       go_wp2_with fail
       go_region_law (first | (go_simp; go_at_call 82; refine (HC.out SC kS.out _).mono ?_; rintro e wf ⟨rfl,hbf⟩; have Bf:=bnext (below_drew1 wd) hbf; have z2:=HXw2.out wf (bnext Hbel.out Bf)) | (go_simp; go_at_call 82; refine (HC.out WD kW.out _).mono ?_; rintro e wt ⟨rfl,hbt⟩; have Bt:=bnext Bf hbt) | (refine step_app (by rfl) _ _ _ (by rfl) w1.heap.size 9 i0 (.string ⟨#[]⟩) 1 16 Tryz.underlying162 hi hz0 hi1 hi2 rfl (by omega) (.slice A2 l2 c2) l2 (strs (wBands f b)) (by rfl) (own_below Own.out (bnext Bt (bnew _ _))) (wt.heap.size+1) (some ⟨wt.heap.size,0,none⟩) 3 3 [.string ⟨#[98,97,110,100]⟩,.string (numS SC),.string (numS WD)] (by rfl) (by rfl) (Row.new wt _ [.string ⟨#[98,97,110,100]⟩,.string (numS SC),.string (numS WD)]) (fun u hu=>by simp at hu; rcases hu with rfl | rfl | rfl <;> rfl) (by omega) (by omega) (by have:=Bt.size; have:=Hbel.out.size; simp; omega) ?_; intro A3 c3 w4 hown4 hgrow hat hcc))
       all_goals
        have B4:=hid (show Below w1.heap.size w1 w4 from (bnext (bnext Hbel.out Bt) (bnew wt _)).grown hgrow (by have:=Hbel.out.size; have:=Bt.size; simp; omega) (fun g h=>Hge.out g h))
        have Own4:=hid (show w4.ownsRow w1.heap.size 9 1 (.slice A3 (l2+3) c3) (l2+3) (strs (wBands f b ++ bandW f b 0)) by
         rw [HBa.out]
         have e:strs (wBands f b ++ [⟨#[98,97,110,100]⟩,numS SC,numS WD])=strs (wBands f b) ++ [.string ⟨#[98,97,110,100]⟩,.string (numS SC),.string (numS WD)]:=by simp [strs]
         rw [e]
         exact hown4)
        obtain ⟨Q,hQ⟩:∃ Q,4*b=Q:=⟨_,rfl⟩
        have hQ16:Q+4<=16:=by omega
        have q1:(b:Int)*4=(Q:Int):=by omega
        have q2:((b:Int)+1)*4=(Q:Int)+4:=by omega
        have q3:IntKind.i64.wrap (Q:Int)=(Q:Int):=IntWalk.i64_in _ (by omega)
        have q4:IntKind.i64.wrap ((Q:Int)+4)=(Q:Int)+4:=IntWalk.i64_in _ (by omega)
        have q5:IntKind.i64.wrap ((b:Int)+1)=(b:Int)+1:=IntWalk.i64_in _ (by omega)
        have q6:(Q:Int)+4<=16:=by omega
        have q7:(0:Int)<=(Q:Int):=by omega
        have q8:(Q:Int)<=(Q:Int)+4:=by omega
        have HQ:=hid hQ
        clear hown4 hgrow hat hcc hQ z0 z1 z2
        go_wp2_with fail
        rw [show Q+4 - Q=4 by omega]
        go_loopw [64,3] (fun i s wr=>∃ (j l c:Nat) (A:Option Addr),j<=4/\l=l2+3+j/\i=.int .i64 j/\s=.slice A l c/\wr.ownsRow w1.heap.size 9 1 (.slice A l c) l (strs (wBands f b ++ bandW f b j))/\Below w1.heap.size w1 wr) (fun i _ _=>4 - (intOf i).toNat)
        case atStart=>exact ⟨0,l2+3,c3,A3,by omega,by omega,rfl,rfl,Own4.out,B4.out⟩
        case round =>
         obtain ⟨j,l5,c5,A5,hj,hlk5,rfl,rfl,hown5,hbel5⟩:=hrel
         have Own5:=hid hown5
         have Hbel5:=hid hbel5
         have Hge5:=hid (own_block_ge hown5)
         have Hlk5:=hid hlk5
         have hl55:l5<=110:=by omega
         clear hown5 hbel5 hlk5
         obtain ⟨we,rfl⟩:∃ we,we=wr:=⟨_,rfl⟩
         by_cases hj4:j < 4
         ·have v1:(j:Int) < 4:=by omega
          have v2:(0:Int)<=(j:Int):=by omega
          have zq:=HXq.out we Hbel5.out (Q+j) (by omega)
          have kQ:=hid (Kq.out (Q+j) (by omega))
          have HS5:=hid (HBs.out j)
          rw [HQ.out] at HS5
          rw [<-Nat.add_assoc] at zq
          generalize bgt f.q (Q+j)=QV at *
          go_wp2_with (go_at_call 80; fail)
          refine (HN.out QV kQ.out _).mono ?_
          rintro e w5 ⟨rfl,hb5⟩
          have Own6:=hid (own_below Own5.out hb5)
          have B5:=hid (bnext Hbel5.out hb5)
          clear hb5 zq
          go_wp2_with (at_builtin; refine wpList_app _ rfl (.tmp 68) (.tmp 71) 162 rfl w1.heap.size 9 i0 (.string ⟨#[]⟩) 1 16 Tryz.underlying162 hi hz0 hi1 hi2 rfl (by omega) _ l5 _ rfl (Own6.out.alloc _) (w5.heap.size+1) (some ⟨w5.heap.size,0,none⟩) 1 1 [.string (numS QV)] rfl rfl (Row.new w5 _ _) (fun u hu=>by simp at hu; subst hu; rfl) (by omega) (by omega) (by have:=B5.out.size; simp; omega) ?_; intro A7 cc w6 hown6 hgrow hat hcc)
          go_roundw
          case rel =>
           have hb6:Below w1.heap.size w1 w6:=(bnext B5.out (bnew w5 _)).grown hgrow (by have:=B5.out.size; simp; omega) (fun g h=>Hge5.out g h)
           refine ⟨j+1,l5+1,cc,A7,by omega,by have:=Hlk5.out; omega,by go_num,rfl,?_,hb6⟩
           rw [HS5.out]
           have e:strs (wBands f b ++ (bandW f b j ++ [numS QV]))=strs (wBands f b ++ bandW f b j) ++ [.string (numS QV)]:=by simp [strs]
           rw [e]
           exact hown6
          case measure=>first | (simp [intOf]; done) | (simp [intOf]; omega)
         ·obtain rfl:j=4:=by omega
          have v1:¬ ((4:Nat):Int) < 4:=by omega
          go_wp2_with fail
          go_roundw
          case rel=>exact ⟨b+1,l5,c5,A5,by omega,by have:=Hlk5.out; have:=Hlk.out; omega,by go_num,rfl,by rw [HBe.out]; exact Own5.out,Hbel5.out⟩
          case measure=>first | (simp [intOf]; done) | (simp [intOf]; omega)
      ·obtain rfl:b=4:=by omega
       have t1:¬ ((4:Nat):Int) < 4:=by omega
       have hl2:l2=5+3*k+28:=by have:=Hlk.out; omega
       obtain ⟨g,rfl⟩:∃ g,A2=some ⟨g,0,none⟩:=by
        rcases Own.out.2 with ⟨_,h0⟩ | ⟨g,cap',cur,h,_⟩
        ·omega
        ·injection h with h; exact ⟨g,h⟩
       have hle:(wBands f 4).length=l2:=by have:=HL4.out; omega
       have hcap:l2<=c2:=by
        rcases Own.out.2 with ⟨_,h0⟩ | ⟨g',cap',cur,h,_,_,hc,_⟩
        ·omega
        ·injection h with _ _ h; omega
       have HRw:=hid (show Calls Tryz.prog 83 #[.slice (some ⟨g,0,none⟩) l2 c2] wd _ from by
        have h:=listRow_any (wBands f 4) g 0 c2 wd (Row.of_own Own.out) (by omega) (by omega) (by omega) HZ.out
        rw [hle] at h
        exact h)
       clear hl2 hle hcap
       go_wp2_with (go_at_call 83; refine HRw.out.mono ?_; rintro e w9 ⟨rfl,hb9⟩)
       go_ret
       exact ⟨by rw [HF.out]; rfl,bnext B1.out (bnext Hbel.out hb9)⟩
end
end Go.Proofs.YtnbbfblaipjcmaaGreatDoor
