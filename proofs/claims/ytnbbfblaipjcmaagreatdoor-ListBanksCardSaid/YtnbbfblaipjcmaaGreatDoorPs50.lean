/- ListC, ListD, ListE. Conditions: as each theorem states. -/
import Derived.Deep.RegionWith
import Derived.Test.YtnbbfblaipjcmaaGreatDoorPs04
import Derived.Test.YtnbbfblaipjcmaaGreatDoorPs49
import Derived.Test.YtnbbfblaipjcmaaGreatDoorPs43
import Derived.Test.YtnbbfblaipjcmaaGreatDoorPs39
set_option maxRecDepth 100000
set_option maxHeartbeats 4000000
namespace Go.Proofs.YtnbbfblaipjcmaaGreatDoor
section
open Go.RowKit Go.Lib
theorem listCount_any (v:Int) (hv:-9223372036854775808<=v/\v<=9223372036854775807) (w:World):Calls Tryz.prog 82 #[.int .i64 v] w fun e w'=>e=.returned (.string (numS v))/\Below w.heap.size w w':=by
 have HN:=Lib.hid (sayNumber_any v hv w)
 go_enter Tryz.func82,Tryz.ntmps82
 go_wp2_with (go_at_call 80; refine HN.out.mono ?_; rintro e w2 ⟨rfl,hb⟩)
 go_ret
 exact ⟨rfl,hb⟩
theorem lawCount31_any (v:Int) (hv:-9223372036854775808<=v/\v<=9223372036854775807) (w:World):Calls Tryz.prog 17 #[.int .i64 v] w fun e w'=>e=.returned (.string (numS v))/\Below w.heap.size w w':=by
 have HN:=Lib.hid (sayNumber_any v hv w)
 go_enter Tryz.func17,Tryz.ntmps17
 go_wp2_with (go_at_call 80; refine HN.out.mono ?_; rintro e w2 ⟨rfl,hb⟩)
 go_ret
 exact ⟨rfl,hb⟩
def joinS (xs:List ByteArray):ByteArray:=⟨(Lib.join (xs.map (·.data.toList)) [32]).toArray⟩
def rowS (xs:List ByteArray):ByteArray:=joinS xs ++ ⟨#[10]⟩
def sizesS (xs:List ByteArray):Nat:=(xs.map fun x=>x.size+1).sum
theorem joinS_size:∀ (xs:List ByteArray),(Lib.join (xs.map (·.data.toList)) [32]).length<=sizesS xs
 | []=>Nat.le_refl _
 | x :: r=>by
  rw [List.map_cons,join_length,List.length_map]
  unfold sizesS
  have h:∀ (l:List ByteArray),Lib.lens (l.map (·.data.toList))+l.length=(l.map fun x=>x.size+1).sum:=by
   intro l
   induction l with
   | nil=>rfl
   | cons y t ih =>
    rw [List.map_cons,List.map_cons,List.sum_cons,<-ih,List.length_cons]
    show (y.data.toList.length+Lib.lens _)+_=_
    have e:y.data.toList.length=y.size:=by simp
    omega
  have h1:=h (x :: r)
  rw [List.map_cons,List.length_cons] at h1
  simp only [List.length_cons,List.length_nil]
  omega
def strs (xs:List ByteArray):List Value:=xs.map Value.string
theorem listRow_any (xs:List ByteArray) (bk o c:Nat) (w:World) (hr:Row w w.heap.size (some ⟨bk,o,none⟩) (strs xs)) (h0:0 < xs.length) (hN:xs.length<=1000000) (hc:xs.length<=c) (hz:sizesS xs<=1000000000) :
  Calls Tryz.prog 83 #[.slice (some ⟨bk,o,none⟩) xs.length c] w fun e w'=>e=.returned (.string (rowS xs))/\Below w.heap.size w w':=by
 have hjz:=joinS_size xs
 have hcell:∀ (j:Nat) x,xs[j]? = some x->w.cell? ⟨bk,o+j,none⟩=some (.string x)/\bk < w.heap.size:=fun j x hx=>by
  obtain ⟨b,o',hA,hb,hc⟩:=hr j (.string x) (by unfold strs; rw [List.getElem?_map,hx]; rfl)
  injection hA with hA
  injection hA with e1 e2
  subst e1 e2
  exact ⟨hc,hb⟩
 obtain ⟨x0,hx0⟩:∃ x0,xs[0]? = some x0:=⟨_,List.getElem?_eq_getElem h0⟩
 have HJ:=Lib.hid (show Calls Tryz.prog 136 #[.slice (some ⟨bk,o,none⟩) xs.length c,.string ⟨#[32]⟩] w fun e w'=>e=.returned (.string (joinS xs))/\Below w.heap.size w w' from strings_Join bk o c xs ⟨#[32]⟩ w (fun j x hx=>(hcell j x hx).1) (hcell 0 x0 hx0).2 (by omega) hc (by show (Lib.join _ [32]).length<=_; omega))
 have HR:=Lib.hid (show rowS xs=joinS xs ++ ⟨#[10]⟩ from rfl)
 have hs:(joinS xs).size=(Lib.join (xs.map (·.data.toList)) [32]).length:=by
  show (Lib.join (xs.map (·.data.toList)) [32]).toArray.size=_
  simp
 have hz2:¬ 9223372036854775807 < (joinS xs).size+1:=by omega
 generalize joinS xs=J at *
 generalize rowS xs=R at *
 generalize xs.length=n at *
 clear hcell hx0 hr hs hjz
 go_enter Tryz.func83,Tryz.ntmps83
 go_wp2_with (go_at_call 136; refine HJ.out.mono ?_; rintro e w2 ⟨rfl,hb⟩)
 go_ret
 exact ⟨by rw [HR.out]; rfl,hb⟩
end
section
open Go.RowKit Go.Lib
def InR (v:Int):Prop:=-9223372036854775808<=v/\v<=9223372036854775807
structure MetaV.told (x:MetaV):Prop where
 name:x.name.size<=1000
 length:InR x.length
 rate:InR x.rate
 channels:InR x.channels
 from_:InR x.from_
 to_:InR x.to_
 first:InR x.first
def loopW (lp:Bool) (f t:Int):List ByteArray:=if lp then [⟨#[108,111,111,112]⟩,numS f,numS t] else []
def metaW (x:MetaV):List ByteArray:=([wordS x.name,⟨#[108,101,110,103,116,104]⟩,numS x.length,⟨#[114,97,116,101]⟩,numS x.rate,⟨#[99,104,97,110,110,101,108,115]⟩,numS x.channels] ++ loopW x.loop x.from_ x.to_) ++ [⟨#[97,116]⟩,numS x.first]
def metaS (x:MetaV):ByteArray:=rowS (metaW x)
theorem sizesS_app (a b:List ByteArray):sizesS (a ++ b)=sizesS a+sizesS b:=by simp [sizesS]
theorem metaW_size {x:MetaV} (h:x.name.size<=1000):sizesS (metaW x)<=1000000:=by
 have h1:=wordS_size x.name
 have h2:=numS_size x.length
 have h3:=numS_size x.rate
 have h4:=numS_size x.channels
 have h5:=numS_size x.from_
 have h6:=numS_size x.to_
 have h7:=numS_size x.first
 unfold metaW
 rw [sizesS_app,sizesS_app]
 have e2:sizesS (loopW x.loop x.from_ x.to_)<=100:=by
  unfold loopW
  split
  ·simp only [sizesS,List.map_cons,List.map_nil,List.sum_cons,List.sum_nil]
   show 4+1+_<=_
   omega
  ·exact Nat.zero_le _
 have e1:sizesS [wordS x.name,⟨#[108,101,110,103,116,104]⟩,numS x.length,⟨#[114,97,116,101]⟩,numS x.rate,⟨#[99,104,97,110,110,101,108,115]⟩,numS x.channels]<=10000:=by
  simp only [sizesS,List.map_cons,List.map_nil,List.sum_cons,List.sum_nil]
  show _+1+(6+1+(_+1+(4+1+(_+1+(8+1+(_+1+0))))))<=_
  omega
 have e3:sizesS [⟨#[97,116]⟩,numS x.first]<=100:=by
  simp only [sizesS,List.map_cons,List.map_nil,List.sum_cons,List.sum_nil]
  show 2+1+_<=_
  omega
 omega
theorem own_builtN (w:World) (e:TypeId) (xs:List Value) (n:Nat) (hn:xs.length=n) (hm:n<=9223372036854775807):(w.alloc (.cells xs.toArray e)).ownsRow w.heap.size e 1 (.slice (some ⟨w.heap.size,0,none⟩) n n) n xs :=
 ⟨by omega,.inr ⟨w.heap.size,n,xs.toArray,rfl,Nat.le_refl _,heap_alloc_new w _,Nat.le_refl _,hm,by rw [List.size_toArray]; omega,by rw [List.toList_toArray]; exact List.take_of_length_le (by omega)⟩⟩
theorem listMeta_any (x:MetaV) (h:x.told) (w:World):Calls Tryz.prog 18 #[.agg x.cells.toArray] w fun e w'=>e=.returned (.string (metaS x))/\Below w.heap.size w w':=by
 have HZ:=hid (metaW_size h.name)
 obtain ⟨nm,len,rate,ch,lp,f,t,sums,first⟩:=x
 obtain ⟨k0,k1,k2,k3,k4,k5,k6⟩:=h
 simp only at k0 k1 k2 k3 k4 k5 k6
 obtain ⟨i0,hi,hz0,hi1,hi2⟩:=info_parts inf_str
 have HC:=hid (fun (v:Int) (hv:InR v) (W:World)=>listCount_any v hv W)
 have HWd:=hid (fun (W:World)=>sayWord_any nm (by omega) W)
 have HF:=hid (show metaS ⟨nm,len,rate,ch,lp,f,t,sums,first⟩=rowS (metaW ⟨nm,len,rate,ch,lp,f,t,sums,first⟩) from rfl)
 have HMW:=hid (show metaW ⟨nm,len,rate,ch,lp,f,t,sums,first⟩=([wordS nm,⟨#[108,101,110,103,116,104]⟩,numS len,⟨#[114,97,116,101]⟩,numS rate,⟨#[99,104,97,110,110,101,108,115]⟩,numS ch] ++ loopW lp f t) ++ [⟨#[97,116]⟩,numS first] from rfl)
 obtain ⟨w1,hw1⟩:∃ w1,w.alloc (.cells #[.string nm,.int .i64 len,.int .i64 rate,.int .i64 ch,.bool lp,.int .i64 f,.int .i64 t,.int .i64 sums,.int .i64 first] 37)=w1:=⟨_,rfl⟩
 have B1:=hid (show Below w.heap.size w w1 by rw [<-hw1]; exact bnew w _)
 have X1:=hid (show Blk w1 w.heap.size 37 [.string nm,.int .i64 len,.int .i64 rate,.int .i64 ch,.bool lp,.int .i64 f,.int .i64 t,.int .i64 sums,.int .i64 first] by rw [<-hw1]; exact Blk.new w _ _)
 have x0:=fun (z:GW w1)=>(show z.1.cell? ⟨w.heap.size,0,none⟩=some (.string nm) from (z.2.cell (p:=⟨w.heap.size,0,none⟩) X1.out.lt).trans (X1.out.cell 0))
 have x1:=fun (z:GW w1)=>(show z.1.cell? ⟨w.heap.size,1,none⟩=some (.int .i64 len) from (z.2.cell (p:=⟨w.heap.size,1,none⟩) X1.out.lt).trans (X1.out.cell 1))
 have x2:=fun (z:GW w1)=>(show z.1.cell? ⟨w.heap.size,2,none⟩=some (.int .i64 rate) from (z.2.cell (p:=⟨w.heap.size,2,none⟩) X1.out.lt).trans (X1.out.cell 2))
 have x3:=fun (z:GW w1)=>(show z.1.cell? ⟨w.heap.size,3,none⟩=some (.int .i64 ch) from (z.2.cell (p:=⟨w.heap.size,3,none⟩) X1.out.lt).trans (X1.out.cell 3))
 generalize metaW ⟨nm,len,rate,ch,lp,f,t,sums,first⟩=MW at *
 generalize metaS ⟨nm,len,rate,ch,lp,f,t,sums,first⟩=MS at *
 show Calls Tryz.prog 18 #[.agg #[.string nm,.int .i64 len,.int .i64 rate,.int .i64 ch,.bool lp,.int .i64 f,.int .i64 t,.int .i64 sums,.int .i64 first]] w _
 go_enter Tryz.func18,Tryz.ntmps18
 go_wp2_with fail
 refine wp_region_calm_tail 12 (by kernel_rfl) (by kernel_rfl) ?_
 simp only [List.take_succ_cons,List.take_zero,List.drop_succ_cons,List.drop_zero]
 repeat (go_big_quiet_step (first | (go_at_call 81; exact calm_call (HWd.out _)) | (go_at_call 82; exact calm_call (HC.out _ (by assumption) _))))
 refine wpQuiet_nil ?_
 intro w2 hw'
 have B2:=hid (gw_below hw')
 clear hw' x0 x1 x2 x3 hw1
 have hOw:=own_builtN w2 9 (strs [wordS nm,⟨#[108,101,110,103,116,104]⟩,numS len,⟨#[114,97,116,101]⟩,numS rate,⟨#[99,104,97,110,110,101,108,115]⟩,numS ch]) 7 rfl (by omega)
 obtain ⟨w3,hw3⟩:∃ w3,w2.alloc (.cells #[.string (wordS nm),.string ⟨#[108,101,110,103,116,104]⟩,.string (numS len),.string ⟨#[114,97,116,101]⟩,.string (numS rate),.string ⟨#[99,104,97,110,110,101,108,115]⟩,.string (numS ch)] 9)=w3:=⟨_,rfl⟩
 have hOw:w3.ownsRow w2.heap.size 9 1 (.slice (some ⟨w2.heap.size,0,none⟩) 7 7) 7 (strs [wordS nm,⟨#[108,101,110,103,116,104]⟩,numS len,⟨#[114,97,116,101]⟩,numS rate,⟨#[99,104,97,110,110,101,108,115]⟩,numS ch]):=by rw [<-hw3]; exact hOw
 have B3:=hid (show Below w1.heap.size w1 w3 by rw [<-hw3]; exact bnext B2.out (bnew w2 _))
 have Own3:=hid hOw
 have X3:=hid (X1.out.below B3.out X1.out.lt)
 have Z3:=hid (show w2.heap.size<=w3.heap.size by rw [<-hw3]; simp)
 have c4:w3.cell? ⟨w.heap.size,4,none⟩=some (.bool lp):=X3.out.cell 4
 clear hOw
 have HL7:=hid (show [wordS nm,⟨#[108,101,110,103,116,104]⟩,numS len,⟨#[114,97,116,101]⟩,numS rate,⟨#[99,104,97,110,110,101,108,115]⟩,numS ch].length=7 from rfl)
 generalize [wordS nm,⟨#[108,101,110,103,116,104]⟩,numS len,⟨#[114,97,116,101]⟩,numS rate,⟨#[99,104,97,110,110,101,108,115]⟩,numS ch]=L7 at *
 cases lp with
 | false =>
  have c8:w3.cell? ⟨w.heap.size,8,none⟩=some (.int .i64 first):=X3.out.cell 8
  go_wp2_with (go_at_call 82; fail)
  refine (HC.out first k6 _).mono ?_
  rintro e w5 ⟨rfl,hb5⟩
  have Own5:=hid (own_below Own3.out hb5)
  have B5:=hid (bnext B3.out hb5)
  have Z5:=hid (show w2.heap.size<=w5.heap.size by have:=hb5.size; have:=Z3.out; omega)
  clear hb5 c8
  go_wp2_with (first | (at_builtin; refine wpList_app _ rfl (.tmp 28) (.tmp 32) 162 rfl w2.heap.size 9 i0 (.string ⟨#[]⟩) 1 16 Tryz.underlying162 hi hz0 hi1 hi2 rfl (by omega) (.slice (some ⟨w2.heap.size,0,none⟩) 7 7) 7 _ rfl (Own5.out.alloc _) (w5.heap.size+1) (some ⟨w5.heap.size,0,none⟩) 2 2 [.string ⟨#[97,116]⟩,.string (numS first)] rfl rfl (Row.new w5 _ _) (fun u hu=>by simp at hu; rcases hu with rfl | rfl <;> rfl) (by omega) (by omega) (by have:=Z5.out; simp; omega) ?_; intro A2 cc w6 hown6 hgrow hat hcc) | (go_at_call 83; fail))
  have hb6:Below w1.heap.size w1 w6:=(bnext B5.out (bnew w5 _)).grown hgrow (by have:=B5.out.size; simp; omega) (fun g h=>by have:=own_block_ge Own3.out g h; have:=B2.out.size; omega)
  obtain ⟨g,rfl⟩:∃ g,A2=some ⟨g,0,none⟩:=by
   rcases hown6.2 with ⟨_,h0⟩ | ⟨g,cap',cur,h,_⟩
   ·omega
   ·injection h with h; exact ⟨g,h⟩
  have HRw:=hid (show Calls Tryz.prog 83 #[.slice (some ⟨g,0,none⟩) (7+2) cc] w6 _ from by
   have h:=listRow_any MW g 0 cc w6 (by rw [HMW.out,show strs ((L7 ++ loopW false f t) ++ [⟨#[97,116]⟩,numS first])=strs L7 ++ [.string ⟨#[97,116]⟩,.string (numS first)] by simp [strs,loopW]]; exact Row.of_own hown6) (by rw [HMW.out]; simp [loopW]) (by rw [HMW.out]; simp [loopW,HL7.out]) (by rw [HMW.out]; simpa [loopW,HL7.out] using hcc) (by have:=HZ.out; omega)
   have e:MW.length=7+2:=by rw [HMW.out]; simp [loopW,HL7.out]
   rw [e] at h
   exact h)
  clear hown6 hgrow hat hcc
  refine HRw.out.mono ?_
  rintro e w7 ⟨rfl,hb7⟩
  go_wp2_with fail
  go_ret
  exact ⟨by rw [HF.out]; rfl,bnext B1.out (bnext hb6 hb7)⟩
 | true =>
  have HX3:=hid (fun W (hW:Below w3.heap.size w3 W) (k:Nat) v (hk:([.string nm,.int .i64 len,.int .i64 rate,.int .i64 ch,.bool true,.int .i64 f,.int .i64 t,.int .i64 sums,.int .i64 first]:List Value)[k]? = some v)=>(show W.cell? ⟨w.heap.size,k,none⟩=some v from (hW.cell (p:=⟨w.heap.size,k,none⟩) X3.out.lt).trans ((X3.out.cell k).trans hk)))
  have d5:w3.cell? ⟨w.heap.size,5,none⟩=some (.int .i64 f):=X3.out.cell 5
  have d6:w3.cell? ⟨w.heap.size,6,none⟩=some (.int .i64 t):=X3.out.cell 6
  go_wp2_with fail
  go_region_law (first | (go_simp; go_at_call 82; refine (HC.out f k4 _).mono ?_; rintro e wf ⟨rfl,hbf⟩; have Bf:=bnext (below_drew1 w3) hbf; have z6:=HX3.out wf Bf 6 _ rfl) | (go_simp; go_at_call 82; refine (HC.out t k5 _).mono ?_; rintro e wt ⟨rfl,hbt⟩; have Bt:=bnext Bf hbt) | (refine step_app (by rfl) _ _ _ (by rfl) w2.heap.size 9 i0 (.string ⟨#[]⟩) 1 16 Tryz.underlying162 hi hz0 hi1 hi2 rfl (by omega) (.slice (some ⟨w2.heap.size,0,none⟩) 7 7) 7 (strs L7) (by rfl) (own_below Own3.out (bnext Bt (bnew _ _))) (wt.heap.size+1) (some ⟨wt.heap.size,0,none⟩) 3 3 [.string ⟨#[108,111,111,112]⟩,.string (numS f),.string (numS t)] (by rfl) (by rfl) (Row.new wt _ [.string ⟨#[108,111,111,112]⟩,.string (numS f),.string (numS t)]) (fun u hu=>by simp at hu; rcases hu with rfl | rfl | rfl <;> rfl) (by omega) (by omega) (by have:=Bt.size; have:=Z3.out; simp; omega) ?_; intro A3 c3 w4 hown4 hgrow hat hcc))
  all_goals
   obtain ⟨g3,rfl⟩:∃ g,A3=some ⟨g,0,none⟩:=by
    rcases hown4.2 with ⟨_,h0⟩ | ⟨g,cap',cur,h,_⟩
    ·omega
    ·injection h with h; exact ⟨g,h⟩
   obtain ⟨L10,hL10⟩:∃ L,L7 ++ loopW true f t=L:=⟨_,rfl⟩
   have HL10:=hid hL10
   have Own4:=hid (show w4.ownsRow w2.heap.size 9 1 (.slice (some ⟨g3,0,none⟩) 10 c3) 10 (strs L10) by
    rw [<-hL10,show strs (L7 ++ loopW true f t)=strs L7 ++ [.string ⟨#[108,111,111,112]⟩,.string (numS f),.string (numS t)] by simp [strs,loopW]]
    exact hown4)
   have B4:=hid (show Below w1.heap.size w1 w4 from (bnext (bnext B3.out Bt) (bnew wt _)).grown hgrow (by have:=B3.out.size; have:=Bt.size; simp; omega) (fun g h=>by have:=own_block_ge Own3.out g h; have:=B2.out.size; omega))
   have X4:=hid (X1.out.below B4.out X1.out.lt)
   have Z4:=hid (show w2.heap.size<=w4.heap.size by have:=own_basis1 Own4.out (g:=g3) rfl; omega)
   clear hown4 hgrow hat hcc hL10 d5 d6
   have c8:w4.cell? ⟨w.heap.size,8,none⟩=some (.int .i64 first):=X4.out.cell 8
   go_wp2_with (go_at_call 82; fail)
   refine (HC.out first k6 _).mono ?_
   rintro e w5 ⟨rfl,hb5⟩
   have Own5:=hid (own_below Own4.out hb5)
   have B5:=hid (bnext B4.out hb5)
   have Z5:=hid (show w2.heap.size<=w5.heap.size by have:=hb5.size; have:=Z4.out; omega)
   clear hb5 c8
   go_wp2_with (first | (at_builtin; refine wpList_app _ rfl (.tmp 28) (.tmp 32) 162 rfl w2.heap.size 9 i0 (.string ⟨#[]⟩) 1 16 Tryz.underlying162 hi hz0 hi1 hi2 rfl (by omega) (.slice (some ⟨g3,0,none⟩) 10 c3) 10 _ rfl (Own5.out.alloc _) (w5.heap.size+1) (some ⟨w5.heap.size,0,none⟩) 2 2 [.string ⟨#[97,116]⟩,.string (numS first)] rfl rfl (Row.new w5 _ _) (fun u hu=>by simp at hu; rcases hu with rfl | rfl <;> rfl) (by omega) (by omega) (by have:=Z5.out; simp; omega) ?_; intro A2 cc w6 hown6 hgrow hat hcc) | (go_at_call 83; fail))
   have hb6:Below w1.heap.size w1 w6:=(bnext B5.out (bnew w5 _)).grown hgrow (by have:=B5.out.size; simp; omega) (fun g h=>by have:=own_block_ge Own4.out g h; have:=B2.out.size; omega)
   obtain ⟨g,rfl⟩:∃ g,A2=some ⟨g,0,none⟩:=by
    rcases hown6.2 with ⟨_,h0⟩ | ⟨g,cap',cur,h,_⟩
    ·omega
    ·injection h with h; exact ⟨g,h⟩
   have HRw:=hid (show Calls Tryz.prog 83 #[.slice (some ⟨g,0,none⟩) (10+2) cc] w6 _ from by
    have h:=listRow_any MW g 0 cc w6 (by rw [HMW.out,show strs ((L7 ++ loopW true f t) ++ [⟨#[97,116]⟩,numS first])=strs L10 ++ [.string ⟨#[97,116]⟩,.string (numS first)] by rw [<-HL10.out]; simp [strs,loopW]]; exact Row.of_own hown6) (by rw [HMW.out]; simp [loopW]) (by rw [HMW.out]; simp [loopW,HL7.out]) (by rw [HMW.out]; simpa [loopW,HL7.out] using hcc) (by have:=HZ.out; omega)
    have e:MW.length=10+2:=by rw [HMW.out]; simp [loopW,HL7.out]
    rw [e] at h
    exact h)
   clear hown6 hgrow hat hcc
   refine HRw.out.mono ?_
   rintro e w7 ⟨rfl,hb7⟩
   go_wp2_with fail
   go_ret
   exact ⟨by rw [HF.out]; rfl,bnext B1.out (bnext hb6 hb7)⟩
end
section
open Go.RowKit Go.Lib
theorem bytes_ext {a b:ByteArray} (h:a.data.toList=b.data.toList):a=b:=by
 cases a with | mk a=>cases b with | mk b=>exact congrArg ByteArray.mk (Array.toList_inj.1 h)
theorem bytes_app (a b:ByteArray):(a ++ b).data.toList=a.data.toList ++ b.data.toList:=by simp
theorem rowS_list (xs:List ByteArray):(rowS xs).data.toList=Lib.join (xs.map (·.data.toList)) [32] ++ [10]:=by
 unfold rowS joinS
 rw [bytes_app]
def lawS (nm:ByteArray) (len rate ch:Int) (lp:Bool) (f t first:Int):ByteArray :=
 let s:=wordS nm ++ ⟨#[32,108,101,110,103,116,104,32]⟩ ++ numS len ++ ⟨#[32,114,97,116,101,32]⟩ ++ numS rate ++ ⟨#[32,99,104,97,110,110,101,108,115,32]⟩ ++ numS ch
 let s2:=if lp then s ++ ⟨#[32,108,111,111,112,32]⟩ ++ numS f ++ ⟨#[32]⟩ ++ numS t else s
 s2 ++ ⟨#[32,97,116,32]⟩ ++ numS first ++ ⟨#[10]⟩
theorem lawS_eq (nm:ByteArray) (len rate ch:Int) (lp:Bool) (f t sums first:Int):lawS nm len rate ch lp f t first=metaS ⟨nm,len,rate,ch,lp,f,t,sums,first⟩:=by
 apply bytes_ext
 unfold metaS
 rw [rowS_list]
 cases lp
 ·simp [lawS,metaW,loopW,Lib.join,List.intercalate]
 ·simp [lawS,metaW,loopW,Lib.join,List.intercalate]
theorem lawMeta31_any (x:MetaV) (h:x.told) (w:World):Calls Tryz.prog 19 #[.agg x.cells.toArray] w fun e w'=>e=.returned (.string (metaS x))/\Below w.heap.size w w':=by
 obtain ⟨nm,len,rate,ch,lp,f,t,sums,first⟩:=x
 obtain ⟨k0,k1,k2,k3,k4,k5,k6⟩:=h
 simp only at k0 k1 k2 k3 k4 k5 k6
 have hS:=wordS_size nm
 have s1:=numS_size len
 have s2:=numS_size rate
 have s3:=numS_size ch
 have s4:=numS_size f
 have s5:=numS_size t
 have s6:=numS_size first
 have HC:=hid (fun (v:Int) (hv:InR v) (W:World)=>lawCount31_any v hv W)
 have HWd:=hid (fun (W:World)=>sayWord_any nm (by omega) W)
 have HF:=hid (lawS_eq nm len rate ch lp f t sums first)
 obtain ⟨w1,hw1⟩:∃ w1,w.alloc (.cells #[.string nm,.int .i64 len,.int .i64 rate,.int .i64 ch,.bool lp,.int .i64 f,.int .i64 t,.int .i64 sums,.int .i64 first] 37)=w1:=⟨_,rfl⟩
 have B1:=hid (show Below w.heap.size w w1 by rw [<-hw1]; exact bnew w _)
 have X1:=hid (show Blk w1 w.heap.size 37 [.string nm,.int .i64 len,.int .i64 rate,.int .i64 ch,.bool lp,.int .i64 f,.int .i64 t,.int .i64 sums,.int .i64 first] by rw [<-hw1]; exact Blk.new w _ _)
 have x0:=fun (z:GW w1)=>(show z.1.cell? ⟨w.heap.size,0,none⟩=some (.string nm) from (z.2.cell (p:=⟨w.heap.size,0,none⟩) X1.out.lt).trans (X1.out.cell 0))
 have x1:=fun (z:GW w1)=>(show z.1.cell? ⟨w.heap.size,1,none⟩=some (.int .i64 len) from (z.2.cell (p:=⟨w.heap.size,1,none⟩) X1.out.lt).trans (X1.out.cell 1))
 have x2:=fun (z:GW w1)=>(show z.1.cell? ⟨w.heap.size,2,none⟩=some (.int .i64 rate) from (z.2.cell (p:=⟨w.heap.size,2,none⟩) X1.out.lt).trans (X1.out.cell 2))
 have x3:=fun (z:GW w1)=>(show z.1.cell? ⟨w.heap.size,3,none⟩=some (.int .i64 ch) from (z.2.cell (p:=⟨w.heap.size,3,none⟩) X1.out.lt).trans (X1.out.cell 3))
 generalize metaS ⟨nm,len,rate,ch,lp,f,t,sums,first⟩=MS at *
 show Calls Tryz.prog 19 #[.agg #[.string nm,.int .i64 len,.int .i64 rate,.int .i64 ch,.bool lp,.int .i64 f,.int .i64 t,.int .i64 sums,.int .i64 first]] w _
 unfold lawS at HF
 have HZ:=hid (show (wordS nm).size<=10000/\(numS len).size<=22/\(numS rate).size<=22/\(numS ch).size<=22/\(numS f).size<=22/\(numS t).size<=22/\(numS first).size<=22 from ⟨by omega,s1,s2,s3,s4,s5,s6⟩)
 have q1:¬ 9223372036854775807 < (wordS nm).size+8:=by have:=HZ.out; omega
 have q2:¬ 9223372036854775807 < (wordS nm).size+8+(numS len).size:=by have:=HZ.out; omega
 have q3:¬ 9223372036854775807 < (wordS nm).size+8+(numS len).size+6:=by have:=HZ.out; omega
 have q4:¬ 9223372036854775807 < (wordS nm).size+8+(numS len).size+6+(numS rate).size:=by have:=HZ.out; omega
 have q5:¬ 9223372036854775807 < (wordS nm).size+8+(numS len).size+6+(numS rate).size+10:=by have:=HZ.out; omega
 have q6:¬ 9223372036854775807 < (wordS nm).size+8+(numS len).size+6+(numS rate).size+10+(numS ch).size:=by have:=HZ.out; omega
 clear hS s1 s2 s3 s4 s5 s6 k0
 go_enter Tryz.func19,Tryz.ntmps19
 go_wp2_with fail
 refine wp_region_calm (by kernel_rfl) (by kernel_rfl) ?_
 repeat (go_big_quiet_step (first | (go_at_call 81; exact calm_call (HWd.out _)) | (go_at_call 17; exact calm_call (HC.out _ (by assumption) _))))
 refine wpQuiet_nil ?_
 intro w2 hw'
 have B2:=hid (gw_below hw')
 have X2:=hid (X1.out.below B2.out X1.out.lt)
 clear hw' x0 x1 x2 x3 hw1 q1 q2 q3 q4 q5 q6
 have c4:w2.cell? ⟨w.heap.size,4,none⟩=some (.bool lp):=X2.out.cell 4
 obtain ⟨S,hS⟩:∃ S,wordS nm ++ ⟨#[32,108,101,110,103,116,104,32]⟩ ++ numS len ++ ⟨#[32,114,97,116,101,32]⟩ ++ numS rate ++ ⟨#[32,99,104,97,110,110,101,108,115,32]⟩ ++ numS ch=S:=⟨_,rfl⟩
 have hSz:S.size<=20000:=by
  have:=HZ.out
  rw [<-hS]
  simp only [ByteArray.size_append]
  show _+8+_+6+_+10+_<=_
  omega
 rw [hS] at HF
 have hSz2:=HZ.out
 rw [hS]
 clear hS
 cases lp with
 | false =>
  have c8:w2.cell? ⟨w.heap.size,8,none⟩=some (.int .i64 first):=X2.out.cell 8
  have HG:=hid (show S ++ ⟨#[32,97,116,32]⟩ ++ numS first ++ ⟨#[10]⟩=MS from HF.out)
  have q1:¬ 9223372036854775807 < S.size+4:=by omega
  have q2:¬ 9223372036854775807 < S.size+4+(numS first).size:=by omega
  have q3:¬ 9223372036854775807 < S.size+4+(numS first).size+1:=by omega
  clear hSz hSz2 HF
  go_wp2_with (go_at_call 17; refine (HC.out first k6 _).mono ?_; rintro e w3 ⟨rfl,hb3⟩)
  go_ret
  exact ⟨by rw [<-HG.out]; rfl,bnext B1.out (bnext B2.out hb3)⟩
 | true =>
  have x5:=fun (z:GW w2)=>(show z.1.cell? ⟨w.heap.size,5,none⟩=some (.int .i64 f) from (z.2.cell (p:=⟨w.heap.size,5,none⟩) X2.out.lt).trans (X2.out.cell 5))
  have x6:=fun (z:GW w2)=>(show z.1.cell? ⟨w.heap.size,6,none⟩=some (.int .i64 t) from (z.2.cell (p:=⟨w.heap.size,6,none⟩) X2.out.lt).trans (X2.out.cell 6))
  have q1:¬ 9223372036854775807 < S.size+6:=by omega
  have q2:¬ 9223372036854775807 < S.size+6+(numS f).size:=by omega
  have q3:¬ 9223372036854775807 < S.size+6+(numS f).size+1:=by omega
  have q4:¬ 9223372036854775807 < S.size+6+(numS f).size+1+(numS t).size:=by omega
  have HG:=hid (show (S ++ ⟨#[32,108,111,111,112,32]⟩ ++ numS f ++ ⟨#[32]⟩ ++ numS t) ++ ⟨#[32,97,116,32]⟩ ++ numS first ++ ⟨#[10]⟩=MS from HF.out)
  have HS:=hid hSz
  have HS2:=hid hSz2
  clear hSz hSz2 HF c4
  have c4:w2.cell? ⟨w.heap.size,4,none⟩=some (.bool true):=X2.out.cell 4
  go_wp2_with fail
  refine wp_region_calm (by kernel_rfl) (by kernel_rfl) ?_
  repeat (go_big_quiet_step ((go_at_call 17; exact calm_call (HC.out _ (by assumption) _))))
  refine wpQuiet_nil ?_
  intro w4 hw'
  have B4:=hid (bnext B2.out (gw_below hw'))
  have X4:=hid (X1.out.below B4.out X1.out.lt)
  have c8:w4.cell? ⟨w.heap.size,8,none⟩=some (.int .i64 first):=X4.out.cell 8
  obtain ⟨T,hT⟩:∃ T,S ++ ⟨#[32,108,111,111,112,32]⟩ ++ numS f ++ ⟨#[32]⟩ ++ numS t=T:=⟨_,rfl⟩
  have hTz:T.size<=30000:=by
   have:=HS.out
   have:=HS2.out
   rw [<-hT]
   simp only [ByteArray.size_append]
   show _+6+_+1+_<=_
   omega
  rw [hT] at HG ⊢
  have hz2:=HS2.out
  clear hw' x5 x6 q1 q2 q3 q4 hT c4
  have q1:¬ 9223372036854775807 < T.size+4:=by omega
  have q2:¬ 9223372036854775807 < T.size+4+(numS first).size:=by omega
  have q3:¬ 9223372036854775807 < T.size+4+(numS first).size+1:=by omega
  clear hTz hz2
  go_wp2_with (go_at_call 17; refine (HC.out first k6 _).mono ?_; rintro e w5 ⟨rfl,hb5⟩)
  go_ret
  exact ⟨by rw [<-HG.out]; rfl,bnext B1.out (bnext B4.out hb5)⟩
end
end Go.Proofs.YtnbbfblaipjcmaaGreatDoor
