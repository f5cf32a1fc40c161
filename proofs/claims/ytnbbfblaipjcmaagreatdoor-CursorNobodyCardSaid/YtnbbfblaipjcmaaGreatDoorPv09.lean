/- KitA, KitB, KitC, KitD, KitE, WaveE, WaveF. Conditions: as each theorem states. -/
import Derived.Handy
import Derived.Test.YtnbbfblaipjcmaaGreatDoorPv04
import Derived.Test.YtnbbfblaipjcmaaGreatDoorPv01
import Derived.Test.YtnbbfblaipjcmaaGreatDoorPv02
import Derived.Test.YtnbbfblaipjcmaaGreatDoorPv03
import Derived.Test.YtnbbfblaipjcmaaGreatDoorPv08
namespace Go.Proofs.YtnbbfblaipjcmaaGreatDoor
section
open Go.RowKit
end
section
open Go.RowKit
end
section
open Go.RowKit
end
section
open Go.RowKit
end
section
open Go.RowKit
theorem aCZ:(Tryz.prog.info? 3).map (fun i=>(i.zero,i.size,i.bytes))=some (some (.int .i64 0),1,8):=by kernel_rfl
theorem cS {w w':World} {base:Nat} {e:TypeId} {size n:Nat} {v:Value} {xs:List Value} (h:w.ownsRow base e size v n xs) (hb:Below w.heap.size w w'):w'.ownsRow base e size v n xs:=by
 obtain ⟨h1,h2⟩:=h
 refine ⟨h1,?_⟩
 rcases h2 with h2 | ⟨g,cap,cur,hv,hg,hh,r⟩
 ·exact .inl h2
 ·have hlt:g < w.heap.size:=by
   rcases Nat.lt_or_ge g w.heap.size with h | h
   ·exact h
   ·rw [Array.getElem?_eq_none h] at hh; cases hh
  exact .inr ⟨g,cap,cur,hv,hg,(hb.block g hlt).trans hh,r⟩
theorem sW {w:World} {base:Nat} {e:TypeId} {size n c:Nat} {A:Option Addr} {xs:List Value} (h:w.ownsRow base e size (.slice A n c) n xs):n<=c:=by
 obtain ⟨A',c',h1,h2,_⟩:=iL h
 injection h1 with _ _ h3
 omega
end
section
open Go.RowKit
set_option maxRecDepth 100000 in
set_option maxHeartbeats 2000000 in
theorem aAT (nm:ByteArray) (rate:Int) (lp:Bool) (f t:Int) (a:Option Addr) (cap:Nat) (vs:List Value) (rows:List (List Int)) (w:World) (R:Nat) (hR:rows.length=R) (hr:Row w w.heap.size a vs) (hm:RowsAt w w.heap.size vs rows) :
  Calls Tryz.prog 68 #[.agg #[.string nm,.int .i64 rate,.bool lp,.int .i64 f,.int .i64 t,.slice a R cap]] w
   fun e w'=>e=.returned (.agg #[.string nm,.int .i64 (dV rows),.int .i64 rate,.int .i64 R,.bool lp,.int .i64 f,.int .i64 t,.int .i64 0,.int .i64 0])/\Below w.heap.size w w':=by
 have HR:=Lib.hid hR
 have Hr:=Lib.hid hr
 have Hm:=Lib.hid hm
 clear hR hr hm
 go_enter Tryz.func68,Tryz.ntmps68
 go_wp2
 have hb1:=(Blk.new w 138 [.string nm,.int .i64 rate,.bool lp,.int .i64 f,.int .i64 t,.slice a R cap]).alloc (.cells #[.string ⟨#[]⟩,.int .i64 0,.int .i64 0,.int .i64 0,.bool false,.int .i64 0,.int .i64 0,.int .i64 0,.int .i64 0] 37)
 have hb2:=Blk.new2 w (.cells #[.string nm,.int .i64 rate,.bool lp,.int .i64 f,.int .i64 t,.slice a R cap] 138) 37 [.string ⟨#[]⟩,.int .i64 0,.int .i64 0,.int .i64 0,.bool false,.int .i64 0,.int .i64 0,.int .i64 0,.int .i64 0]
 have hW:Below w.heap.size w ((w.alloc (.cells #[.string nm,.int .i64 rate,.bool lp,.int .i64 f,.int .i64 t,.slice a R cap] 138)).alloc (.cells #[.string ⟨#[]⟩,.int .i64 0,.int .i64 0,.int .i64 0,.bool false,.int .i64 0,.int .i64 0,.int .i64 0,.int .i64 0] 37)):=(aL _ _).alloc (by simp) _
 have hx:=jY hb1
 refine aI 16 (by kernel_rfl) (by kernel_rfl) ?_
 simp only [List.take_succ_cons,List.take_zero,List.drop_succ_cons,List.drop_zero]
 repeat (go_big_quiet_step (first | (go_at_call 121; rename_i x; exact bZ (uG _ _ _ _ _ _ _ vs rows _ R HR.out (Hr.out.later (aC hW x.2)) (Hm.out.later (aC hW x.2))))))
 refine wpQuiet_nil ?_
 intro w5 hw'
 have hb5:=aK hw'
 clear hw'
 have hb5':=Lib.hid (aC hW hb5)
 have hz:w.heap.size+1 < w5.heap.size:=by have:=hb5.size; simp at this; omega
 have ce:=aG (hb2.below hb5 (by simp))
 have fz:=lW (hb2.below hb5 (by simp))
 clear hx hb1 hb2 hW hb5
 go_wp2
 refine bodyPost_ret (v:=.agg #[.string nm,.int .i64 (dV rows),.int .i64 rate,.int .i64 R,.bool lp,.int .i64 f,.int .i64 t,.int .i64 0,.int .i64 0]) (by simp [results,Tryz.results68,go_sem,ce]) rfl ?_
 refine ⟨rfl,?_⟩
 repeat (refine Below.setCell ?_ (by simp) _)
 exact hb5'.out
end
section
open Go.RowKit
theorem sA {nm:ByteArray} {rate:Int} {lp:Bool} {f t:Int} {rows:List (List Int)} (h:jE nm rate lp f t rows=0) :
  MetaV.right ⟨nm,dV rows,rate,rows.length,lp,f,t,0,0⟩=true:=by
 unfold jE at h
 cases h1:dK nm
 ·simp [h1] at h
 ·by_cases h2:rate < 1\/192000 < rate
  ·simp [h1,h2] at h
  ·by_cases h3:rows.length < 1\/2 < rows.length\/dV rows < 1\/1048576 < dV rows
   ·rw [if_neg (by simp [h1]),if_neg h2,if_pos h3] at h; omega
   ·cases h4:kM lp f t (dV rows)
    ·rw [if_neg (by simp [h1]),if_neg h2,if_neg h3,if_pos h4] at h; omega
    ·unfold MetaV.right
     simp only [h1,h4,Bool.true_and,Bool.and_true,Bool.and_eq_true,Bool.or_eq_true,decide_eq_true_eq]
     omega
end
end Go.Proofs.YtnbbfblaipjcmaaGreatDoor
