/- RtC. Conditions: as each theorem states. -/
import Derived.Test.YtnbbfblaipjcmaaGreatDoorPu22
import Derived.Test.YtnbbfblaipjcmaaGreatDoorPu28
namespace Go.Proofs.YtnbbfblaipjcmaaGreatDoor
open Go.Lib (hid)
open Go.RowKit
abbrev toneTy:Ty:=.pair (.int .i64) 1 (.pair (.int .i64) 1 .unit)
abbrev frTy:Ty:=.pair (tyRep (.int .i64) 1 4) 4 (.pair (.slice 2 toneTy) 1 (.pair (tyRep (.int .i64) 1 4) 4 (.pair (tyRep (.int .i64) 1 4) 4 (.pair (tyRep (.int .i64) 1 16) 16 .unit))))
def NilTight (p:FrH × FrameV):Prop:=p.1.a=none->p.1.c=0
def fewF (f:FrameV):FrameV:=⟨f.gains,f.tones.take 5,f.scale,f.width,f.q⟩
theorem fewF_A {f:FrameV} (h:f.Len) (tv tv':Value):(frameA f tv).setIfInBounds 4 tv'=frameA (fewF f) tv':=by
 obtain ⟨gg,ts,sc,wd,q⟩:=f
 have hg:=h.g
 simp only at hg
 match gg,hg with
 | [a,b,c,d],_=>rfl
set_option maxRecDepth 100000 in
set_option maxHeartbeats 2000000 in
theorem Few10_any (f:FrameV) (A:Option Addr) (c:Nat) (w:World) (h:f.Len) (hlen:f.tones.length<=c) (hc63:c<=9223372036854775807) (hA:A=none->c=0) :
  Calls Tryz.prog 28 #[.agg (frameA f (.slice A f.tones.length c))] w fun e w'=>e=.returned (.agg (frameA (fewF f) (.slice A (fewF f).tones.length c)))/\Below w.heap.size w w':=by
 have hfl:(fewF f).tones.length=min 5 f.tones.length:=by show (f.tones.take 5).length=_; rw [List.length_take]
 have hzz:=frameA_size h (.slice A f.tones.length c)
 have hof:=frameA_one f (tv:=.slice A f.tones.length c) rfl
 have htv:=frameA_tones h (.slice A f.tones.length c)
 have hset:=fewF_A h (.slice A f.tones.length c) (.slice A (fewF f).tones.length c)
 have hofw:=frameA_one (fewF f) (tv:=.slice A (fewF f).tones.length c) rfl
 have hzw:(frameA (fewF f) (.slice A (fewF f).tones.length c)).size=29:=frameA_size (f:=fewF f) ⟨h.g,h.s,h.w,h.q⟩ _
 obtain ⟨n,hn⟩:∃ n,f.tones.length=n:=⟨_,rfl⟩
 have hsame:n<=5->frameA (fewF f) (.slice A (fewF f).tones.length c)=frameA f (.slice A n c):=fun h5=>by
  rw [hfl,hn,show min 5 n=n by omega]; rfl
 rw [hn] at hfl hzz hof htv hset hlen ⊢
 obtain ⟨k,hk⟩:∃ k,(fewF f).tones.length=k:=⟨_,rfl⟩
 rw [hk] at hfl hset hofw hzw hsame ⊢
 obtain ⟨fc,hfc⟩:∃ fc,frameA f (.slice A n c)=fc:=⟨_,rfl⟩
 rw [hfc] at hzz hof htv hset hsame ⊢
 obtain ⟨fk,hfk⟩:∃ fk,frameA (fewF f) (.slice A k c)=fk:=⟨_,rfl⟩
 rw [hfk] at hset hofw hzw hsame ⊢
 have H2:=hid (heap2 w (.cells fc 50) (.cells #[Value.int .i64 0,Value.int .i64 0,Value.int .i64 0,Value.int .i64 0,Value.slice none 0 0,Value.int .i64 0,Value.int .i64 0,Value.int .i64 0,Value.int .i64 0,Value.int .i64 0,Value.int .i64 0,Value.int .i64 0,Value.int .i64 0,Value.int .i64 0,Value.int .i64 0,Value.int .i64 0,Value.int .i64 0,Value.int .i64 0,Value.int .i64 0,Value.int .i64 0,Value.int .i64 0,Value.int .i64 0,Value.int .i64 0,Value.int .i64 0,Value.int .i64 0,Value.int .i64 0,Value.int .i64 0,Value.int .i64 0,Value.int .i64 0] 50))
 have HFf:=hid (show (Tryz.prog.info? 50).map (·.size)=some fc.size by rw [hzz]; exact inf_frame)
 have HFk:=hid (show (Tryz.prog.info? 50).map (·.size)=some fk.size by rw [hzw]; exact inf_frame)
 have c4:((w.alloc (.cells fc 50)).alloc (.cells #[Value.int .i64 0,Value.int .i64 0,Value.int .i64 0,Value.int .i64 0,Value.slice none 0 0,Value.int .i64 0,Value.int .i64 0,Value.int .i64 0,Value.int .i64 0,Value.int .i64 0,Value.int .i64 0,Value.int .i64 0,Value.int .i64 0,Value.int .i64 0,Value.int .i64 0,Value.int .i64 0,Value.int .i64 0,Value.int .i64 0,Value.int .i64 0,Value.int .i64 0,Value.int .i64 0,Value.int .i64 0,Value.int .i64 0,Value.int .i64 0,Value.int .i64 0,Value.int .i64 0,Value.int .i64 0,Value.int .i64 0,Value.int .i64 0] 50)).cell? ⟨w.heap.size,4,none⟩=some (.slice A n c):=(cell_of_row _ _ 4 _ _ _ H2.out.1).trans htv
 have z4:((w.alloc (.cells fc 50)).alloc (.cells #[Value.int .i64 0,Value.int .i64 0,Value.int .i64 0,Value.int .i64 0,Value.slice none 0 0,Value.int .i64 0,Value.int .i64 0,Value.int .i64 0,Value.int .i64 0,Value.int .i64 0,Value.int .i64 0,Value.int .i64 0,Value.int .i64 0,Value.int .i64 0,Value.int .i64 0,Value.int .i64 0,Value.int .i64 0,Value.int .i64 0,Value.int .i64 0,Value.int .i64 0,Value.int .i64 0,Value.int .i64 0,Value.int .i64 0,Value.int .i64 0,Value.int .i64 0,Value.int .i64 0,Value.int .i64 0,Value.int .i64 0,Value.int .i64 0] 50)).frozen? ⟨w.heap.size,4,none⟩=false:=frozen_of_row _ _ 4 _ _ H2.out.1
 have Hzz:=hid hzz
 have Hzw:=hid hzw
 have Hof:=hid hof
 have Hofw:=hid hofw
 clear hzz hzw hof hofw htv hfc hfk hn hk
 by_cases h5:5 < n
 ·have t1:(5:Int) < (n:Int):=by omega
  have t2:(5:Int)<=(c:Int):=by omega
  have hk5:k=5:=by omega
  subst hk5
  obtain ⟨ad,rfl⟩:∃ ad,A=some ad:=by
   cases A with
   | none=>have:=hA rfl; omega
   | some ad=>exact ⟨ad,rfl⟩
  have HS:=hid (heap2 w (.cells fk 50) (.cells #[Value.int .i64 0,Value.int .i64 0,Value.int .i64 0,Value.int .i64 0,Value.slice none 0 0,Value.int .i64 0,Value.int .i64 0,Value.int .i64 0,Value.int .i64 0,Value.int .i64 0,Value.int .i64 0,Value.int .i64 0,Value.int .i64 0,Value.int .i64 0,Value.int .i64 0,Value.int .i64 0,Value.int .i64 0,Value.int .i64 0,Value.int .i64 0,Value.int .i64 0,Value.int .i64 0,Value.int .i64 0,Value.int .i64 0,Value.int .i64 0,Value.int .i64 0,Value.int .i64 0,Value.int .i64 0,Value.int .i64 0,Value.int .i64 0] 50))
  clear hsame hA hfl
  go_enter Tryz.func28,Tryz.ntmps28
  go_wp2_with (first | (refine wpList_load_row_w rfl 50 (.tmp 1) rfl w.heap.size rfl _ fk _ _ HS.out.1 Tryz.underlying50 rfl HFk.out ?_) | (refine wpList_store_row_w rfl 50 (.tmp 2) (.tmp 11) rfl (w.heap.size+1) rfl _ _ fk rfl HS.out.2.1 HFk.out (by rw [Hzw.out]; rfl) Hofw.out ?_))
  refine bodyPost_ret (v:=.agg fk) (results_cell_row Tryz.results28 _ _ (w.heap.size+1) 50 fk (0,0) _ rfl (setRow_heap _ _ _ _ _ _ HS.out.2.1) Tryz.underlying50 rfl HFk.out) rfl ?_
  exact ⟨rfl,setRow_below HS.out.2.2.2 _ (by omega) _⟩
 ·have t1:¬ ((5:Int) < (n:Int)):=by omega
  have hk5:fk=fc:=hsame (by omega)
  subst hk5
  clear hset hsame hA hfl
  go_enter Tryz.func28,Tryz.ntmps28
  go_wp2_with (first | (refine wpList_load_row_w rfl 50 (.tmp 1) rfl w.heap.size rfl _ fk _ _ H2.out.1 Tryz.underlying50 rfl HFk.out ?_) | (refine wpList_store_row_w rfl 50 (.tmp 2) (.tmp 11) rfl (w.heap.size+1) rfl _ _ fk rfl H2.out.2.1 HFk.out (by rw [Hzw.out]; rfl) Hofw.out ?_))
  refine bodyPost_ret (v:=.agg fk) (results_cell_row Tryz.results28 _ _ (w.heap.size+1) 50 fk (0,0) _ rfl (setRow_heap _ _ _ _ _ _ H2.out.2.1) Tryz.underlying50 rfl HFk.out) rfl ?_
  exact ⟨rfl,setRow_below H2.out.2.2.2 _ (by omega) _⟩
end Go.Proofs.YtnbbfblaipjcmaaGreatDoor
