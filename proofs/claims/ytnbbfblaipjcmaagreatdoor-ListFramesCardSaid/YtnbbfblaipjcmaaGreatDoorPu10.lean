/- WaveD. Conditions: as each theorem states. -/
import Derived.Handy
import Derived.Test.YtnbbfblaipjcmaaGreatDoorPu03
namespace Go.Proofs.YtnbbfblaipjcmaaGreatDoor
open Go.Lib (hid)
open Go.RowKit
def FewPost (W:World) (B:Nat) (rate:Int) (lp:Bool) (f t:Int) (e:Ending) (w':World):Prop :=
 ∃ (nm:ByteArray) (a:Option Addr) (cap:Nat) (vs:List Value) (rows:List (List Int)),e=.returned (.agg #[.string nm,.int .i64 rate,.bool lp,.int .i64 f,.int .i64 t,.slice a rows.length cap]) /\
  nm.size<=100/\rows.length<=4/\rows.length<=cap/\cap<=9223372036854775807/\(∀ r ∈ rows,r.length<=150)/\Row w' w'.heap.size a vs/\(∀ ad,a=some ad->W.heap.size<=ad.block)/\RowsAt w' B vs rows/\Below W.heap.size W w'
theorem inf_rows:(Tryz.prog.info? 86).map (fun i=>(i.zero,i.size,i.bytes))=some (some (.slice none 0 0),1,24):=by kernel_rfl
set_option maxRecDepth 100000 in
set_option maxHeartbeats 2000000 in
theorem Few_any (nm:ByteArray) (rate:Int) (lp:Bool) (f t:Int) (a:Option Addr) (cap:Nat) (vs:List Value) (rows:List (List Int)) (w:World) (hs:nm.size<=9223372036854775807) (B:Nat) (hB:B<=w.heap.size) (hr:Row w B a vs) (hm:RowsAt w B vs rows) :
  Calls Tryz.prog 130 #[.agg #[.string nm,.int .i64 rate,.bool lp,.int .i64 f,.int .i64 t,.slice a rows.length cap]] w (FewPost w B rate lp f t):=by
 obtain ⟨i0,hi,hz0,hz1,hz2⟩:=info_parts inf_rows
 obtain ⟨R,hR⟩:∃ R,rows.length=R:=⟨_,rfl⟩
 rw [hR]
 have HR:=hid hR
 have Hr:=hid hr
 have Hm:=hid hm
 clear hR hr hm
 have hdd:(100 < nm.size/\decide ((100:Int) < (nm.size:Int))=true)\/(¬ 100 < nm.size/\decide ((100:Int) < (nm.size:Int))=false):=by
  by_cases h:100 < nm.size
  ·exact .inl ⟨h,decide_eq_true (by omega)⟩
  ·exact .inr ⟨h,decide_eq_false (by omega)⟩
 rcases hdd with ⟨hnm,hd⟩ | ⟨hnm,hd⟩
 all_goals
  go_enter Tryz.func130,Tryz.ntmps130
  go_wp2
  have Hnm:=hid hnm
  clear hnm
  go_loopw [3,4] (fun d i wr=>∃ (k:Nat) (nm':ByteArray) (vsk:List Value) (rowsk:List (List Int)) (A:Option Addr) (c:Nat),k<=4/\k<=R/\i=.int .i64 k/\d=.slice A k c/\k<=c/\c<=9223372036854775807/\wr.ownsRow (w.heap.size+2) 86 1 (.slice A k c) k vsk /\
    rowsk.length=k/\(∀ r ∈ rowsk,r.length<=150)/\RowsAt w B vsk rowsk/\nm'.size<=100 /\
    Blk wr w.heap.size 138 [.string nm',.int .i64 rate,.bool lp,.int .i64 f,.int .i64 t,.slice a R cap] /\
    Blk wr (w.heap.size+1) 138 [.string ⟨#[]⟩,.int .i64 0,.bool false,.int .i64 0,.int .i64 0,.slice none 0 0]/\Below w.heap.size w wr/\w.heap.size+2<=wr.heap.size)
   (fun _ i _=>4 - (intOf i).toNat)
  case atStart =>
   refine ⟨0,_,[],[],none,0,by omega,Nat.zero_le _,rfl,rfl,Nat.le_refl _,by omega,World.ownsRow_nil _ _ _ _,rfl,fun r h=>by simp at h,⟨rfl,fun i v xs h=>by simp at h⟩,?_,(Blk.new w _ _).alloc _,Blk.new2 w _ _ _,(bnew _ _).alloc (by simp) _,by simp⟩
   have:=Hnm.out
   first | omega | (simp; omega)
  case round =>
   obtain ⟨k,nm',vsk,rowsk,A,c,hk4,hkR,rfl,rfl,hkc,hc63,hown,hlen,h150,hrows,hnm',hbox,hres,hbel,hsz⟩:=hrel
   have c0:=hbox.cell 0
   have c1:=hbox.cell 1
   have c2:=hbox.cell 2
   have c3:=hbox.cell 3
   have c4:=hbox.cell 4
   have c5:=hbox.cell 5
   have f5:=hbox.frozen 5
   have hge:=own_block_ge hown
   by_cases hlt:k < R/\k < 4
   ·obtain ⟨hlt,hlt4⟩:=hlt
    obtain ⟨xs,hxs⟩:∃ xs,rows[k]? = some xs:=⟨_,List.getElem?_eq_getElem (by rw [HR.out]; exact hlt)⟩
    obtain ⟨b,off,a',c',rfl,hb,hc,hl1,hl2,hrow⟩:=first_row Hr.out Hm.out hxs
    have hcr:=(hbel.cell (p:=⟨b,off+k,none⟩) (Nat.lt_of_lt_of_le hb hB)).trans hc
    have Hrow:=hid (show IntsAt w B (.slice a' xs.length c') xs from ⟨a',c',rfl,hl1,hl2,hrow⟩)
    have Hown:=hid hown
    have Hge:=hid hge
    have H150:=hid h150
    have Hrows:=hid hrows
    have Hbox:=hid hbox
    have Hres:=hid hres
    have Hbel:=hid hbel
    have Hlen:=hid hlen
    clear hown hge h150 hrows hbox hres hbel hlen hxs hc hrow
    by_cases hl:150 < xs.length
    ·go_wp2_with (at_builtin; refine wpList_app _ rfl (.tmp 35) (.tmp 37) 136 rfl (w.heap.size+2) 86 i0 (.slice none 0 0) 1 24 Tryz.underlying136 hi hz0 hz1 hz2 rfl (by omega) _ k vsk rfl (Hown.out.alloc _) (wr.heap.size+1) (some ⟨wr.heap.size,0,none⟩) 1 1 [.slice a' 150 c'] rfl rfl (Row.new wr _ _) (fun u hu=>by simp at hu; subst hu; rfl) (by omega) (by omega) (by simp; omega) ?_; intro A' cc w1 hown1 hgrow hat hcc)
     go_roundw
     case rel =>
      have hne:∀ g,g < w.heap.size+2->some g ≠ (Value.slice A k c).ownBlock:=fun g hg h=>by have:=Hge.out g h.symm; omega
      have hb2:Below w.heap.size w w1:=(Hbel.out.alloc (by omega) _).grown hgrow (by simp; omega) (fun g h=>by have:=Hge.out g h; omega)
      have hsz2:w.heap.size+2<=w1.heap.size:=by have:=hgrow.size; simp at this; omega
      have hcm:cc<=9223372036854775807:=own_cap hown1
      exact ⟨k+1,nm',_,rowsk ++ [xs.take 150],A',cc,by omega,by omega,by go_num,rfl,hcc,hcm,hown1,by simp [Hlen.out],fun r hr=>by
       rcases List.mem_append.1 hr with hr | hr
       ·exact H150.out r hr
       ·simp at hr; subst hr; rw [List.length_take]; omega,RowsAt.snoc Hrows.out (Hrow.out.take 150 (by omega)),hnm',(Hbox.out.alloc _).grown hgrow (hne _ (by omega)),(Hres.out.alloc _).grown hgrow (hne _ (by omega)),hb2,hsz2⟩
     case measure=>simp [intOf]; omega
    ·go_wp2_with (at_builtin; refine wpList_app _ rfl (.tmp 35) (.tmp 37) 136 rfl (w.heap.size+2) 86 i0 (.slice none 0 0) 1 24 Tryz.underlying136 hi hz0 hz1 hz2 rfl (by omega) _ k vsk rfl (Hown.out.alloc _) (wr.heap.size+1) (some ⟨wr.heap.size,0,none⟩) 1 1 [.slice a' xs.length c'] rfl rfl (Row.new wr _ _) (fun u hu=>by simp at hu; subst hu; rfl) (by omega) (by omega) (by simp; omega) ?_; intro A' cc w1 hown1 hgrow hat hcc)
     go_roundw
     case rel =>
      have hne:∀ g,g < w.heap.size+2->some g ≠ (Value.slice A k c).ownBlock:=fun g hg h=>by have:=Hge.out g h.symm; omega
      have hb2:Below w.heap.size w w1:=(Hbel.out.alloc (by omega) _).grown hgrow (by simp; omega) (fun g h=>by have:=Hge.out g h; omega)
      have hsz2:w.heap.size+2<=w1.heap.size:=by have:=hgrow.size; simp at this; omega
      have hcm:cc<=9223372036854775807:=own_cap hown1
      exact ⟨k+1,nm',_,rowsk ++ [xs.take 150],A',cc,by omega,by omega,by go_num,rfl,hcc,hcm,hown1,by simp [Hlen.out],fun r hr=>by
       rcases List.mem_append.1 hr with hr | hr
       ·exact H150.out r hr
       ·simp at hr; subst hr; rw [List.length_take]; omega,RowsAt.snoc Hrows.out (by rw [List.take_of_length_le (by omega)]; exact Hrow.out),hnm',(Hbox.out.alloc _).grown hgrow (hne _ (by omega)),(Hres.out.alloc _).grown hgrow (hne _ (by omega)),hb2,hsz2⟩
     case measure=>simp [intOf]; omega
   ·have Hown:=hid hown
    have H150:=hid h150
    have Hrows:=hid hrows
    have Hbel:=hid hbel
    have r0:=hres.frozen 0
    have r1:=hres.frozen 1
    have r2:=hres.frozen 2
    have r3:=hres.frozen 3
    have r4:=hres.frozen 4
    have r5:=hres.frozen 5
    have e0:=hres.cell 0
    have e1:=hres.cell 1
    have e2:=hres.cell 2
    have e3:=hres.cell 3
    have e4:=hres.cell 4
    have e5:=hres.cell 5
    have Hlen:=hid hlen
    clear hown h150 hrows hbel hge hbox hres hlen
    go_wp2
    all_goals
     refine bodyPost_ret (v:=.agg #[.string nm',.int .i64 rate,.bool lp,.int .i64 f,.int .i64 t,.slice A k c]) (by simp [results,Tryz.results130,go_sem,e0,e1,e2,e3,e4,e5]) rfl ?_
     refine ⟨nm',A,c,vsk,rowsk,by rw [Hlen.out],hnm',by rw [Hlen.out]; exact hk4,by rw [Hlen.out]; exact hkc,hc63,H150.out,Row.of_own (base:=w.heap.size+2) (e:=86) (size:=1) (n:=k) (c:=c) ?_,fun ad had=>?_,Hrows.out.below (Below.mono ?_ hB),?_⟩
     ·repeat (refine ownsRow_setCell_below ?_ (by simp) _)
      exact Hown.out
     ·have:=own_block_ge Hown.out ad.block (by rw [had]; rfl)
      omega
     ·repeat (refine Below.setCell ?_ (by simp) _)
      exact Hbel.out
     ·repeat (refine Below.setCell ?_ (by simp) _)
      exact Hbel.out
end Go.Proofs.YtnbbfblaipjcmaaGreatDoor
