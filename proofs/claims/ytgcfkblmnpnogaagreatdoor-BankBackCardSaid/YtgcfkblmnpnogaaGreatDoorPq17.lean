/- CodeD. Conditions: as each theorem states. -/
import Derived.Test.YtgcfkblmnpnogaaGreatDoorPq16
namespace Go.Proofs.YtgcfkblmnpnogaaGreatDoor
open Go.Lib (hid)
open Go.RowKit
def unAs (xs zs:List Int) (o k:Nat):List Int:=(List.range 8).map fun j=>if j < k then unA (bgt xs j) (bgt zs (o+j)) (turnK j) else bgt xs j
def unBs (xs zs:List Int) (o k:Nat):List Int:=(List.range zs.length).map fun j=>if o<=j/\j < o+k then unB (bgt xs (j - o)) (bgt zs j) (turnK (j - o)) else bgt zs j
theorem unAs_zero {xs:List Int} (zs:List Int) (o:Nat) (h:xs.length=8):unAs xs zs o 0=xs:=by
 refine Eq.trans ?_ (self_map h).symm
 unfold unAs
 apply List.map_congr_left
 intro j _
 rw [if_neg (by omega)]
theorem unBs_zero (xs zs:List Int) (o:Nat):unBs xs zs o 0=zs:=by
 refine Eq.trans ?_ (self_map (n:=zs.length) rfl).symm
 unfold unBs
 apply List.map_congr_left
 intro j _
 rw [if_neg (by omega)]
theorem unAs_succ (xs zs:List Int) (o:Nat) {k:Nat} (hk:k < 8):(unAs xs zs o k).set k (unA (bgt xs k) (bgt zs (o+k)) (turnK k))=unAs xs zs o (k+1):=by
 refine range_map_set _ (fun j=>if j < k+1 then unA (bgt xs j) (bgt zs (o+j)) (turnK j) else bgt xs j) hk ?_ (fun i hi=>?_)
 ·rw [if_pos (by omega)]
 ·by_cases h:i < k
  ·rw [if_pos h,if_pos (by omega)]
  ·rw [if_neg h,if_neg (by omega)]
theorem unBs_succ (xs zs:List Int) (o:Nat) {k:Nat} (hk:o+k < zs.length):(unBs xs zs o k).set (o+k) (unB (bgt xs k) (bgt zs (o+k)) (turnK k))=unBs xs zs o (k+1):=by
 refine range_map_set _ (fun j=>if o<=j/\j < o+(k+1) then unB (bgt xs (j - o)) (bgt zs j) (turnK (j - o)) else bgt zs j) hk ?_ (fun i hi=>?_)
 ·rw [if_pos (by omega),show o+k - o=k by omega]
 ·by_cases h:o<=i/\i < o+k
  ·rw [if_pos h,if_pos (by omega)]
  ·rw [if_neg h,if_neg (by omega)]
theorem unAs_get {xs:List Int} (zs:List Int) (o:Nat) {k:Nat} {x:Int} (hk:k < 8) (hx:xs[k]? = some x):(unAs xs zs o k)[k]? = some x:=by
 unfold unAs
 rw [range_map_get _ hk,if_neg (by omega),bgt_get hx]
theorem unBs_get (xs:List Int) {zs:List Int} {o k:Nat} {x:Int} (hx:zs[o+k]? = some x):(unBs xs zs o k)[o+k]? = some x:=by
 have hk:=(List.getElem?_eq_some_iff.1 hx).1
 unfold unBs
 rw [range_map_get _ hk,if_neg (by omega),bgt_get hx]
def PBPost (W:World) (ga gb:Nat) (ta tb:TypeId) (xs zs:List Int) (o:Nat) (e:Ending) (w':World):Prop :=
 e=.returned (.tuple #[])/\Blk w' ga ta ((unAs xs zs o 8).map (.int .i64))/\Blk w' gb tb ((unBs xs zs o 8).map (.int .i64))/\∀ B,B<=ga->B<=gb->B<=W.heap.size->Below B W w'
set_option maxRecDepth 100000 in
set_option maxHeartbeats 8000000 in
theorem PairsBack_any (xs zs:List Int) (ga gb o ca cb:Nat) (ta tb:TypeId) (w:World) (hx:xs.length=8) (hz:o+8<=zs.length) (hne:ga ≠ gb) (ha:Blk w ga ta (xs.map (.int .i64))) (hb:Blk w gb tb (zs.map (.int .i64)))
  (hxb:∀ k,k < 8->Turnable (bgt xs k)) (hzb:∀ k,k < 8->Turnable (bgt zs (o+k))) :
  Calls Tryz.prog 239 #[.agg turnsA,.slice (some ⟨ga,0,none⟩) 8 ca,.slice (some ⟨gb,o,none⟩) 8 cb] w (PBPost w ga gb ta tb xs zs o):=by
 unfold PBPost
 have Hx:=hid hx
 have Hz:=hid hz
 have Hxb:=hid hxb
 have Hzb:=hid hzb
 have HTg:=hid (fun k (hk:k < 8)=>turnsA_get hk)
 have hma:=ha.lt
 have hmb:=hb.lt
 have HA0:=hid (ha.alloc (.cells turnsA 203))
 have HB0:=hid (hb.alloc (.cells turnsA 203))
 generalize turnsA=tv at *
 have HM:=hid (heap_alloc_new w (.cells tv 203))
 have hmin:∀ W,(Builtin.min_ #[3,3,3] 3 #[.int .i64 8,.int .i64 8,.int .i64 8]).run Tryz.prog W=.ok (.int .i64 8) W:=fun W=>by simp [Builtin.min_,Builtin.min2]
 clear hx hz hxb hzb ha hb
 go_enter Tryz.func239,Tryz.ntmps239
 go_wp2
 go_loopw [12] (fun i wr=>∃ m:Nat,m<=8/\i=.int .i64 m/\Blk wr ga ta ((unAs xs zs o m).map (.int .i64))/\Blk wr gb tb ((unBs xs zs o m).map (.int .i64))/\wr.heap[w.heap.size]? = some (.cells tv 203 (0,0))/\∀ B,B<=ga->B<=gb->B<=w.heap.size->Below B w wr) (fun i _=>8 - (intOf i).toNat)
 case atStart=>exact ⟨0,by omega,rfl,by rw [unAs_zero zs o Hx.out]; exact HA0.out,by rw [unBs_zero]; exact HB0.out,HM.out,fun B _ _ h3=>(bnew w _).mono h3⟩
 case round =>
  obtain ⟨m,hm,rfl,hA,hB,hM,hbel⟩:=hrel
  have HA:=hid hA
  have HB:=hid hB
  have HMr:=hid hM
  have Hbel:=hid hbel
  clear HA0 HB0 HM hbel
  by_cases hlk:m < 8
  ·have t1:(m:Int) < 8:=by omega
   obtain ⟨x,hxx⟩:=list_get (k:=m) Hx.out hlk
   obtain ⟨z,hzz⟩:=list_get (k:=o+m) (b:=zs) rfl (by have:=Hz.out; omega)
   have tx:=Hxb.out m hlk
   have tz:=Hzb.out m hlk
   rw [bgt_get hxx] at tx
   rw [bgt_get hzz] at tz
   have HSa:=hid (show (unAs xs zs o m).set m (unA x z (turnK m))=unAs xs zs o (m+1) by rw [<-unAs_succ xs zs o hlk,bgt_get hxx,bgt_get hzz])
   have HSb:=hid (show (unBs xs zs o m).set (o+m) (unB x z (turnK m))=unBs xs zs o (m+1) by rw [<-unBs_succ xs zs o (by have:=Hz.out; omega),bgt_get hxx,bgt_get hzz])
   have hca:((unAs xs zs o m).map (Value.int .i64))[m]? = some (.int .i64 x):=by rw [List.getElem?_map,unAs_get zs o hlk hxx]; rfl
   have hcb:((unBs xs zs o m).map (Value.int .i64))[o+m]? = some (.int .i64 z):=by rw [List.getElem?_map,unBs_get xs hzz]; rfl
   obtain ⟨hp,hu⟩:=HTg.out m hlk
   have HT:=hid (fun W=>liftBack_any x z (turnK m) W (turnK_ok hlk) tx tz)
   generalize turnK m=tk at *
   obtain ⟨p,u⟩:=tk
   simp only at hp hu HT
   obtain ⟨X,hX⟩:∃ X,unA x z ⟨p,u⟩=X:=⟨_,rfl⟩
   obtain ⟨Z,hZ⟩:∃ Z,unB x z ⟨p,u⟩=Z:=⟨_,rfl⟩
   rw [hX,hZ] at HT
   rw [hX] at HSa
   rw [hZ] at HSb
   have x6:=(hA.cell m).trans hca
   have z6:=(hB.cell (o+m)).trans hcb
   have p6:=(cell_of_row wr w.heap.size (m*2) _ _ _ hM).trans hp
   have u6:=(cell_of_row wr w.heap.size (m*2+1) _ _ _ hM).trans hu
   have x5:=fun (v:GW wr)=>(gw_blk hA v m).trans hca
   have z5:=fun (v:GW wr)=>(gw_blk hB v (o+m)).trans hcb
   have p5:=fun (v:GW wr)=>(gw_cells hM v (m*2)).trans hp
   have u5:=fun (v:GW wr)=>(gw_cells hM v (m*2+1)).trans hu
   clear hxx hzz tx tz hp hu hX hZ hA hB hM
   go_wp2_with fail
   go_region_with ((go_at_call 238; refine (HT.out _).mono ?_; rintro e w5 ⟨rfl,hb5⟩; have hA5:=HA.out.drew.below hb5 HA.out.lt; have hB5:=HB.out.drew.below hb5 HB.out.lt; have HA5:=hid hA5; have HB5:=hid hB5; have ce:w5.cell? ⟨ga,m,none⟩=some (.int .i64 x):=(by rw [hA5.cell]; exact hca); have fz:=hA5.frozen m; have S1:=hid (hB5.far (p:=⟨ga,m,none⟩) (Ne.symm hne) (.int .i64 X)); have ce2:(w5.setCell ⟨ga,m,none⟩ (.int .i64 X)).cell? ⟨gb,o+m,none⟩=some (.int .i64 z):=(by rw [S1.out.cell]; exact hcb); have fz2:=S1.out.frozen (o+m); have HM5:=hid (hkeep (w:=wr.drew) (show wr.drew.heap[w.heap.size]? = _ from HMr.out) hb5); have Hb5:=hid (fun B h1 h2 h3=>(Hbel.out B h1 h2 h3).trans ((show Below B wr wr.drew from below_drewN (Below.refl _ _) 1).trans (hb5.mono (Nat.le_trans h3 ((Hbel.out B h1 h2 h3).size))))); clear hA5 hB5 hb5))
   all_goals
    clear x5 z5 p5 u5 x6 z6 p6 u6
    go_wp2
    go_roundw
    case rel =>
     refine ⟨m+1,by omega,by go_num,?_,?_,(Below.heap_setCell _ _ _ _ (by simp; omega)).trans ((Below.heap_setCell _ _ _ _ (by simp; omega)).trans HM5.out),fun B h1 h2 h3=>((Hb5.out B h1 h2 h3).setCell (by simpa using h1) _).setCell (by simpa using h2) _⟩
     ·rw [<-HSa.out,List.map_set]
      exact (HA5.out.set_ m _).far (by simpa using hne) _
     ·rw [<-HSb.out,List.map_set]
      exact S1.out.set_ (o+m) _
    case measure=>simp [intOf]; omega
  ·have hm8:m=8:=by omega
   subst hm8
   have t1:¬ (((8:Nat):Int) < 8):=by omega
   go_wp2
   refine bodyPost_end (v:=.tuple #[]) (results_none Tryz.results239 _ _ _) rfl ?_
   exact ⟨rfl,HA.out,HB.out,Hbel.out⟩
end Go.Proofs.YtgcfkblmnpnogaaGreatDoor
