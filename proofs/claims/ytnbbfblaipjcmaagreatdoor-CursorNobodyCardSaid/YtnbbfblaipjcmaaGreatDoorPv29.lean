/- WrB, WrC, WrD, WrE, RdP, RdA, RdB, RtA, RtB. Conditions: as each theorem states. -/
import Derived.Laws.CopyOwn
import Derived.Deep.OwnRows
import Derived.Test.YtnbbfblaipjcmaaGreatDoorPv19
import Derived.Test.YtnbbfblaipjcmaaGreatDoorPv13
import Derived.Test.YtnbbfblaipjcmaaGreatDoorPv28
set_option maxRecDepth 100000
set_option maxHeartbeats 16000000
namespace Go.Proofs.YtnbbfblaipjcmaaGreatDoor
section
open Go.Lib (hid)
open Go.RowKit
def mI (v:Int) (k:Nat):Bool:=decide (cB v<=k)
theorem ZB (v:Int):mI v 0=decide (v=0):=by
 unfold mI cB
 rw [Bool.eq_iff_iff,decide_eq_true_eq,decide_eq_true_eq]
 split
 ·rename_i h; simp [h]
 ·rename_i h; simp [h]
theorem xR (v:Int) (k:Nat):mI v (k+1)=(decide (-(2 ^ k)<=v) && decide (v < 2 ^ k)):=by
 have e:(2:Int) ^ k=((2 ^ k:Nat):Int):=by rw [Int.natCast_pow]; rfl
 unfold mI
 rw [Bool.eq_iff_iff,decide_eq_true_eq,Bool.and_eq_true,decide_eq_true_eq,decide_eq_true_eq,e]
 exact ⟨fun h=>pO h,fun h=>j8 h.1 h.2⟩
theorem rI (v:Int) (k:Nat) (w:World) (hk:k<=57) :
  Calls Tryz.prog 142 #[.int .i64 v,.int .i64 k] w fun e w'=>e=.returned (.bool (mI v k))/\w=w':=by
 cases k with
 | zero =>
  rw [ZB]
  have t1:((0:Nat):Int)<=0:=by omega
  by_cases h:v=0
  ·have t2:(v == 0)=true:=beq_iff_eq.2 h
   go_enter Tryz.func142,Tryz.ntmps142
   go_wp2
   go_ret
   exact ⟨dI (by rw [h]; rfl),rfl⟩
  ·have t2:(v == 0)=false:=beq_eq_false_iff_ne.2 h
   have H:=hid (decide_eq_false h)
   clear h
   go_enter Tryz.func142,Tryz.ntmps142
   go_wp2
   go_ret
   exact ⟨dI H.out.symm,rfl⟩
 | succ k =>
  have HF:=hid (xR v k)
  have hp:(2:Int) ^ k<=2 ^ 56:=by
   rw [show (2:Int) ^ k=((2 ^ k:Nat):Int) by rw [Int.natCast_pow]; rfl]
   exact Int.ofNat_le.2 (Nat.pow_le_pow_right (by decide) (by omega))
  have hp0:(0:Int) < 2 ^ k:=Int.pow_pos (by decide)
  have hm1:IntKind.i64.wrap (-1*2 ^ k) = -(2 ^ k):=by rw [Int.neg_one_mul]; exact IntWalk.i64_in _ (by omega)
  have hm2:IntKind.i64.wrap (1*2 ^ k)=2 ^ k:=by rw [Int.one_mul]; exact IntWalk.i64_in _ (by omega)
  have hm3:IntKind.i64.wrap (-(2 ^ k)) = -(2 ^ k):=IntWalk.i64_in _ (by omega)
  have hm4:IntKind.i64.wrap (2 ^ k)=2 ^ k:=IntWalk.i64_in _ (by omega)
  obtain ⟨P,hP⟩:∃ P:Int,(2:Int) ^ k=P:=⟨_,rfl⟩
  have t1:¬ (((k+1:Nat):Int)<=0):=by omega
  have t2:decide ((63:Int) < ((k+1:Nat):Int))=false:=decide_eq_false (by omega)
  have t3:((k+1:Nat):Int) - 1=(k:Int):=by omega
  have t4:(0:Int)<=(k:Int):=by omega
  have t5:(k:Int)<=64:=by omega
  rw [hP] at HF hm1 hm2 hm3 hm4 hp hp0
  generalize hK:((k+1:Nat):Int)=K at *
  have t6:¬ (63 < K):=by omega
  have t7:¬ (K<=0):=by omega
  by_cases h1:-P<=v
  ·have d1:decide (-P<=v)=true:=decide_eq_true h1
   go_enter Tryz.func142,Tryz.ntmps142
   go_wp2
   go_ret
   exact ⟨dI (by rw [HF.out,d1]; simp),rfl⟩
  ·have d1:decide (-P<=v)=false:=decide_eq_false h1
   go_enter Tryz.func142,Tryz.ntmps142
   go_wp2
   go_ret
   exact ⟨dI (by rw [HF.out,d1]; simp),rfl⟩
theorem aAG (v:Int) {k:Nat} (hk:k<=57):bits .and .u64 (IntKind.u64.wrap v) (2 ^ k - 1)=(pL v k:Int):=by
 rw [IntKind.wrap_u64,bits_mask .u64 64 (by decide) wraps_u64 k (by omega) (v % 18446744073709551616) (by omega) (by omega)]
 have hd:(2:Int) ^ k ∣ 18446744073709551616:=by
  refine ⟨2 ^ (64 - k),?_⟩
  rw [<-Int.pow_add,show k+(64 - k)=64 by omega]; rfl
 rw [Int.emod_emod_of_dvd _ hd]
 have hp:(0:Int) < 2 ^ k:=Int.pow_pos (by decide)
 unfold pL
 rw [Int.toNat_of_nonneg (Int.emod_nonneg _ (by omega))]
theorem CH (g:Nat) (v:Int) (k:Nat) (L:List Nat) (w:World) (hk:k<=57) (hv:mI v k=true) (hL:L.length+k<=100000) (hw:WrAt w g L) :
  Calls Tryz.prog 243 #[.pointer (some ⟨g,0,none⟩),.int .i64 v,.int .i64 k] w fun e w'=>e=.returned (.tuple #[])/\WrAt w' g (L ++ cI (pL v k) k)/\Keeps g w w'/\Below g w w':=by
 have HF:=hid (fun W=>rI v k W hk)
 rw [hv] at HF
 have HP:=hid (pS g (pL v k) k L w hk (XM v k) hL hw)
 have t1:decide ((k:Int) < 0)=false:=decide_eq_false (by omega)
 have t2:decide ((57:Int) < (k:Int))=false:=decide_eq_false (by omega)
 have t0:(0:Int)<=(k:Int):=by omega
 have t3:(k:Int)<=64:=by omega
 have hA:=aAG v hk
 have hp:(2:Int) ^ k<=2 ^ 57:=by
  rw [show (2:Int) ^ k=((2 ^ k:Nat):Int) by rw [Int.natCast_pow]; rfl]
  exact Int.ofNat_le.2 (Nat.pow_le_pow_right (by decide) (by omega))
 have hp0:(0:Int) < 2 ^ k:=Int.pow_pos (by decide)
 have hm1:IntKind.u64.wrap (1*2 ^ k)=2 ^ k:=by rw [Int.one_mul,IntKind.wrap_u64]; omega
 have hm2:IntKind.u64.wrap (2 ^ k - 1)=2 ^ k - 1:=by rw [IntKind.wrap_u64]; omega
 have hm3:IntKind.u64.wrap (2 ^ k)=2 ^ k:=by rw [IntKind.wrap_u64]; omega
 obtain ⟨U,hU⟩:∃ U:Int,(2:Int) ^ k=U:=⟨_,rfl⟩
 rw [hU] at hA hm1 hm2 hm3 hp hp0
 clear hw hv
 go_enter Tryz.func243,Tryz.ntmps243
 go_wp2_with (first | (go_at_call 142; refine (HF.out _).mono ?_; rintro e w1 ⟨rfl,rfl⟩) | (go_at_call 242; fail))
 refine HP.out.mono ?_
 rintro e w1 ⟨rfl,hW,hkp,hb⟩
 go_wp2
 refine bodyPost_end (v:=.tuple #[]) (results_none Tryz.results243 _ _ _) rfl ?_
 exact ⟨rfl,hW,hkp,hb⟩
theorem SQ (g size:Nat) (L:List Nat) (w:World) (h0:0 < L.length) (hs:(L.length+7) / 8<=size) (h1:size<=100000) (hL:L.length<=100000) (hw:WrAt w g L) :
  Calls Tryz.prog 244 #[.pointer (some ⟨g,0,none⟩),.int .i64 size] w fun e w'=>e=.returned (.tuple #[.slice (some ⟨w.heap.size,0,none⟩) size size,.int .i64 0]) /\
   w'=w.alloc (.cells (u8s (iM L ++ List.replicate (size - (L.length+7) / 8) 0)).toArray 5):=by
 obtain ⟨_,s,hg,hown⟩:=hw
 obtain ⟨gg,cc,rfl,_,hgs⟩:=hown.form (by omega)
 have hf:u8s (iM L ++ List.replicate (size - (L.length+7) / 8) 0)=u8s (iM L) ++ List.replicate (size - (L.length+7) / 8) (.int .u8 0):=by
  unfold u8s; rw [List.map_append,List.map_replicate]; rfl
 rw [hf]
 have hl:(u8s (iM L)).length=(L.length+7) / 8:=by rw [jA,gW]
 have h8:=qS (iM L)
 obtain ⟨n,hn⟩:∃ n,(L.length+7) / 8=n:=⟨_,rfl⟩
 rw [hn] at hs hown hg hl ⊢
 have c0:w.cell? ⟨g,0,none⟩=some (.slice (some ⟨gg,0,none⟩) n cc):=cell_of_row w g 0 _ _ _ hg
 have c2:w.cell? ⟨g,2,none⟩=some (.int .i64 0):=cell_of_row w g 2 _ _ _ hg
 have hsrc:=hid (fun (j:Nat) (v:Value) (hv:(u8s (iM L))[j]? = some v) (o:Obj)=>(show (w.alloc o).cell? ((⟨gg,0,none⟩:Addr).add j)=some v by
  rw [show (⟨gg,0,none⟩:Addr).add j=⟨gg,0+j,none⟩ by unfold Addr.add; split <;> simp_all]
  refine bP ?_ o
  rw [Nat.zero_add,hown.cellAt j (by have:=(List.getElem?_eq_some_iff.1 hv).1; omega)]
  exact hv))
 have Hg:=hid hg
 have gz:=hlt hg
 generalize u8s (iM L)=ps at *
 have t1:¬ ((size:Int) < 0):=by omega
 have t2:¬ ((size:Int) < (n:Int)):=by omega
 have hnh:0 < n:=by omega
 obtain ⟨i0,hi,hz0,hz1,hz2⟩:∃ i,Tryz.prog.info? 5=some i/\i.zero=some (.int .u8 0)/\i.size=1/\i.bytes=1:=by
  have:=rS
  cases h:Tryz.prog.info? 5 with
  | none=>rw [h] at this; cases this
  | some i=>rw [h] at this; simp at this; exact ⟨i,rfl,this.1,this.2.1,this.2.2⟩
 have Hms:=hid (show (madeCells #[Value.int .u8 0] size).toList=List.replicate size (.int .u8 0) from toList_madeCells_one _ _)
 obtain ⟨mc,hmc⟩:∃ mc,madeCells #[Value.int .u8 0] size=mc:=⟨_,rfl⟩
 rw [hmc] at Hms
 have Hl:=hid hl
 have hd0:=bP c0 (.cells mc 5)
 clear hown hg hn h0 hl hf hgs
 go_enter Tryz.func244,Tryz.ntmps244
 go_wp2_with (first | (refine wpList_make_row w rfl (.tmp 28) (.tmp 28) 30 rfl 5 i0 (.int .u8 0) Tryz.underlying30 hi hz0 hz1 rfl .i64 .i64 size rfl rfl (by rw [hz2]; omega) (by omega) ?_; rw [hmc]) | (refine wpList_copy_own rfl (.tmp 30) (.tmp 34) 30 30 rfl 5 Tryz.underlying30 (by rw [hi]; simp [hz1]) w.heap.size 0 size size ⟨gg,0,none⟩ n cc rfl rfl mc 5 (heap_alloc_new w _) ps (by rw [Hl.out]; exact (Nat.min_eq_left hs).symm) (fun j v hv=>hsrc.out j v hv _) (by rw [Hl.out,<-Array.length_toList,Hms.out,List.length_replicate]; omega) h8 ?_; rw [World.setRow_alloc_new]))
 refine bodyPost_ret (results_tmp2 Tryz.results244 _ _ _) rfl ?_
 refine ⟨rfl,?_⟩
 rw [Hms.out,Hl.out,List.drop_replicate]
end
section
open Go.Lib (hid)
open Go.RowKit
def TonesR (ts:List ToneV):Prop:=(∀ t ∈ ts,0<=t.idx/\t.idx < 16/\-8388608<=t.val/\t.val < 8388608)/\ts.Pairwise fun x y=>x.idx < y.idx
theorem LA {v:Int} (h1:-8388608<=v) (h2:v < 8388608):mI v 24=true:=by
 rw [xR,decide_eq_true (show -(2 ^ 23)<=v by omega),decide_eq_true (show v < 2 ^ 23 by omega)]; rfl
theorem IB (ts:List ToneV) (A:Option Addr) (c:Nat) (w:World) (hr:Row w w.heap.size A (aW ts)) (ht:TonesR ts) (hl:ts.length<=2) :
  Calls Tryz.prog 140 #[.slice A ts.length c] w fun e w'=>e=.returned (.bool true)/\Below w.heap.size w w':=by
 obtain ⟨n,hn⟩:∃ n,ts.length=n:=⟨_,rfl⟩
 have Hr:=hid hr
 have Hti:=hid ht.1
 have Hinc:=hid ht.2
 rw [hn] at hl ⊢
 have Hn:=hid hn
 clear hr ht hn
 go_enter Tryz.func140,Tryz.ntmps140
 go_wp2
 go_loopw [7] (fun i wr=>∃ m:Nat,m<=n/\i=.int .i64 m/\Below w.heap.size w wr) (fun i _=>n - (intOf i).toNat)
 case atStart=>exact ⟨0,by omega,rfl,Below.refl _ _⟩
 case round =>
  obtain ⟨m,hm,rfl,hbel⟩:=hrel
  have Hbel:=hid hbel
  clear hbel
  by_cases hlk:m < n
  ·obtain ⟨t,ht⟩:=aE (k:=m) Hn.out hlk
   have htv:=Hti.out t (List.mem_of_getElem? ht)
   obtain ⟨g,off,hA,hg,k0,k1⟩:=nL Hr.out ht
   have c0:=(Hbel.out.cell (p:=⟨g,off+m*2,none⟩) hg).trans k0
   have c1:=(Hbel.out.cell (p:=⟨g,off+m*2+1,none⟩) hg).trans k1
   have HP:=hid (fun (j:Nat) (u:ToneV) (hj:m=j+1) (hu:ts[j]? = some u)=>(show u.idx < t.idx by
    obtain ⟨h1,e1⟩:=List.getElem?_eq_some_iff.1 hu
    obtain ⟨h2,e2⟩:=List.getElem?_eq_some_iff.1 ht
    have:=List.pairwise_iff_getElem.1 Hinc.out j m h1 h2 (by omega)
    rwa [e1,e2] at this))
   subst hA
   have HRow:=hid (fun (j:Nat) (u:ToneV) (hu:ts[j]? = some u)=>(show ∃ b o,some (⟨g,off,none⟩:Addr)=some ⟨b,o,none⟩/\b < w.heap.size/\w.cell? ⟨b,o+j*2,none⟩=some (.int .i64 u.idx)/\w.cell? ⟨b,o+j*2+1,none⟩=some (.int .i64 u.val) from nL Hr.out hu))
   obtain ⟨ix,vl⟩:=t
   obtain ⟨v1,v2,v3,v4⟩:=htv
   simp only at c0 c1 v1 v2 v3 v4 HP
   clear ht k0 k1
   have HF:=hid (show ∀ W,Calls Tryz.prog 142 #[.int .i64 vl,.int .i64 24] W fun e w'=>e=.returned (.bool true)/\W=w' from fun W=>(rI vl 24 W (by omega)).mono fun e w' ⟨he,hw⟩=>⟨by rw [he,LA v3 v4],hw⟩)
   have t1:(m:Int) < (n:Int):=by omega
   have t2:decide (ix < 0)=false:=decide_eq_false (by omega)
   have t3:decide ((16:Int)<=ix)=false:=decide_eq_false (by omega)
   have hN1:=Blk.new wr 169 [.int .i64 ix,.int .i64 vl]
   have hy5:=jY hN1
   have HB2:=hid (aC Hbel.out (aL wr (.cells #[.int .i64 ix,.int .i64 vl] 169)))
   by_cases hm0:0 < m
   ·obtain ⟨j,rfl⟩:∃ j,m=j+1:=⟨m - 1,by omega⟩
    obtain ⟨u,hu⟩:=aE (k:=j) Hn.out (by omega)
    have hlt2:=HP.out j u rfl hu
    obtain ⟨b,o,hA,hb,k0,k1⟩:=HRow.out j u hu
    injection hA with hA
    injection hA with e1 e2
    subst e1 e2
    have hk:=fun (x:GW (wr.alloc (.cells #[.int .i64 ix,.int .i64 vl] 169)))=>(show x.1.cell? ⟨g,off+j*2,none⟩=some (.int .i64 u.idx) from (HB2.out.trans (x.2.mono HB2.out.size)).cell (p:=⟨g,off+j*2,none⟩) hb |>.trans k0)
    obtain ⟨ui,uv⟩:=u
    simp only at hk hlt2
    have t4:decide ((0:Int) < ((j+1:Nat):Int))=true:=decide_eq_true (by omega)
    have t5:decide (ix<=ui)=false:=decide_eq_false (by omega)
    have t6:((j+1:Nat):Int) - 1=(j:Int):=by omega
    have t7:(j:Int) < (n:Int):=by omega
    have t8:(0:Int)<=(j:Int):=by omega
    have t9:(0:Int) < (j:Int)+1:=by omega
    clear hu k0 k1 hm0
    go_wp2_with fail
    refine aR (by kernel_rfl) (by kernel_rfl) ?_
    repeat (go_big_quiet_step ((go_at_call 142; exact cR (HF.out _))))
    refine wpQuiet_nil ?_
    intro w5 hw'
    have hb5:=aK hw'
    have HB5:=hid (aC HB2.out hb5)
    clear hw' hb5 hy5 hk
    go_wp2
    go_roundw
    case rel=>exact ⟨j+1+1,by omega,by go_num,HB5.out⟩
    case measure=>simp [intOf]; omega
   ·have hm00:m=0:=by omega
    subst hm00
    simp only [Nat.zero_mul,Nat.add_zero] at c0 c1
    have t4:decide ((0:Int) < ((0:Nat):Int))=false:=decide_eq_false (by omega)
    clear hm0
    go_wp2_with fail
    refine aR (by kernel_rfl) (by kernel_rfl) ?_
    repeat (go_big_quiet_step ((go_at_call 142; exact cR (HF.out _))))
    refine wpQuiet_nil ?_
    intro w5 hw'
    have hb5:=aK hw'
    have HB5:=hid (aC HB2.out hb5)
    clear hw' hb5 hy5
    go_wp2
    go_roundw
    case rel=>exact ⟨0+1,by omega,by go_num,HB5.out⟩
    case measure=>simp [intOf]; omega
  ·have hmn:m=n:=by omega
   subst hmn
   have t1:¬ ((m:Int) < (m:Int)):=by omega
   have t2:decide ((m:Int)<=2)=true:=decide_eq_true (by omega)
   go_wp2
   go_ret
   exact ⟨rfl,Hbel.out⟩
end
section
open Go.Lib (hid)
open Go.RowKit
theorem RightF.fits {f:FrameV} (h:RightF f) {k:Nat} (hk:k < 16):mI (bgt f.q k) (bgt f.width (k / 4)).toNat=true:=by
 unfold mI
 have:=h.q k hk
 exact decide_eq_true (by omega)
theorem WX {g:List Int} (h:g.length=4/\∀ i,i < 4->0<=bgt g i/\bgt g i<=3):gY g=true:=by
 unfold gY
 rw [List.all_eq_true]
 intro x hx
 obtain ⟨i,hi,rfl⟩:=List.mem_iff_getElem.1 hx
 have:=h.2 i (by have:=h.1; omega)
 rw [aD (List.getElem?_eq_getElem hi)] at this
 unfold inB
 rw [decide_eq_true this.1,decide_eq_true this.2]; rfl
theorem aAZ (f:FrameV) (A:Option Addr) (c:Nat) (w:World) (h:RightF f) (hr:Row w w.heap.size A (aW f.tones)) :
  Calls Tryz.prog 100 #[.agg (aY f (.slice A f.tones.length c))] w fun e w'=>e=.returned (.bool true)/\Below w.heap.size w w':=by
 have HG:=hid (fun W=>oI f.gains W h.gains.1)
 rw [WX h.gains] at HG
 have HT:=hid (fun W (hW:Below w.heap.size w W)=>IB f.tones A c W (hr.later hW) ⟨h.tidx,h.tinc⟩ h.tlen)
 have HS:=hid (fun W=>jP f.scale W h.scale.1)
 rw [h.scale.ok] at HS
 have HL:=h.len
 have Hfit:=hid (fun k (hk:k < 16)=>h.fits hk)
 have Hwd:=hid h.width
 have HPa:=hid (fun (W:World) (g:Nat) hg=>dS (w:=W) (g:=g) HL (tv:=.slice A f.tones.length c) hg)
 have hgl:(f.gains.map (Value.int .i64)).length=4:=by simp [HL.g]
 have hsl:(f.scale.map (Value.int .i64)).length=4:=by simp [HL.s]
 have hwl:(f.width.map (Value.int .i64)).length=4:=by simp [HL.w]
 obtain ⟨gg,ts,sc,wd,q⟩:=f
 simp only at *
 have Hql:=hid HL.q
 have Hwl:=hid HL.w
 simp only at Hql Hwl
 have HCw:=hid (fun (k:Nat) (x:Int) (h:wd[k]? = some x)=>eP h)
 have HCq:=hid (fun (k:Nat) (x:Int) (h:q[k]? = some x)=>(show (q.map (Value.int .i64))[k]? = some (.int .i64 x) by rw [List.getElem?_map,h]; rfl))
 generalize ts.length=n at *
 generalize aY ⟨gg,ts,sc,wd,q⟩ (.slice A n c)=fc at *
 unfold aT at *
 generalize hgv:gg.map (Value.int .i64)=gv at *
 generalize hsv:sc.map (Value.int .i64)=sv at *
 generalize hwv:wd.map (Value.int .i64)=wv at *
 generalize hqv:q.map (Value.int .i64)=qv at *
 have HFg:=hid (show (Tryz.prog.info? 45).map (·.size)=some gv.length by rw [hgl]; exact bY)
 have HFs:=hid (show (Tryz.prog.info? 45).map (·.size)=some sv.length by rw [hsl]; exact bY)
 have HFw:=hid (show (Tryz.prog.info? 45).map (·.size)=some wv.length by rw [hwl]; exact bY)
 have HM:=hid (heap_alloc_new w (.cells fc 50))
 have P:=HPa.out _ _ HM.out
 have P0:=hid P.1
 have P3:=P.2.1
 have HB0:=hid (aL w (.cells fc 50))
 clear P hr h hgv hsv hwv hqv hgl hsl hwl HL
 go_enter Tryz.func100,Tryz.ntmps100
 go_wp2_with (first | (go_at_call 139; fail) | (refine aN rfl 45 (.tmp 7) rfl w.heap.size 0 rfl gv _ P0.out Tryz.underlying45 rfl HFg.out ?_))
 refine (HG.out _).mono ?_
 rintro e w1 ⟨rfl,hb1⟩
 have HM1:=hid (aF HM.out hb1)
 have HB1:=hid (aC HB0.out hb1)
 have Q:=HPa.out _ _ HM1.out
 have p3:=Q.2.1
 clear Q hb1 P3 P0 HM HB0
 go_wp2_with (go_at_call 140; fail)
 refine (HT.out _ HB1.out).mono ?_
 rintro e w2 ⟨rfl,hb2⟩
 have HM2:=hid (aF HM1.out hb2)
 have HB2:=hid (aC HB1.out hb2)
 have Q:=HPa.out _ _ HM2.out
 have Q2:=hid Q.2.2.1
 clear Q hb2 p3 HM1 HB1
 go_wp2_with (first | (go_at_call 141; fail) | (refine aN rfl 45 (.tmp 18) rfl w.heap.size 5 rfl sv _ Q2.out Tryz.underlying45 rfl HFs.out ?_))
 refine (HS.out _).mono ?_
 rintro e w3 ⟨rfl,hb3⟩
 have HM3:=hid (aF HM2.out hb3)
 have HB3:=hid (aC HB2.out hb3)
 have Q:=HPa.out _ _ HM3.out
 have Q3:=hid Q.2.2.2.1
 have Q4:=hid Q.2.2.2.2
 clear Q hb3 HM2 HB2
 go_wp2_with (refine aN rfl 45 (.tmp 23) rfl w.heap.size 9 rfl wv _ Q3.out Tryz.underlying45 rfl HFw.out ?_)
 go_loop [25] (fun i=>∃ m:Nat,m<=4/\i=.int .i64 m) (fun i=>4 - (intOf i).toNat)
 case atStart=>exact ⟨0,by omega,rfl⟩
 case round =>
  obtain ⟨m,hm,rfl⟩:=hrel
  by_cases hlk:m < 4
  ·have t1:(m:Int) < 4:=by omega
   obtain ⟨x,hx⟩:=aE (k:=m) Hwl.out hlk
   have hxb:=Hwd.out m hlk
   rw [aD hx] at hxb
   obtain ⟨W,rfl⟩:=Int.eq_ofNat_of_zero_le hxb.1
   have hW24:W<=24:=by omega
   have Hx:=hid (aD hx)
   have hix:=bR (P:=Tryz.prog) Tryz.underlying45 hlk (fun W=>by kernel_rfl) (fun W=>by kernel_rfl) (HCw.out _ _ hx)
   have t2:decide ((W:Int) < 0)=false:=decide_eq_false (by omega)
   have t3:decide ((24:Int) < (W:Int))=false:=decide_eq_false (by omega)
   have hsl:=oC w.heap.size 13 ((m:Int)*4) (((m:Int)+1)*4) (m*4) (m*4+4) (by omega) (by omega) (by omega) (by omega) (by omega)
   rw [show m*4+4 - m*4=4 by omega] at hsl
   clear hx hxb
   go_wp2
   go_loop [43] (fun i=>∃ k:Nat,k<=4/\i=.int .i64 k) (fun i=>4 - (intOf i).toNat)
   case atStart=>exact ⟨0,by omega,rfl⟩
   case round =>
    obtain ⟨k,hk,rfl⟩:=hrel
    by_cases hkk:k < 4
    ·have t4:(k:Int) < 4:=by omega
     obtain ⟨y,hy⟩:=aE (k:=m*4+k) Hql.out (by omega)
     have ce:=Q4.out _ _ (HCq.out _ _ hy)
     rw [<-Nat.add_assoc] at ce
     have hft:=Hfit.out (m*4+k) (by omega)
     rw [aD hy,show (m*4+k) / 4=m by omega,Hx.out,Int.toNat_natCast] at hft
     have HF:=hid (fun V=>rI y W V (by omega))
     rw [hft] at HF
     clear hy hft
     go_wp2_with (go_at_call 142; refine (HF.out _).mono ?_; rintro e w5 ⟨rfl,rfl⟩)
     go_round
     case rel=>exact ⟨k+1,by omega,by go_num⟩
     case measure=>simp [intOf]; omega
    ·have hk4:k=4:=by omega
     subst hk4
     have t4:¬ (((4:Nat):Int) < 4):=by omega
     go_wp2
     go_round
     case rel=>exact ⟨m+1,by omega,by go_num⟩
     case measure=>simp [intOf]; omega
  ·have hm4:m=4:=by omega
   subst hm4
   have t1:¬ (((4:Nat):Int) < 4):=by omega
   go_wp2
   go_ret
   exact ⟨rfl,HB3.out⟩
end
section
open Go.Lib (hid)
open Go.RowKit
def aP (f:FrameV) (size:Nat):List Nat:=iM (jW f) ++ List.replicate (size - ((jW f).length+7) / 8) 0
def IF (W:World) (f:FrameV) (size:Nat) (e:Ending) (w':World):Prop :=
 ∃ g,e=.returned (.tuple #[.slice (some ⟨g,0,none⟩) size size,.int .i64 0])/\W.heap.size<=g/\w'.heap[g]? = some (.cells (u8s (aP f size)).toArray 5 (0,0))/\Below W.heap.size W w'
theorem pM {n:Nat} (h:n < 1000000):IntKind.u64.wrap (n:Int)=(n:Int):=by rw [IntKind.wrap_u64]; omega
theorem WrAt.alloc {W:World} {g:Nat} {L:List Nat} (h:WrAt W g L) (o:Obj):WrAt (W.alloc o) g L:=by
 obtain ⟨h1,v,h2,h3⟩:=h
 exact ⟨h1,v,(heap_alloc_old _ _ (hlt h2)).trans h2,h3.alloc o⟩
theorem WrAt.new (W:World):WrAt (W.alloc (.cells #[.slice none 0 0,.int .i64 0,.int .i64 0] 345)) W.heap.size [] :=
 ⟨fun b hb=>by simp at hb,.slice none 0 0,heap_alloc_new W _,World.ownsRow_nil _ _ _ _⟩
theorem uR {w w':World} {g B:Nat} {o:Obj} (h:w.heap[g]? = some o) (hb:Below B w w') (hg:g < B):w'.heap[g]? = some o:=(hb.block g hg).trans h
theorem XR (f:FrameV) (A:Option Addr) (c size:Nat) (w:World) (h:RightF f) (hr:Row w w.heap.size A (aW f.tones)) (hsz:fT f<=8*(size:Int)) (hs1:size<=10000) :
  Calls Tryz.prog 205 #[.agg (aY f (.slice A f.tones.length c)),.int .i64 size] w (IF w f size):=by
 have HR:=hid (fun W (hW:Below w.heap.size w W)=>aAZ f A c W h (hr.later hW))
 have hfl:=uP h
 have hfm:=OO h
 have HBy:=hid (fun (W:World) (g:Nat) (hW:WrAt W g (jW f))=>SQ g size (jW f) W (by
  have:=oZ h
  unfold jW
  rw [List.length_append]; omega) (by omega) (by omega) (by omega) hW)
 have HL:=h.len
 have HPa:=hid (fun (W:World) (g:Nat) hg=>dS (w:=W) (g:=g) HL (tv:=.slice A f.tones.length c) hg)
 have hgl:(f.gains.map (Value.int .i64)).length=4:=by simp [HL.g]
 have hql:(f.q.map (Value.int .i64)).length=16:=by simp [HL.q]
 have hfz:=fJ HL (.slice A f.tones.length c)
 have h2l:=xV h
 have h3l:=xW h
 have h4l:=xX h
 have h5l:=oZ h
 have Hfit:=hid (fun k (hk:k < 16)=>h.fits hk)
 have HT:=hid (fun (m:Nat) (t:ToneV) (ht:f.tones[m]? = some t)=>And.intro (nL hr ht) (h.tidx t (List.mem_of_getElem? ht)))
 have HCg:=hid (fun (k:Nat) (x:Int) (hx:f.gains[k]? = some x)=>And.intro (eP hx) (show 0<=x/\x<=3 by
  have hk:k < 4:=by have:=(List.getElem?_eq_some_iff.1 hx).1; have:=HL.g; omega
  have:=h.gains.2 k hk
  rwa [aD hx] at this))
 have HCs:=hid (fun (k:Nat) (x:Int) (hx:f.scale[k]? = some x)=>And.intro (show (f.scale.map (Value.int .i64))[k]? = some (.int .i64 x) by rw [List.getElem?_map,hx]; rfl) (show 0<=x/\x<=23 by
  have hk:k < 4:=by have:=(List.getElem?_eq_some_iff.1 hx).1; have:=HL.s; omega
  have:=h.scale.2 k hk
  rwa [aD hx] at this))
 have HCw:=hid (fun (k:Nat) (x:Int) (hx:f.width[k]? = some x)=>And.intro (show (f.width.map (Value.int .i64))[k]? = some (.int .i64 x) by rw [List.getElem?_map,hx]; rfl) (show 0<=x/\x<=24 by
  have hk:k < 4:=by have:=(List.getElem?_eq_some_iff.1 hx).1; have:=HL.w; omega
  have:=h.width k hk
  rwa [aD hx] at this))
 have HCq:=hid (fun (k:Nat) (x:Int) (hx:f.q[k]? = some x)=>eP hx)
 have Hws:=hid (fun m (hm:m<=16)=>(show jK f.width m<=1000 by
  have:=uC f.width (16 - m) m
  rw [show m+(16 - m)=16 by omega,AQ] at this
  have:=h.width 0 (by omega)
  have:=h.width 1 (by omega)
  have:=h.width 2 (by omega)
  have:=h.width 3 (by omega)
  omega))
 have htl:=h.tlen
 have Hgl:=hid HL.g
 have Hsl:=hid HL.s
 have Hwl:=hid HL.w
 have Hql:=hid HL.q
 have HFr:=hid (show jW f=rB f ++ kR f.width f.q 16 from rfl)
 have H5e:=hid (show rB f=rA f ++ kB f.scale f.width 4 from rfl)
 have H4e:=hid (show rA f=qZ f ++ gZ f.tones from rfl)
 have H3e:=hid (show qZ f=zT f ++ cI f.tones.length 2 from rfl)
 have H2e:=hid (show zT f=tO ++ jF f.gains from rfl)
 obtain ⟨n,hn⟩:∃ n,f.tones.length=n:=⟨_,rfl⟩
 rw [hn] at HR HPa hfz h4l h5l htl H3e ⊢
 have Hn:=hid hn
 obtain ⟨fc,hfc⟩:∃ fc,aY f (.slice A n c)=fc:=⟨_,rfl⟩
 rw [hfc] at HR HPa hfz ⊢
 have HFf:=hid (show (Tryz.prog.info? 50).map (·.size)=some fc.size by rw [hfz]; exact bX)
 have HFg:=hid (show (Tryz.prog.info? 45).map (·.size)=some (f.gains.map (Value.int .i64)).length by rw [hgl]; exact bY)
 have HFq:=hid (show (Tryz.prog.info? 48).map (·.size)=some (f.q.map (Value.int .i64)).length by rw [hql]; exact bS)
 have HM:=hid (heap_alloc_new w (.cells fc 50))
 have HB0:=hid (aL w (.cells fc 50))
 clear h hr hn hfc hfz hgl hql HL hfl hfm hsz
 go_enter Tryz.func205,Tryz.ntmps205
 go_wp2_with (first | (go_at_call 100; fail) | (refine aB rfl 50 (.tmp 2) rfl w.heap.size rfl _ fc _ _ HM.out Tryz.underlying50 rfl HFf.out ?_))
 refine (HR.out _ HB0.out).mono ?_
 rintro e w1 ⟨rfl,hb1⟩
 have HM1:=hid (aF HM.out hb1)
 have HB1:=hid (aC HB0.out hb1)
 have hz1:=hlt HM1.out
 have HW0:=hid (WrAt.new w1)
 have HM2:=hid (aF HM1.out (aL w1 (.cells #[.slice none 0 0,.int .i64 0,.int .i64 0] 345)))
 have HB2:=hid (aC HB1.out (aL w1 (.cells #[.slice none 0 0,.int .i64 0,.int .i64 0] 345)))
 have HP1:=hid (show Calls Tryz.prog 242 #[.pointer (some ⟨w1.heap.size,0,none⟩),.int .u64 1,.int .i64 2] _ _ from pS w1.heap.size 1 2 [] _ (by omega) (by decide) (by simp) HW0.out)
 clear hb1 HM HB0
 go_wp2_with (go_at_call 242; fail)
 refine HP1.out.mono ?_
 rintro e w2 ⟨rfl,hw2,_,hb2⟩
 obtain ⟨G,hG⟩:∃ G,w1.heap.size=G:=⟨_,rfl⟩
 rw [hG] at hw2 hb2 hz1 ⊢
 have hGw:w.heap.size < G:=hz1
 have HW2:=hid (show WrAt w2 G tO from hw2)
 have HM3:=hid (uR HM2.out hb2 hGw)
 have HB3:=hid (HB2.out.trans (hb2.mono (Nat.le_of_lt hGw)))
 have P:=HPa.out _ _ HM3.out
 have P0:=hid P.1
 clear hw2 hb2 P HP1 HW0 HM2 HB2 HM1 HB1
 go_wp2_with (refine aN rfl 45 (.tmp 21) rfl w.heap.size 0 rfl (f.gains.map (Value.int .i64)) _ P0.out Tryz.underlying45 rfl HFg.out ?_)
 go_loopw [23] (fun i wr=>∃ m:Nat,m<=4/\i=.int .i64 m/\WrAt wr G (tO ++ jF (f.gains.take m))/\wr.heap[w.heap.size]? = some (.cells fc 50 (0,0))/\Below w.heap.size w wr) (fun i _=>4 - (intOf i).toNat)
 case atStart=>exact ⟨0,by omega,rfl,HW2.out,HM3.out,HB3.out⟩
 case round =>
  obtain ⟨m,hm,rfl,hW,hM,hB⟩:=hrel
  have HW:=hid hW
  have HM:=hid hM
  have HB:=hid hB
  clear hW hM hB HW2 HM3 HB3 P0
  by_cases hlk:m < 4
  ·have t1:(m:Int) < 4:=by omega
   obtain ⟨x,hx⟩:=aE (k:=m) Hgl.out hlk
   obtain ⟨hc,h0,h3⟩:=HCg.out m x hx
   obtain ⟨xn,rfl⟩:=Int.eq_ofNat_of_zero_le h0
   have hix:=bR (P:=Tryz.prog) Tryz.underlying45 hlk (fun W=>by kernel_rfl) (fun W=>by kernel_rfl) hc
   have hu:=pM (n:=xn) (by omega)
   have HS:=hid (show tO ++ jF (f.gains.take (m+1))=tO ++ jF (f.gains.take m) ++ cI xn 2 by rw [zS hx,Int.toNat_natCast,List.append_assoc])
   have HP:=hid (show Calls Tryz.prog 242 #[.pointer (some ⟨G,0,none⟩),.int .u64 xn,.int .i64 2] wr _ from pS G xn 2 _ wr (by omega) (by omega) (by
    rw [List.length_append,qA,List.length_take]
    show (cI 1 2).length+_+_<=_
    rw [cC]; omega) HW.out)
   clear hx hc
   go_wp2_with (go_at_call 242; fail)
   refine HP.out.mono ?_
   rintro e w3 ⟨rfl,hw3,_,hb3⟩
   rw [<-HS.out] at hw3
   have HW3:=hid hw3
   have HM3:=hid (uR HM.out hb3 hGw)
   have HB3:=hid (HB.out.trans (hb3.mono (Nat.le_of_lt hGw)))
   clear hw3 hb3
   go_wp2
   go_roundw
   case rel=>exact ⟨m+1,by omega,by go_num,HW3.out,HM3.out,HB3.out⟩
   case measure=>simp [intOf]; omega
  ·have hm4:m=4:=by omega
   subst hm4
   have t1:¬ (((4:Nat):Int) < 4):=by omega
   have hW2:=HW.out
   rw [List.take_of_length_le (by rw [Hgl.out]; exact Nat.le_refl _),<-H2e.out] at hW2
   have HP:=hid (show Calls Tryz.prog 242 #[.pointer (some ⟨G,0,none⟩),.int .u64 n,.int .i64 2] wr _ from pS G n 2 _ wr (by omega) (by omega) (by rw [h2l]; omega) hW2)
   have P:=HPa.out _ _ HM.out
   have p4:=P.2.1
   have hu:=pM (n:=n) (by omega)
   clear hW2 P HW
   go_wp2_with (go_at_call 242; fail)
   refine HP.out.mono ?_
   rintro e w3 ⟨rfl,hw3,_,hb3⟩
   rw [<-H3e.out] at hw3
   have HW3:=hid hw3
   have HM3:=hid (uR HM.out hb3 hGw)
   have HB3:=hid (HB.out.trans (hb3.mono (Nat.le_of_lt hGw)))
   have P:=HPa.out _ _ HM3.out
   have p5:=P.2.1
   clear hw3 hb3 P p4
   go_wp2
   clear HM HB
   go_loopw [40] (fun i wr=>∃ m:Nat,m<=n/\i=.int .i64 m/\WrAt wr G (qZ f ++ gZ (f.tones.take m))/\wr.heap[w.heap.size]? = some (.cells fc 50 (0,0))/\Below w.heap.size w wr) (fun i _=>n - (intOf i).toNat)
   case atStart=>exact ⟨0,by omega,rfl,by rw [show gZ (f.tones.take 0)=[] from rfl,List.append_nil]; exact HW3.out,HM3.out,HB3.out⟩
   case round =>
    obtain ⟨m,hm,rfl,hW,hM,hB⟩:=hrel
    have HW:=hid hW
    have HM:=hid hM
    have HB:=hid hB
    clear hW hM hB HW3 HM3 HB3 p5
    by_cases hlk:m < n
    ·have t1:(m:Int) < (n:Int):=by omega
     obtain ⟨t,ht⟩:=aE (k:=m) Hn.out hlk
     obtain ⟨⟨g,off,hA,hg,k0,k1⟩,v1,v2,v3,v4⟩:=HT.out m t ht
     have c0:=(HB.out.cell (p:=⟨g,off+m*2,none⟩) hg).trans k0
     have c1:=(HB.out.cell (p:=⟨g,off+m*2+1,none⟩) hg).trans k1
     have HS:=hid (show qZ f ++ gZ (f.tones.take (m+1))=qZ f ++ gZ (f.tones.take m) ++ cI t.idx.toNat 4 ++ cI (pL t.val 24) 24 by rw [AM ht,<-List.append_assoc]; unfold RE; rw [<-List.append_assoc])
     have hln:(qZ f ++ gZ (f.tones.take m)).length<=1000:=by rw [List.length_append,qR,List.length_take,h3l]; omega
     subst hA
     obtain ⟨ix,vl⟩:=t
     simp only at c0 c1 v1 v2 v3 v4 HS
     obtain ⟨xn,rfl⟩:=Int.eq_ofNat_of_zero_le v1
     rw [Int.toNat_natCast] at HS
     have hu:=pM (n:=xn) (by omega)
     have HW1:=hid (HW.out.alloc (.cells #[.int .i64 (xn:Int),.int .i64 vl] 169))
     have HM1:=hid (aF HM.out (aL wr (.cells #[.int .i64 (xn:Int),.int .i64 vl] 169)))
     have HB1:=hid (aC HB.out (aL wr (.cells #[.int .i64 (xn:Int),.int .i64 vl] 169)))
     have HN1:=hid (heap_alloc_new wr (.cells #[.int .i64 (xn:Int),.int .i64 vl] 169))
     have hGr:G < wr.heap.size:=by obtain ⟨_,_,hh,_⟩:=HW.out; exact hlt hh
     have HP:=hid (show Calls Tryz.prog 242 #[.pointer (some ⟨G,0,none⟩),.int .u64 xn,.int .i64 4] _ _ from pS G xn 4 _ _ (by omega) (by omega) (by omega) HW1.out)
     clear ht k0 k1
     go_wp2_with (go_at_call 242; fail)
     refine HP.out.mono ?_
     rintro e w3 ⟨rfl,hw3,hk3,hb3⟩
     have HM3:=hid (uR HM1.out hb3 hGw)
     have HB3:=hid (HB1.out.trans (hb3.mono (Nat.le_of_lt hGw)))
     have n1:=cell_of_row w3 wr.heap.size 1 _ _ _ (hk3 _ _ _ _ HN1.out (by decide) (by omega))
     have HP2:=hid (show Calls Tryz.prog 243 #[.pointer (some ⟨G,0,none⟩),.int .i64 vl,.int .i64 24] w3 _ from CH G vl 24 _ w3 (by omega) (LA v3 v4) (by rw [List.length_append,cC]; omega) hw3)
     clear hw3 hk3 hb3 HP c0 c1
     go_wp2_with (go_at_call 243; fail)
     refine HP2.out.mono ?_
     rintro e w4 ⟨rfl,hw4,_,hb4⟩
     rw [<-HS.out] at hw4
     have HW4:=hid hw4
     have HM4:=hid (uR HM3.out hb4 hGw)
     have HB4:=hid (HB3.out.trans (hb4.mono (Nat.le_of_lt hGw)))
     clear hw4 hb4 n1
     go_wp2
     go_roundw
     case rel=>exact ⟨m+1,by omega,by go_num,HW4.out,HM4.out,HB4.out⟩
     case measure=>simp [intOf]; omega
    ·have hmn:m=n:=by omega
     have t1:¬ ((m:Int) < (n:Int)):=by omega
     have hW2:=HW.out
     rw [List.take_of_length_le (by rw [Hn.out]; omega),<-H4e.out] at hW2
     have HW2:=hid hW2
     clear hW2 HW
     go_wp2
     go_loopw [54] (fun i wr=>∃ m:Nat,m<=4/\i=.int .i64 m/\WrAt wr G (rA f ++ kB f.scale f.width m)/\wr.heap[w.heap.size]? = some (.cells fc 50 (0,0))/\Below w.heap.size w wr) (fun i _=>4 - (intOf i).toNat)
     case atStart=>exact ⟨0,by omega,rfl,by rw [show kB f.scale f.width 0=[] from rfl,List.append_nil]; exact HW2.out,HM.out,HB.out⟩
     case round =>
      obtain ⟨k,hk,rfl,hW,hM,hB⟩:=hrel
      have HW:=hid hW
      have HM:=hid hM
      have HB:=hid hB
      clear hW hM hB HW2
      by_cases hkk:k < 4
      ·have t2:(k:Int) < 4:=by omega
       obtain ⟨x,hx⟩:=aE (k:=k) Hsl.out hkk
       obtain ⟨y,hy⟩:=aE (k:=k) Hwl.out hkk
       obtain ⟨hcx,x0,x1⟩:=HCs.out k x hx
       obtain ⟨hcy,y0,y1⟩:=HCw.out k y hy
       obtain ⟨xn,rfl⟩:=Int.eq_ofNat_of_zero_le x0
       obtain ⟨yn,rfl⟩:=Int.eq_ofNat_of_zero_le y0
       have HS:=hid (show rA f ++ kB f.scale f.width (k+1)=rA f ++ kB f.scale f.width k ++ cI xn 5 ++ cI yn 5 by rw [nQ,<-List.append_assoc]; unfold NF; rw [aD hx,aD hy,Int.toNat_natCast,Int.toNat_natCast,<-List.append_assoc])
       have hln:(rA f ++ kB f.scale f.width k).length<=1000:=by rw [List.length_append,pU,h4l]; omega
       have P:=HPa.out _ _ HM.out
       have cx:=P.2.2.1 k _ hcx
       have hu1:=pM (n:=xn) (by omega)
       have hu2:=pM (n:=yn) (by omega)
       have HP:=hid (show Calls Tryz.prog 242 #[.pointer (some ⟨G,0,none⟩),.int .u64 xn,.int .i64 5] _ _ from pS G xn 5 _ _ (by omega) (by omega) (by omega) HW.out)
       clear P hx hy hcx
       go_wp2_with (go_at_call 242; fail)
       refine HP.out.mono ?_
       rintro e w3 ⟨rfl,hw3,_,hb3⟩
       have HM3:=hid (uR HM.out hb3 hGw)
       have HB3:=hid (HB.out.trans (hb3.mono (Nat.le_of_lt hGw)))
       have P:=HPa.out _ _ HM3.out
       have cy:=P.2.2.2.1 k _ hcy
       have HP2:=hid (show Calls Tryz.prog 242 #[.pointer (some ⟨G,0,none⟩),.int .u64 yn,.int .i64 5] w3 _ from pS G yn 5 _ w3 (by omega) (by omega) (by rw [List.length_append,cC]; omega) hw3)
       clear hw3 hb3 HP P cx hcy
       go_wp2_with (go_at_call 242; fail)
       refine HP2.out.mono ?_
       rintro e w4 ⟨rfl,hw4,_,hb4⟩
       rw [<-HS.out] at hw4
       have HW4:=hid hw4
       have HM4:=hid (uR HM3.out hb4 hGw)
       have HB4:=hid (HB3.out.trans (hb4.mono (Nat.le_of_lt hGw)))
       clear hw4 hb4 cy
       go_wp2
       go_roundw
       case rel=>exact ⟨k+1,by omega,by go_num,HW4.out,HM4.out,HB4.out⟩
       case measure=>simp [intOf]; omega
      ·have hk4:k=4:=by omega
       subst hk4
       have t2:¬ (((4:Nat):Int) < 4):=by omega
       have hW2:=HW.out
       rw [<-H5e.out] at hW2
       have HW2:=hid hW2
       have P:=HPa.out _ _ HM.out
       have P4:=hid P.2.2.2.2
       clear hW2 HW P
       go_wp2_with (refine aN rfl 48 (.tmp 72) rfl w.heap.size 13 rfl (f.q.map (Value.int .i64)) _ P4.out Tryz.underlying48 rfl HFq.out ?_)
       go_loopw [74] (fun i wr=>∃ m:Nat,m<=16/\i=.int .i64 m/\WrAt wr G (rB f ++ kR f.width f.q m)/\wr.heap[w.heap.size]? = some (.cells fc 50 (0,0))/\Below w.heap.size w wr) (fun i _=>16 - (intOf i).toNat)
       case atStart=>exact ⟨0,by omega,rfl,by rw [show kR f.width f.q 0=[] from rfl,List.append_nil]; exact HW2.out,HM.out,HB.out⟩
       case round =>
        obtain ⟨j,hj,rfl,hW,hM,hB⟩:=hrel
        have HW:=hid hW
        have HM:=hid hM
        have HB:=hid hB
        clear hW hM hB HW2 P4
        by_cases hjj:j < 16
        ·have t3:(j:Int) < 16:=by omega
         obtain ⟨x,hx⟩:=aE (k:=j) Hql.out hjj
         obtain ⟨q,hq⟩:∃ q,j / 4=q:=⟨_,rfl⟩
         have hq4:q < 4:=by omega
         obtain ⟨y,hy⟩:=aE (k:=q) Hwl.out hq4
         obtain ⟨hcy,y0,y1⟩:=HCw.out q y hy
         obtain ⟨yn,rfl⟩:=Int.eq_ofNat_of_zero_le y0
         have HBand:=hid (show ∀ W,Calls Tryz.prog 98 #[.int .i64 j] W fun e w'=>e=.returned (.int .i64 (q:Int))/\W=w' from fun W=>(oK j W hjj).mono fun e w' ⟨he,hw⟩=>⟨he.trans (cE (by omega)),hw⟩)
         have hft:=Hfit.out j hjj
         rw [aD hx,hq,aD hy,Int.toNat_natCast] at hft
         have HS:=hid (show rB f ++ kR f.width f.q (j+1)=rB f ++ kR f.width f.q j ++ cI (pL x yn) yn by rw [oD,<-List.append_assoc]; unfold Q5; rw [aD hx,hq,aD hy,Int.toNat_natCast])
         have hln:(rB f ++ kR f.width f.q j).length<=2000:=by rw [List.length_append,nK,h5l]; have:=Hws.out j (by omega); omega
         have hix:=bR (P:=Tryz.prog) Tryz.underlying48 hjj (fun W=>by kernel_rfl) (fun W=>by kernel_rfl) (HCq.out _ _ hx)
         have P:=HPa.out _ _ HM.out
         have cy:=P.2.2.2.1 q _ hcy
         have t4:(q:Int) < 4:=by omega
         have t5:(0:Int)<=(q:Int):=by omega
         have HP:=hid (CH G x yn _ wr (by omega) hft (by omega) HW.out)
         clear P hx hy hcy hft hq
         go_wp2_with (first | (go_at_call 98; refine (HBand.out _).mono ?_; rintro e w5 ⟨rfl,rfl⟩) | (go_at_call 243; fail))
         refine HP.out.mono ?_
         rintro e w3 ⟨rfl,hw3,_,hb3⟩
         rw [<-HS.out] at hw3
         have HW3:=hid hw3
         have HM3:=hid (uR HM.out hb3 hGw)
         have HB3:=hid (HB.out.trans (hb3.mono (Nat.le_of_lt hGw)))
         clear hw3 hb3 cy
         go_wp2
         go_roundw
         case rel=>exact ⟨j+1,by omega,by go_num,HW3.out,HM3.out,HB3.out⟩
         case measure=>simp [intOf]; omega
        ·have hj16:j=16:=by omega
         subst hj16
         have t3:¬ (((16:Nat):Int) < 16):=by omega
         have hW2:=HW.out
         rw [<-HFr.out] at hW2
         have HP:=hid (HBy.out wr G hW2)
         clear hW2 HW
         go_wp2_with (go_at_call 244; fail)
         refine HP.out.mono ?_
         rintro e w3 ⟨rfl,rfl⟩
         go_wp2
         refine bodyPost_ret (results_tmp2 Tryz.results205 _ _ _) rfl ?_
         exact ⟨wr.heap.size,rfl,HB.out.size,heap_alloc_new wr _,aC HB.out (aL wr _)⟩
end
section
structure RdS where
 at_:Nat
 er:Int
def rQ (B:List Nat) (i k:Nat):List Nat:=(List.range k).map fun j=>qX B (i+j)
def eE (B:List Nat) (s:RdS) (k:Nat):Nat:=if s.er ≠ 0\/8*B.length < s.at_+k then 0 else yS (rQ B s.at_ k)
def cV (B:List Nat) (s:RdS) (k:Nat):RdS:=if s.er ≠ 0 then s else if 8*B.length < s.at_+k then ⟨s.at_,2⟩ else ⟨s.at_+k,0⟩
def mV (s:RdS) (e:Int):RdS:=if s.er=0 then ⟨s.at_,e⟩ else s
def FD (B:List Nat) (s:RdS) (k:Nat):Int:=if (cV B s k).er ≠ 0\/k=0 then 0 else if eE B s k / 2 ^ (k - 1)=1 then (eE B s k:Int) - 2 ^ k else eE B s k
theorem aA6 (B:List Nat) (i:Nat):qX B i<=1:=by unfold qX; omega
theorem N7 (B:List Nat) (i k:Nat):(rQ B i k).length=k:=by simp [rQ]
theorem N6 (B:List Nat) (i k:Nat):Bin (rQ B i k):=fun b hb=>by
 unfold rQ at hb
 obtain ⟨j,_,rfl⟩:=List.mem_map.1 hb
 exact aA6 _ _
theorem YO (B:List Nat) (i k:Nat):rQ B i (k+1)=rQ B i k ++ [qX B (i+k)]:=by unfold rQ; rw [List.range_succ]; simp
theorem qC (B:List Nat) (s:RdS) (k:Nat):eE B s k < 2 ^ k:=by
 unfold eE
 split
 ·exact Nat.two_pow_pos k
 ·exact MK k _ (N7 _ _ _) (N6 _ _ _)
def InB (B:List Nat) (s:RdS):Prop:=s.at_<=8*B.length
theorem jN {B:List Nat} {s:RdS} (h:InB B s) (k:Nat):InB B (cV B s k):=by
 unfold InB at *
 unfold cV
 split
 ·exact h
 ·split
  ·exact h
  ·show s.at_+k<=_; omega
theorem OH {B:List Nat} {s:RdS} (h:InB B s) (e:Int):InB B (mV s e):=by
 unfold mV; split
 ·exact h
 ·exact h
/-! What is read of a frame. -/
def rd0 (B:List Nat):RdS:=if eE B ⟨0,0⟩ 2=1 then cV B ⟨0,0⟩ 2 else mV (cV B ⟨0,0⟩ 2) 4
def gSt (B:List Nat):Nat->RdS
 | 0=>rd0 B
 | m+1=>cV B (gSt B m) 2
def gRd (B:List Nat) (m:Nat):List Int:=(List.range 4).map fun i=>if i < m then (eE B (gSt B i) 2:Int) else 0
def NT (B:List Nat):Nat:=eE B (gSt B 4) 2
def tSt (B:List Nat):Nat->RdS
 | 0=>cV B (gSt B 4) 2
 | m+1=>cV B (cV B (tSt B m) 4) 24
def XK (B:List Nat) (i:Nat):ToneV:=⟨eE B (tSt B i) 4,FD B (cV B (tSt B i) 4) 24⟩
def tRd (B:List Nat) (m:Nat):List ToneV:=(List.range m).map (XK B)
def bSt (B:List Nat):Nat->RdS
 | 0=>tSt B (NT B)
 | m+1=>if 23 < eE B (bSt B m) 5\/24 < eE B (cV B (bSt B m) 5) 5 then mV (cV B (cV B (bSt B m) 5) 5) 4 else cV B (cV B (bSt B m) 5) 5
def sOf (B:List Nat) (i:Nat):Nat:=eE B (bSt B i) 5
def wOf (B:List Nat) (i:Nat):Nat:=eE B (cV B (bSt B i) 5) 5
def sRd (B:List Nat) (m:Nat):List Int:=(List.range 4).map fun i=>if i < m then (sOf B i:Int) else 0
def wRd (B:List Nat) (m:Nat):List Int:=(List.range 4).map fun i=>if i < m then (wOf B i:Int) else 0
def qSt (B:List Nat):Nat->RdS
 | 0=>bSt B 4
 | m+1=>cV B (qSt B m) (wOf B (m / 4))
def qOf (B:List Nat) (i:Nat):Int:=FD B (qSt B i) (wOf B (i / 4))
def qRd (B:List Nat) (m:Nat):List Int:=(List.range 16).map fun i=>if i < m then qOf B i else 0
def eQ (B:List Nat):FrameV:=⟨gRd B 4,tRd B (NT B),sRd B 4,wRd B 4,qRd B 16⟩
def DG (B:List Nat) (s:RdS):Nat->RdS
 | 0=>s
 | n+1=>if s.er ≠ 0\/8*B.length<=s.at_ then s else DG B (if eE B s 1=0 then cV B s 1 else mV (cV B s 1) 4) n
def DF (B:List Nat):Int:=(DG B (qSt B 16) (8*B.length)).er
theorem UP (B:List Nat):∀ m,InB B (gSt B m)
 | 0=>by
  show InB B (rd0 B)
  have h0:InB B ⟨0,0⟩:=Nat.zero_le _
  unfold rd0
  split
  ·exact jN h0 2
  ·exact OH (jN h0 2) 4
 | m+1=>jN (UP B m) 2
theorem V6 (B:List Nat):∀ m,InB B (tSt B m)
 | 0=>jN (UP B 4) 2
 | m+1=>jN (jN (V6 B m) 4) 24
theorem SZ (B:List Nat):∀ m,InB B (bSt B m)
 | 0=>V6 B _
 | m+1=>by
  have:=jN (jN (SZ B m) 5) 5
  unfold bSt
  split
  ·exact OH this 4
  ·exact this
theorem aB8 (B:List Nat):∀ m,InB B (qSt B m)
 | 0=>SZ B 4
 | m+1=>jN (aB8 B m) _
theorem nW (B:List Nat) (m:Nat):(gRd B m).length=4:=by simp [gRd]
theorem tA (B:List Nat) (m:Nat):(sRd B m).length=4:=by simp [sRd]
theorem tE (B:List Nat) (m:Nat):(wRd B m).length=4:=by simp [wRd]
theorem BI (B:List Nat) (m:Nat):(qRd B m).length=16:=by simp [qRd]
theorem UN (B:List Nat):(eQ B).Len:=⟨nW _ _,tA _ _,tE _ _,BI _ _⟩
theorem xC {α:Type} (n:Nat) (f g:Nat->α) {m:Nat} (hm:m < n):((List.range n).map fun i=>if i < m then f i else g i).set m (f m)=(List.range n).map fun i=>if i < m+1 then f i else g i:=by
 apply List.ext_getElem?
 intro i
 rw [List.getElem?_set]
 simp only [List.length_map,List.length_range]
 by_cases h:m=i
 ·subst h
  rw [if_pos rfl,if_pos hm,aJ _ hm,if_pos (by omega)]
 ·rw [if_neg h]
  rcases Nat.lt_or_ge i n with hi | hi
  ·rw [aJ _ hi,aJ _ hi]
   by_cases h2:i < m
   ·rw [if_pos h2,if_pos (by omega)]
   ·rw [if_neg h2,if_neg (by omega)]
  ·rw [List.getElem?_eq_none (by simpa using hi),List.getElem?_eq_none (by simpa using hi)]
/-! Bits that stand in bytes. -/
def Here (B:List Nat) (i:Nat) (L:List Nat):Prop:=i+L.length<=8*B.length/\∀ j,j < L.length->qX B (i+j)=L.getD j 0
theorem Here.left {B:List Nat} {i:Nat} {a b:List Nat} (h:Here B i (a ++ b)):Here B i a:=by
 refine ⟨by have:=h.1; rw [List.length_append] at this; omega,fun j hj=>?_⟩
 rw [h.2 j (by rw [List.length_append]; omega),List.getD_eq_getElem?_getD,List.getElem?_append_left hj,List.getD_eq_getElem?_getD]
theorem Here.right {B:List Nat} {i:Nat} {a b:List Nat} (h:Here B i (a ++ b)):Here B (i+a.length) b:=by
 refine ⟨by have:=h.1; rw [List.length_append] at this; omega,fun j hj=>?_⟩
 rw [Nat.add_assoc,h.2 (a.length+j) (by rw [List.length_append]; omega),List.getD_eq_getElem?_getD,List.getElem?_append_right (by omega),Nat.add_sub_cancel_left,List.getD_eq_getElem?_getD]
theorem Here.cut {B:List Nat} {i:Nat} {L:List Nat} (h:Here B i L):rQ B i L.length=L:=by
 apply List.ext_getElem?
 intro j
 unfold rQ
 rcases Nat.lt_or_ge j L.length with hj | hj
 ·rw [aJ _ hj,h.2 j hj,List.getD_eq_getElem?_getD,List.getElem?_eq_getElem hj]; rfl
 ·rw [List.getElem?_eq_none (by simpa using hj),List.getElem?_eq_none hj]
theorem l6 {B:List Nat} {i v k:Nat} (hv:v < 2 ^ k) (h:Here B i (cI v k)):eE B ⟨i,0⟩ k=v/\cV B ⟨i,0⟩ k=⟨i+k,0⟩:=by
 have hl:=h.1
 rw [cC] at hl
 have hc:=h.cut
 rw [cC] at hc
 have h0:¬ ((0:Int) ≠ 0):=by simp
 constructor
 ·unfold eE
  rw [if_neg (by simp only []; omega)]
  show yS (rQ B i k)=v
  rw [hc,WF v hv]
 ·unfold cV
  rw [if_neg h0,if_neg (by simp only []; omega)]
theorem aCj {v:Int} {k:Nat} (hk:0 < k) (h1:-(2 ^ (k - 1))<=v) (h2:v < 2 ^ (k - 1)):(if pL v k / 2 ^ (k - 1)=1 then (pL v k:Int) - 2 ^ k else pL v k)=v:=by
 obtain ⟨n,rfl⟩:∃ n,k=n+1:=⟨k - 1,by omega⟩
 rw [Nat.add_sub_cancel] at *
 have hp:(2:Int) ^ (n+1)=2 ^ n+2 ^ n:=by rw [Int.pow_succ]; omega
 have hc:((2 ^ n:Nat):Int)=2 ^ n:=by rw [Int.natCast_pow]; rfl
 have hpos:=Nat.two_pow_pos n
 rcases Int.lt_or_le v 0 with h | h
 ·have e:=aCi (k:=n+1) (v:=v) (by omega) h
  have e2:pL v (n+1) / 2 ^ n=1:=by
   rw [Nat.div_eq_iff hpos]
   omega
  rw [if_pos e2,e]; omega
 ·have e:=aDi (k:=n+1) (v:=v) h (by omega)
  have e2:¬ pL v (n+1) / 2 ^ n=1:=by
   rw [Nat.div_eq_of_lt (by omega)]; omega
  rw [if_neg e2,e]
theorem O0 {B:List Nat} {i k:Nat} {v:Int} (hv:cB v<=k) (h:Here B i (cI (pL v k) k)):FD B ⟨i,0⟩ k=v/\cV B ⟨i,0⟩ k=⟨i+k,0⟩:=by
 obtain ⟨g1,g2⟩:=l6 (XM v k) h
 refine ⟨?_,g2⟩
 unfold FD
 rw [g2,g1]
 rcases Nat.eq_zero_or_pos k with hk | hk
 ·subst hk
  rw [if_pos (.inr rfl)]
  have:cB v=0:=by omega
  unfold cB at this
  split at this
  ·rename_i h0; exact h0.symm
  ·omega
 ·rw [if_neg (by rintro (h | h) <;> first | exact h rfl | omega)]
  obtain ⟨n,rfl⟩:∃ n,k=n+1:=⟨k - 1,by omega⟩
  have hb:=pO (k:=n) hv
  have hc:((2 ^ n:Nat):Int)=2 ^ n:=by rw [Int.natCast_pow]; rfl
  exact aCj (by omega) (by rw [Nat.add_sub_cancel]; omega) (by rw [Nat.add_sub_cancel]; omega)
theorem aAJ {v:Int} (h1:-8388608<=v) (h2:v < 8388608):cB v<=24:=j8 (k:=23) (by omega) (by omega)
/-! A frame's bits, read again. -/
theorem OS (l:List Int) (m:Nat):jF l=jF (l.take m) ++ jF (l.drop m):=by
 unfold jF
 rw [<-List.flatten_append,<-List.map_append,List.take_append_drop]
theorem RJ (l:List ToneV) (m:Nat):gZ l=gZ (l.take m) ++ gZ (l.drop m):=by
 unfold gZ
 rw [<-List.flatten_append,<-List.map_append,List.take_append_drop]
theorem Here.bands {B:List Nat} {p:Nat} {s w:List Int} {m:Nat}:∀ d,Here B p (kB s w (m+d))->Here B p (kB s w m)
 | 0,h=>h
 | d+1,h=>Here.bands d (by rw [<-Nat.add_assoc,nQ] at h; exact h.left)
theorem Here.steps {B:List Nat} {p:Nat} {w q:List Int} {m:Nat}:∀ d,Here B p (kR w q (m+d))->Here B p (kR w q m)
 | 0,h=>h
 | d+1,h=>Here.steps d (by rw [<-Nat.add_assoc,oD] at h; exact h.left)
theorem DW {B:List Nat} {p:Nat} {l:List Int} (h:Here B p (jF l)) (hl:∀ x ∈ l,0<=x/\x<=3) {S:Nat->RdS} (h0:S 0=⟨p,0⟩) (hs:∀ m,S (m+1)=cV B (S m) 2) :
  ∀ m,m<=l.length->S m=⟨p+2*m,0⟩/\∀ i,i < m->(eE B (S i) 2:Int)=bgt l i
 | 0,_=>⟨h0,nofun⟩
 | m+1,hm=>by
  obtain ⟨h1,h2⟩:=DW h hl h0 hs m (by omega)
  obtain ⟨x,hx⟩:=aE (b:=l) (k:=m) rfl (by omega)
  have hb:=hl x (List.mem_of_getElem? hx)
  rw [OS l (m+1),zS hx] at h
  have h3:=h.left.right
  rw [qA,List.length_take,Nat.min_eq_left (by omega)] at h3
  obtain ⟨g1,g2⟩:=l6 (by omega) h3
  refine ⟨by rw [hs,h1,g2,Nat.mul_succ,Nat.add_assoc],fun i hi=>?_⟩
  by_cases him:i=m
  ·subst him; rw [h1,g1,aD hx]; omega
  ·exact h2 i (by omega)
theorem DX {B:List Nat} {p:Nat} {l:List ToneV} (h:Here B p (gZ l)) (hl:∀ t ∈ l,0<=t.idx/\t.idx < 16/\-8388608<=t.val/\t.val < 8388608) {S:Nat->RdS} (h0:S 0=⟨p,0⟩) (hs:∀ m,S (m+1)=cV B (cV B (S m) 4) 24) :
  ∀ m,m<=l.length->S m=⟨p+28*m,0⟩/\∀ i,i < m->l[i]? = some ⟨eE B (S i) 4,FD B (cV B (S i) 4) 24⟩
 | 0,_=>⟨h0,nofun⟩
 | m+1,hm=>by
  obtain ⟨h1,h2⟩:=DX h hl h0 hs m (by omega)
  obtain ⟨x,hx⟩:=aE (b:=l) (k:=m) rfl (by omega)
  have hb:=hl x (List.mem_of_getElem? hx)
  rw [RJ l (m+1),AM hx] at h
  have h3:=h.left.right
  rw [qR,List.length_take,Nat.min_eq_left (by omega)] at h3
  unfold RE at h3
  obtain ⟨g1,g2⟩:=l6 (by omega) h3.left
  have h4:=h3.right
  rw [cC] at h4
  obtain ⟨g3,g4⟩:=O0 (aAJ hb.2.2.1 hb.2.2.2) h4
  refine ⟨by rw [hs,h1,g2,g4,Nat.mul_succ,Nat.add_assoc,Nat.add_assoc],fun i hi=>?_⟩
  by_cases him:i=m
  ·subst him
   rw [h1,g1,g2,g3,hx]
   obtain ⟨ix,vl⟩:=x
   simp only at hb ⊢
   rw [Int.toNat_of_nonneg hb.1]
  ·exact h2 i (by omega)
theorem VL {f:FrameV} (h:RightF f) {size:Nat} (hsz:fT f<=8*(size:Int)):eQ (aP f size)=f/\DF (aP f size)=0:=by
 have hfl:=uP h
 have hBl:(aP f size).length=size:=by
  unfold aP
  rw [List.length_append,gW,List.length_replicate]; omega
 have hbit:∀ i,qX (aP f size) i=(jW f).getD i 0:=fun i=>S8 (DL f) _ i
 have hH:Here (aP f size) 0 (jW f):=⟨by rw [hBl]; omega,fun j _=>by rw [Nat.zero_add]; exact hbit j⟩
 have hZ:∀ i,(jW f).length<=i->qX (aP f size) i=0:=fun i hi=>by rw [hbit]; exact b7 hi
 generalize aP f size=B at *
 have e5:jW f=rB f ++ kR f.width f.q 16:=rfl
 have e4:rB f=rA f ++ kB f.scale f.width 4:=rfl
 have e3:rA f=qZ f ++ gZ f.tones:=rfl
 have e2:qZ f=zT f ++ cI f.tones.length 2:=rfl
 have e1:zT f=tO ++ jF f.gains:=rfl
 rw [e5] at hH
 have H5:=hH.left
 have Hq:=hH.right
 rw [e4] at H5
 have H4:=H5.left
 have Hb:=H5.right
 rw [e3] at H4
 have H3:=H4.left
 have Ht:=H4.right
 rw [e2] at H3
 have H2:=H3.left
 have Hc:=H3.right
 rw [e1] at H2
 have H1:=H2.left
 have Hg:=H2.right
 rw [oZ h] at Hq
 rw [xX h] at Hb
 rw [xW h] at Ht
 rw [xV h] at Hc
 rw [show tO.length=2 from rfl] at Hg
 simp only [Nat.zero_add] at Hq Hb Ht Hc Hg
 have hgl:=h.gains.1
 have hsl:=h.scale.1
 have htl:=h.tlen
 obtain ⟨a1,a2⟩:=l6 (v:=1) (k:=2) (by decide) H1
 have r0:rd0 B=⟨2,0⟩:=by unfold rd0; rw [if_pos a1,a2]
 have hgs:=fun m hm=>DW Hg (fun x hx=>by
  obtain ⟨i,hi,rfl⟩:=List.mem_iff_getElem.1 hx
  have:=h.gains.2 i (by omega)
  rwa [aD (List.getElem?_eq_getElem hi)] at this) (S:=gSt B) r0 (fun _=>rfl) m hm
 rw [hgl] at hgs
 have g4:=(hgs 4 (Nat.le_refl _)).1
 obtain ⟨c1,c2⟩:=l6 (by omega) Hc
 have hcnt:NT B=f.tones.length:=by unfold NT; rw [g4]; exact c1
 have t0:tSt B 0=⟨12,0⟩:=by show cV B (gSt B 4) 2=_; rw [g4]; exact c2
 have hts:=fun m hm=>DX Ht h.tidx (S:=tSt B) t0 (fun _=>rfl) m hm
 have b0:bSt B 0=⟨12+28*f.tones.length,0⟩:=by show tSt B (NT B)=_; rw [hcnt]; exact (hts _ (Nat.le_refl _)).1
 have hbs:∀ m,m<=4->bSt B m=⟨12+28*f.tones.length+10*m,0⟩/\∀ i,i < m->(sOf B i:Int)=bgt f.scale i/\(wOf B i:Int)=bgt f.width i:=by
  intro m
  induction m with
  | zero=>exact fun _=>⟨b0,nofun⟩
  | succ m ih =>
   intro hm
   obtain ⟨i1,i2⟩:=ih (by omega)
   have hx:=Here.bands (m:=m+1) (4 - (m+1)) (by rw [show m+1+(4 - (m+1))=4 by omega]; exact Hb)
   rw [nQ] at hx
   have hx:=hx.right
   rw [pU] at hx
   unfold NF at hx
   have hs:=h.scale.2 m (by omega)
   have hw:=h.width m (by omega)
   obtain ⟨d1,d2⟩:=l6 (by omega) hx.left
   have hx:=hx.right
   rw [cC] at hx
   obtain ⟨d3,d4⟩:=l6 (by omega) hx
   have hsv:sOf B m=(bgt f.scale m).toNat:=by unfold sOf; rw [i1]; exact d1
   have hwv:wOf B m=(bgt f.width m).toNat:=by unfold wOf; rw [i1,d2]; exact d3
   refine ⟨?_,fun i hi=>?_⟩
   ·show (if 23 < sOf B m\/24 < wOf B m then _ else cV B (cV B (bSt B m) 5) 5)=_
    rw [hsv,hwv,if_neg (by omega),i1,d2,d4]
    rw [Nat.mul_succ,Nat.add_assoc,Nat.add_assoc]
   ·by_cases him:i=m
    ·subst him; rw [hsv,hwv]; omega
    ·exact i2 i (by omega)
 have hqs:∀ m,m<=16->qSt B m=⟨52+28*f.tones.length+jK f.width m,0⟩/\∀ i,i < m->qOf B i=bgt f.q i:=by
  intro m
  induction m with
  | zero=>exact fun _=>⟨by show bSt B 4=_; rw [(hbs 4 (Nat.le_refl _)).1]; congr 1; show _=_+0; omega,nofun⟩
  | succ m ih =>
   intro hm
   obtain ⟨i1,i2⟩:=ih (by omega)
   have hx:=Here.steps (m:=m+1) (16 - (m+1)) (by rw [show m+1+(16 - (m+1))=16 by omega]; exact Hq)
   rw [oD] at hx
   have hx:=hx.right
   rw [nK] at hx
   unfold Q5 at hx
   have hwv:=((hbs 4 (Nat.le_refl _)).2 (m / 4) (by omega)).2
   have hw:wOf B (m / 4)=(bgt f.width (m / 4)).toNat:=by omega
   have hq:=h.q m (by omega)
   obtain ⟨d1,d2⟩:=O0 (by omega) hx
   have hqv:qOf B m=bgt f.q m:=by unfold qOf; rw [i1,hw]; exact d1
   refine ⟨?_,fun i hi=>?_⟩
   ·show cV B (qSt B m) (wOf B (m / 4))=_
    rw [i1,hw,d2,uD,<-Nat.add_assoc]
   ·by_cases him:i=m
    ·subst him; exact hqv
    ·exact i2 i (by omega)
 constructor
 ·obtain ⟨gg,ts,sc,wd,q⟩:=f
  have k1:gRd B 4=gg:=gG (nW _ _) hgl (fun j hj=>by unfold gRd; rw [aD (aJ _ hj),if_pos hj]; exact (hgs 4 (Nat.le_refl _)).2 j hj)
  have k2:tRd B (NT B)=ts:=by
   rw [hcnt]
   apply List.ext_getElem?
   intro j
   rcases Nat.lt_or_ge j ts.length with hj | hj
   ·unfold tRd
    rw [aJ _ hj]
    exact ((hts _ (Nat.le_refl _)).2 j hj).symm
   ·rw [List.getElem?_eq_none (by simpa [tRd] using hj),List.getElem?_eq_none hj]
  have k3:sRd B 4=sc:=gG (tA _ _) hsl (fun j hj=>by unfold sRd; rw [aD (aJ _ hj),if_pos hj]; exact ((hbs 4 (Nat.le_refl _)).2 j hj).1)
  have k4:wRd B 4=wd:=gG (tE _ _) h.wlen (fun j hj=>by unfold wRd; rw [aD (aJ _ hj),if_pos hj]; exact ((hbs 4 (Nat.le_refl _)).2 j hj).2)
  have k5:qRd B 16=q:=gG (BI _ _) h.qlen (fun j hj=>by unfold qRd; rw [aD (aJ _ hj),if_pos hj]; exact (hqs 16 (Nat.le_refl _)).2 j hj)
  unfold eQ
  rw [k1,k2,k3,k4,k5]
 ·have hend:∀ n i,(jW f).length<=i->(DG B ⟨i,0⟩ n).er=0:=by
   intro n
   induction n with
   | zero=>exact fun _ _=>rfl
   | succ n ih =>
    intro i hi
    unfold DG
    split
    ·rfl
    ·rename_i hc
     have hlt:i+1<=8*B.length:=by simp at hc; omega
     have hx:Here B i (cI 0 1):=⟨by rw [cC]; exact hlt,fun j hj=>by
      rw [cC] at hj
      obtain rfl:j=0:=by omega
      rw [hZ _ (by omega)]; rfl⟩
     obtain ⟨d1,d2⟩:=l6 (by decide) hx
     rw [if_pos d1,d2]
     exact ih (i+1) (by omega)
  unfold DF
  rw [(hqs 16 (Nat.le_refl _)).1]
  refine hend _ _ ?_
  rw [e5,List.length_append,oZ h,nK]
  exact Nat.le_refl _
end
section
open Go.Lib (hid)
open Go.RowKit
def j9 (W:World) (g:Nat) (A:Option Addr) (c n:Nat) (s:RdS):Prop:=W.heap[g]? = some (.cells #[.slice A n c,.int .i64 s.at_,.int .i64 s.er] 238 (0,0))
theorem jX {a b c:World} {row:Option Nat} (h:a.grownBy b row) (k:b.grownBy c row):a.grownBy c row :=
 ⟨k.os.trans h.os,k.tape.trans h.tape,k.output.trans h.output,Nat.le_trans h.size k.size,fun i hi hr=>(k.block i (Nat.lt_of_lt_of_le hi h.size) hr).trans (h.block i hi hr)⟩
theorem uQ (a:World) (row:Option Nat):a.grownBy a row:=⟨rfl,rfl,rfl,Nat.le_refl _,fun _ _ _=>rfl⟩
theorem mZ {W W':World} {row:Option Nat} (h:Below W.heap.size W W'):W.grownBy W' row :=
 ⟨h.os,h.tape,h.output,h.size,fun k hk _=>h.block k hk⟩
theorem iH {W:World} (g o:Nat) (v:Value):W.grownBy (W.setCell ⟨g,o,none⟩ v) (some g):=⟨rfl,rfl,rfl,by simp,fun k _ hk=>Below.heap_setCell _ _ _ _ (fun e=>hk (by rw [e]))⟩
def RBytesAt (W:World) (g:Nat) (A:Option Addr) (B:List Nat):Prop:=Row W W.heap.size A (u8s B)/\(B ≠ []->∀ ad,A=some ad->ad.block ≠ g)
theorem RBytesAt.grown {W W':World} {g:Nat} {A:Option Addr} {B:List Nat} (h:RBytesAt W g A B) (hg:W.grownBy W' (some g)):RBytesAt W' g A B:=by
 refine ⟨fun i v hv=>?_,h.2⟩
 obtain ⟨b,off,ha,hb,hc⟩:=h.1 i v hv
 refine ⟨b,off,ha,Nat.lt_of_lt_of_le hb hg.size,?_⟩
 rw [World.cell?_of_block (w:=W) (hg.block b hb (fun he=>by injection he with he; exact h.2 (fun hB=>by rw [hB] at hv; simp [u8s] at hv) _ ha he))]
 exact hc
theorem KL (A:Option Addr) (c n:Nat) (w:World):Calls Tryz.prog 94 #[.slice A n c] w fun e w' =>
  e=.returned (.pointer (some ⟨w.heap.size,0,none⟩))/\j9 w' w.heap.size A c n ⟨0,0⟩/\Below w.heap.size w w':=by
 unfold j9
 have H:=hid (heap_alloc_new w (.cells #[.slice A n c,.int .i64 0,.int .i64 0] 238))
 have HB:=hid (aL w (.cells #[.slice A n c,.int .i64 0,.int .i64 0] 238))
 go_enter Tryz.func94,Tryz.ntmps94
 go_wp2
 go_ret
 exact ⟨rfl,H.out,HB.out⟩
theorem MR (g:Nat) (A:Option Addr) (c n:Nat) (s:RdS) (er:Int) (w:World) (h:j9 w g A c n s) :
  Calls Tryz.prog 96 #[.pointer (some ⟨g,0,none⟩),.int .i64 er] w fun e w'=>e=.returned (.tuple #[])/\j9 w' g A c n (mV s er)/\w.grownBy w' (some g):=by
 obtain ⟨a,e0⟩:=s
 unfold j9 at *
 have H:=hid h
 have c2:w.cell? ⟨g,2,none⟩=some (.int .i64 e0):=cell_of_row w g 2 _ _ _ h
 have fz:w.frozen? ⟨g,2,none⟩=false:=frozen_of_row w g 2 _ _ h
 clear h
 by_cases he:e0=0
 ·subst he
  have t1:((0:Int) == 0)=true:=rfl
  go_enter Tryz.func96,Tryz.ntmps96
  go_wp2
  refine bodyPost_end (v:=.tuple #[]) (results_none Tryz.results96 _ _ _) rfl ?_
  refine ⟨rfl,?_,iH _ _ _⟩
  rw [heap_setCell_same w g 2 _ _ _ H.out]
  rfl
 ·have t1:(e0 == 0)=false:=beq_eq_false_iff_ne.2 he
  have HF:=hid (show mV ⟨a,e0⟩ er=⟨a,e0⟩ from if_neg he)
  rw [HF.out]
  clear he
  go_enter Tryz.func96,Tryz.ntmps96
  go_wp2
  refine bodyPost_end (v:=.tuple #[]) (results_none Tryz.results96 _ _ _) rfl ?_
  exact ⟨rfl,H.out,uQ _ _⟩
def zZ (n:Nat) (s:RdS):Int:=if s.er=0 then 8*(n:Int) - (s.at_:Int) else 0
theorem MW (g:Nat) (A:Option Addr) (c n:Nat) (s:RdS) (w:World) (hn:n<=1000000) (hs:s.at_<=8*n) (h:j9 w g A c n s) :
  Calls Tryz.prog 138 #[.pointer (some ⟨g,0,none⟩)] w fun e w'=>e=.returned (.int .i64 (zZ n s))/\Below w.heap.size w w':=by
 obtain ⟨a,e0⟩:=s
 unfold j9 at h
 have c0:w.cell? ⟨g,0,none⟩=some (.slice A n c):=cell_of_row w g 0 _ _ _ h
 have c1:w.cell? ⟨g,1,none⟩=some (.int .i64 a):=cell_of_row w g 1 _ _ _ h
 have c2:w.cell? ⟨g,2,none⟩=some (.int .i64 e0):=cell_of_row w g 2 _ _ _ h
 simp only at hs
 have H:=hid h
 clear h
 by_cases he:e0=0
 ·subst he
  have t1:((0:Int) != 0)=false:=rfl
  have HL:=hid (show zZ n ⟨a,0⟩=8*(n:Int) - (a:Int) from if_pos rfl)
  rw [HL.out]
  have x5:=dW H.out
  go_enter Tryz.func138,Tryz.ntmps138
  go_wp2_with fail
  refine aR (by kernel_rfl) (by kernel_rfl) ?_
  repeat (go_big_quiet_step (fail))
  refine wpQuiet_nil ?_
  intro w5 hw'
  have E5:=hid (aK hw')
  clear hw' x5
  go_wp2
  go_ret
  exact ⟨rfl,E5.out⟩
 ·have t1:(e0 != 0)=true:=by simp [he]
  have HL:=hid (show zZ n ⟨a,e0⟩=0 from if_neg he)
  rw [HL.out]
  clear he
  go_enter Tryz.func138,Tryz.ntmps138
  go_wp2
  go_ret
  exact ⟨rfl,Below.refl _ _⟩
theorem aCq (B:List Nat) (i m:Nat):yS (rQ B i (m+1))=2*yS (rQ B i m)+qX B (i+m):=by rw [YO,yT]
theorem KD (B:List Nat) (g:Nat) (A:Option Addr) (c:Nat) (s:RdS) (k:Nat) (w:World) (hk:k<=57) (hn:B.length<=1000000) (hb:∀ x ∈ B,x < 256) (hs:InB B s) (hB:RBytesAt w g A B) (h:j9 w g A c B.length s) :
  Calls Tryz.prog 95 #[.pointer (some ⟨g,0,none⟩),.int .i64 k] w fun e w'=>e=.returned (.int .u64 (eE B s k))/\j9 w' g A c B.length (cV B s k)/\w.grownBy w' (some g):=by
 obtain ⟨a,e0⟩:=s
 unfold InB at hs
 simp only at hs
 have H:=hid h
 have c2:w.cell? ⟨g,2,none⟩=some (.int .i64 e0):=cell_of_row w g 2 _ _ _ h
 have t2:decide ((k:Int) < 0)=false:=decide_eq_false (by omega)
 have t3:decide ((57:Int) < (k:Int))=false:=decide_eq_false (by omega)
 obtain ⟨n,hnn⟩:∃ n,B.length=n:=⟨_,rfl⟩
 rw [hnn] at hn hs H h ⊢
 have HN:=hid hnn
 by_cases he:e0=0
 ·subst he
  have HL:=hid (MW g A c n ⟨a,0⟩ w hn hs h)
  rw [show zZ n ⟨a,0⟩=8*(n:Int) - (a:Int) from if_pos rfl] at HL
  have t1:((0:Int) != 0)=false:=rfl
  by_cases hr:8*n < a+k
  ·have t4:8*(n:Int) - (a:Int) < (k:Int):=by omega
   have HV:=hid (show eE B ⟨a,0⟩ k=0 from if_pos (.inr (by rw [hnn]; exact hr)))
   have HS:=hid (show cV B ⟨a,0⟩ k=⟨a,2⟩ by unfold cV; rw [if_neg (by simp),if_pos (by rw [hnn]; exact hr)])
   rw [HV.out,HS.out]
   have fz:∀ W,Below w.heap.size w W->W.frozen? ⟨g,2,none⟩=false:=fun W hW=>frozen_of_row W g 2 _ _ (aF h hW)
   have ck:∀ W,Below w.heap.size w W->W.cell? ⟨g,2,none⟩=some (.int .i64 0):=fun W hW=>cell_of_row W g 2 _ _ _ (aF h hW)
   have FZ:=hid fz
   have CK:=hid ck
   obtain ⟨K,hK⟩:∃ K:Int,8*(n:Int) - (a:Int)=K:=⟨_,rfl⟩
   rw [hK] at HL t4
   clear h fz ck hK
   go_enter Tryz.func95,Tryz.ntmps95
   go_wp2_with (go_at_call 138; fail)
   refine HL.out.mono ?_
   rintro e w1 ⟨rfl,hb1⟩
   have f1:=FZ.out w1 hb1
   have c1:=CK.out w1 hb1
   have B1:=hid hb1
   clear hb1
   go_wp2
   go_ret
   refine ⟨rfl,?_,jX (mZ B1.out) (iH _ _ _)⟩
   show _=_
   rw [heap_setCell_same w1 g 2 _ _ _ (aF H.out B1.out)]
   rfl
  ·have t4:¬ (8*(n:Int) - (a:Int) < (k:Int)):=by omega
   have HV:=hid (show eE B ⟨a,0⟩ k=yS (rQ B a k) from if_neg (by rw [hnn]; simp only [ne_eq,not_true_eq_false,false_or]; exact hr))
   have HS:=hid (show cV B ⟨a,0⟩ k=⟨a+k,0⟩ by unfold cV; rw [if_neg (by simp),if_neg (by rw [hnn]; exact hr)])
   rw [HV.out,HS.out]
   have HBy:=hid hB
   have Hb:=hid hb
   obtain ⟨K,hK⟩:∃ K:Int,8*(n:Int) - (a:Int)=K:=⟨_,rfl⟩
   rw [hK] at HL t4
   clear h hB hb hK
   go_enter Tryz.func95,Tryz.ntmps95
   go_wp2_with (go_at_call 138; fail)
   refine HL.out.mono ?_
   rintro e w1 ⟨rfl,hb1⟩
   have R1:=hid (show j9 w1 g A c n ⟨a,0⟩ from aF H.out hb1)
   have G1:=hid (show w.grownBy w1 (some g) from mZ hb1)
   clear hb1 H c2
   go_wp2_with fail
   go_loopw [5,31] (fun v i wr=>∃ m:Nat,m<=k/\i=.int .i64 m/\v=.int .u64 (yS (rQ B a m))/\j9 wr g A c n ⟨a+m,0⟩/\w.grownBy wr (some g)) (fun _ i _=>k - (intOf i).toNat)
   case atStart=>exact ⟨0,by omega,rfl,rfl,R1.out,G1.out⟩
   case round =>
    obtain ⟨m,hm,rfl,rfl,hR,hG⟩:=hrel
    have HR:=hid hR
    have HG:=hid hG
    clear R1 G1 hG
    by_cases hlk:m < k
    ·have t5:(m:Int) < (k:Int):=by omega
     obtain ⟨q,hq⟩:∃ q,(a+m) / 8=q:=⟨_,rfl⟩
     obtain ⟨p,hp⟩:∃ p,7 - (a+m) % 8=p:=⟨_,rfl⟩
     have hqn:q < n:=by omega
     obtain ⟨x,hx⟩:=aE (k:=q) HN.out hqn
     have hx256:=Hb.out x (List.mem_of_getElem? hx)
     obtain ⟨b,off,rfl,hbl,hcell⟩:=(HBy.out.grown HG.out).1 q (.int .u8 (x:Int)) (d9 hx)
     have HV1:=hid (aCq B a m)
     have hbit:qX B (a+m)=x / 2 ^ p % 2:=by unfold qX; rw [hq,hp,List.getD_eq_getElem?_getD,hx]; rfl
     rw [hbit] at HV1
     have hv57:=MK m (rQ B a m) (N7 _ _ _) (N6 _ _ _)
     have hv2:2 ^ m<=2 ^ 56:=Nat.pow_le_pow_right (by decide) (by omega)
     obtain ⟨V,hV⟩:∃ V,yS (rQ B a m)=V:=⟨_,rfl⟩
     rw [hV] at HV1 hv57
     rw [hV]
     obtain ⟨y,hy⟩:∃ y,x / 2 ^ p % 2=y:=⟨_,rfl⟩
     rw [hy] at HV1
     have hy1:y<=1:=by omega
     have hxd:(x:Int) / 2 ^ p=((x / 2 ^ p:Nat):Int):=by rw [show (2:Int) ^ p=((2 ^ p:Nat):Int) by rw [Int.natCast_pow]; rfl]; exact (Int.natCast_ediv x (2 ^ p)).symm
     have hxle:x / 2 ^ p<=x:=Nat.div_le_self _ _
     have hand:bits .and .u8 ((x:Int) / 2 ^ p) 1=(y:Int):=by
      rw [hxd,show (1:Int)=2 ^ 1 - 1 from rfl,bits_mask .u8 8 (by decide) wraps_u8 1 (by decide) _ (Int.natCast_nonneg _) (by omega)]
      omega
     have hor:bits .or .u64 ((V:Int)*2) (y:Int)=((2*V+y:Nat):Int):=by
      have h0:(V:Int)*2=((2*V:Nat):Int):=by omega
      rw [h0,u64_or_nat _ _ (by omega) (by omega)]
      congr 1
      rcases Nat.lt_or_ge y 1 with h | h
      ·have:y=0:=by omega
       subst this; simp
      ·have:y=1:=by omega
       subst this
       have:=aB0 (x:=2*V) (s:=0) (b:=1) (by omega) (by omega)
       simpa using this
     have hw1:IntKind.u64.wrap ((V:Int)*2)=(V:Int)*2:=by rw [IntKind.wrap_u64]; omega
     have hw2:IntKind.u64.wrap (y:Int)=(y:Int):=by rw [IntKind.wrap_u64]; omega
     have u1:((a+m:Nat):Int) / 8=(q:Int):=by omega
     have u2:(7:Int) - ((a+m:Nat):Int) % 8=(p:Int):=by omega
     have u3:(0:Int)<=(q:Int):=by omega
     have u4:(q:Int) < (n:Int):=by omega
     have u5:(0:Int)<=(p:Int):=by omega
     have u6:(p:Int)<=8:=by omega
     have x5:=dW (show wr.heap[g]? = some (.cells #[.slice (some ⟨b,off,none⟩) n c,.int .i64 ((a+m:Nat):Int),.int .i64 0] 238 (0,0)) from HR.out)
     have y5:=fun (x:GW wr)=>(BC x (p:=⟨b,off+q,none⟩) hbl).trans hcell
     obtain ⟨am,ham⟩:∃ am,a+m=am:=⟨_,rfl⟩
     have Ham:=hid ham
     rw [ham] at u1 u2 x5
     clear hx hcell hR hbit hy hV hq hp ham hxd hxle
     go_wp2_with fail
     refine aR (by kernel_rfl) (by kernel_rfl) ?_
     repeat (go_big_quiet_step (fail))
     refine wpQuiet_nil ?_
     intro w5 hw'
     have hb5:=aK hw'
     have R5:=hid (show j9 w5 g (some ⟨b,off,none⟩) c n ⟨a+m,0⟩ from aF HR.out hb5)
     have G5:=hid (jX HG.out (mZ hb5))
     have d1:w5.cell? ⟨g,1,none⟩=some (.int .i64 (am:Int)):=by rw [<-Ham.out]; exact cell_of_row w5 g 1 _ _ _ R5.out
     have z1:w5.frozen? ⟨g,1,none⟩=false:=frozen_of_row w5 g 1 _ _ R5.out
     clear hw' hb5 x5 y5
     go_wp2
     go_roundw
     case rel =>
      refine ⟨m+1,by omega,by go_num,by rw [HV1.out]; exact congrArg _ (by omega),?_,jX G5.out (iH _ _ _)⟩
      show _=_
      rw [heap_setCell_same w5 g 1 _ _ _ R5.out,<-Ham.out]
      simp
      omega
     case measure=>simp [intOf]; omega
    ·have hmk:m=k:=by omega
     subst hmk
     have t5:¬ ((m:Int) < (m:Int)):=by omega
     go_wp2
     go_ret
     exact ⟨rfl,HR.out,HG.out⟩
 ·have t1:(e0 != 0)=true:=by simp [he]
  have HV:=hid (show eE B ⟨a,e0⟩ k=0 from if_pos (.inl he))
  have HS:=hid (show cV B ⟨a,e0⟩ k=⟨a,e0⟩ from if_pos he)
  rw [HV.out,HS.out]
  clear he h
  go_enter Tryz.func95,Tryz.ntmps95
  go_wp2
  go_ret
  exact ⟨rfl,H.out,uQ _ _⟩
end
section
open Go.Lib (hid)
open Go.RowKit
theorem M4 (B:List Nat) (g:Nat) (A:Option Addr) (c:Nat) (s:RdS) (k:Nat) (w:World) (hk:k<=57) (hn:B.length<=1000000) (hb:∀ x ∈ B,x < 256) (hs:InB B s) (hB:RBytesAt w g A B) (h:j9 w g A c B.length s) :
  Calls Tryz.prog 97 #[.pointer (some ⟨g,0,none⟩),.int .i64 k] w fun e w'=>e=.returned (.int .i64 (FD B s k))/\j9 w' g A c B.length (cV B s k)/\w.grownBy w' (some g):=by
 have HG:=hid (KD B g A c s k w hk hn hb hs hB h)
 have hlt:=qC B s k
 have hse:FD B s k=if (cV B s k).er ≠ 0\/k=0 then 0 else if eE B s k / 2 ^ (k - 1)=1 then (eE B s k:Int) - 2 ^ k else eE B s k:=rfl
 have HSe:=hid hse
 generalize FD B s k=Z at *
 generalize eE B s k=V at *
 generalize cV B s k=S at *
 generalize B.length=n at *
 obtain ⟨a,er⟩:=S
 simp only at HSe
 have hp57:2 ^ k<=2 ^ 57:=Nat.pow_le_pow_right (by decide) (by omega)
 clear hse hb hs hB h
 by_cases he:er=0
 ·by_cases hk0:k=0
  ·have HZ:=hid (show Z=0 by rw [HSe.out,if_pos (.inr hk0)])
   subst he hk0
   have t2:(((0:Nat):Int) == 0)=true:=rfl
   rw [HZ.out]
   go_enter Tryz.func97,Tryz.ntmps97
   go_wp2_with (go_at_call 95; fail)
   refine HG.out.mono ?_
   rintro e w1 ⟨rfl,hR,hg⟩
   have R1:=hid hR
   have c2:w1.cell? ⟨g,2,none⟩=some (.int .i64 0):=cell_of_row w1 g 2 _ _ _ hR
   clear hR
   go_wp2
   go_ret
   exact ⟨rfl,R1.out,hg⟩
  ·have hZ:Z=if V / 2 ^ (k - 1)=1 then (V:Int) - 2 ^ k else V:=by rw [HSe.out,if_neg (by rintro (h | h) <;> contradiction)]
   subst he
   obtain ⟨j,rfl⟩:∃ j,k=j+1:=⟨k - 1,by omega⟩
   rw [Nat.add_sub_cancel] at hZ
   have t2:(((j+1:Nat):Int) == 0)=false:=beq_eq_false_iff_ne.2 (by omega)
   have t3:((j+1:Nat):Int) - 1=(j:Int):=by omega
   have t4:(0:Int)<=(j:Int):=by omega
   have t5:(j:Int)<=64:=by omega
   have hdiv:(V:Int) / 2 ^ j=((V / 2 ^ j:Nat):Int):=by rw [show (2:Int) ^ j=((2 ^ j:Nat):Int) by rw [Int.natCast_pow]; rfl]; exact (Int.natCast_ediv V (2 ^ j)).symm
   have hw1:IntKind.i64.wrap (V:Int)=(V:Int):=IntWalk.i64_in _ (by omega)
   have hpc:(2:Int) ^ (j+1)=((2 ^ (j+1):Nat):Int):=by rw [Int.natCast_pow]; rfl
   have hw2:IntKind.i64.wrap (1*2 ^ (j+1))=2 ^ (j+1):=by rw [Int.one_mul,hpc]; exact IntWalk.i64_in _ (by omega)
   have hw3:IntKind.i64.wrap ((V:Int) - 2 ^ (j+1))=(V:Int) - 2 ^ (j+1):=by rw [hpc]; exact IntWalk.i64_in _ (by omega)
   have hw4:IntKind.i64.wrap (2 ^ (j+1))=2 ^ (j+1):=by rw [hpc]; exact IntWalk.i64_in _ (by omega)
   obtain ⟨U,hU⟩:∃ U:Int,(2:Int) ^ (j+1)=U:=⟨_,rfl⟩
   rw [hU] at hw2 hw3 hw4 hZ
   obtain ⟨d,hd⟩:∃ d,V / 2 ^ j=d:=⟨_,rfl⟩
   rw [hd] at hdiv hZ
   have t6:(0:Int)<=((j+1:Nat):Int):=by omega
   have t7:((j+1:Nat):Int)<=64:=by omega
   obtain ⟨bt,hbt⟩:∃ bt,((d:Int) == 1)=bt:=⟨_,rfl⟩
   have hZ2:Z=if bt then (V:Int) - U else V:=by
    rw [hZ]
    cases bt
    ·have:=beq_eq_false_iff_ne.1 hbt
     rw [if_neg (by omega)]; rfl
    ·have:=beq_iff_eq.1 hbt
     rw [if_pos (by omega)]; rfl
   have HZ:=hid hZ2
   generalize hK:((j+1:Nat):Int)=K at *
   have hUK:(2:Int) ^ K.toNat=U:=by rw [<-hK,Int.toNat_natCast]; exact hU
   clear hZ hZ2 hp57 hlt hU hK HSe hpc hd
   cases bt
   all_goals
    rw [HZ.out]
    go_enter Tryz.func97,Tryz.ntmps97
    go_wp2_with (go_at_call 95; fail)
    refine HG.out.mono ?_
    rintro e w1 ⟨rfl,hR,hg⟩
    have R1:=hid hR
    have c2:w1.cell? ⟨g,2,none⟩=some (.int .i64 0):=cell_of_row w1 g 2 _ _ _ hR
    clear hR
    go_wp2
    go_ret
    exact ⟨rfl,R1.out,hg⟩
 ·have HZ:=hid (show Z=0 by rw [HSe.out,if_pos (.inl he)])
  have t1:(er != 0)=true:=by simp [he]
  rw [HZ.out]
  clear he
  go_enter Tryz.func97,Tryz.ntmps97
  go_wp2_with (go_at_call 95; fail)
  refine HG.out.mono ?_
  rintro e w1 ⟨rfl,hR,hg⟩
  have R1:=hid hR
  have c2:w1.cell? ⟨g,2,none⟩=some (.int .i64 er):=cell_of_row w1 g 2 _ _ _ hR
  clear hR
  go_wp2
  go_ret
  exact ⟨rfl,R1.out,hg⟩
def aDE (g N:Nat) (w:World):Nat:=match w.cell? ⟨g,2,none⟩,w.cell? ⟨g,1,none⟩ with
 | some (.int _ e),some (.int _ a)=>if e=0 then N+1 - a.toNat else 0
 | _,_=>0
theorem LQ {w:World} {g:Nat} {A:Option Addr} {c n:Nat} {s:RdS} (N:Nat) (h:j9 w g A c n s):aDE g N w=if s.er=0 then N+1 - s.at_ else 0:=by
 unfold j9 at h
 unfold aDE
 rw [show w.cell? ⟨g,1,none⟩=some (.int .i64 s.at_) from cell_of_row w g 1 _ _ _ h,show w.cell? ⟨g,2,none⟩=some (.int .i64 s.er) from cell_of_row w g 2 _ _ _ h]
 simp
def aCE (B:List Nat) (s:RdS):RdS:=if eE B s 1=0 then cV B s 1 else mV (cV B s 1) 4
theorem YU {B:List Nat} {s:RdS} {f:Nat} (h1:s.er=0) (h2:s.at_ < 8*B.length):DG B s (f+1)=DG B (aCE B s) f:=by
 show (if s.er ≠ 0\/8*B.length<=s.at_ then s else _)=_
 rw [if_neg (by rintro (h | h) <;> omega)]; rfl
theorem YV {B:List Nat} {s:RdS} {f:Nat} (h:s.er ≠ 0\/8*B.length<=s.at_):DG B s f=s:=by
 cases f with
 | zero=>rfl
 | succ f =>
  show (if s.er ≠ 0\/8*B.length<=s.at_ then s else _)=_
  rw [if_pos h]
theorem aBr {B:List Nat} {s:RdS} (h1:s.er=0) (h2:s.at_ < 8*B.length):cV B s 1=⟨s.at_+1,0⟩:=by
 unfold cV
 rw [if_neg (by omega),if_neg (by omega)]
theorem aCs (B:List Nat) (g:Nat) (A:Option Addr) (c:Nat) (s:RdS) (w:World) (hn:B.length<=1000000) (hb:∀ x ∈ B,x < 256) (hs:InB B s) (hB:RBytesAt w g A B) (h:j9 w g A c B.length s) :
  Calls Tryz.prog 99 #[.pointer (some ⟨g,0,none⟩)] w fun e w'=>e=.returned (.int .i64 (DG B s (8*B.length)).er)/\w.grownBy w' (some g):=by
 have HG:=hid (fun s W (hi:InB B s) (h:j9 W g A c B.length s) (hW:w.grownBy W (some g))=>KD B g A c s 1 W (by omega) hn hb hi (hB.grown hW) h)
 have HL:=hid (fun s W (hi:InB B s) (h:j9 W g A c B.length s)=>MW g A c B.length s W hn hi h)
 have HF:=hid (fun s W (h:j9 W g A c B.length s)=>MR g A c B.length s 4 W h)
 have H:=hid h
 have HS:=hid hs
 obtain ⟨E,hE⟩:∃ E,DG B s (8*B.length)=E:=⟨_,rfl⟩
 obtain ⟨N,hN⟩:∃ N,8*B.length=N:=⟨_,rfl⟩
 have HN:=hid hN
 rw [hE]
 have HE:=hid hE
 clear hE hN h hs hb hB
 go_enter Tryz.func99,Tryz.ntmps99
 go_wp2
 go_loopw [] (fun wr=>∃ (s':RdS) (f:Nat),InB B s'/\DG B s' f=E/\N<=s'.at_+f/\j9 wr g A c B.length s'/\w.grownBy wr (some g)) (fun wr=>aDE g N wr)
 case atStart=>exact ⟨s,N,HS.out,by rw [<-HN.out]; exact HE.out,by omega,H.out,uQ _ _⟩
 case round =>
  obtain ⟨s',f,hi,he,hf,hR,hG⟩:=hrel
  have HI:=hid hi
  have HQ:=hid he
  have HR:=hid hR
  have HG1:=hid hG
  have hmu:=LQ N hR
  have HMu:=hid hmu
  unfold InB at hi
  rw [HN.out] at hi
  have h2:∀ W,j9 W g A c B.length s'->W.cell? ⟨g,2,none⟩=some (.int .i64 s'.er):=fun W h=>cell_of_row W g 2 _ _ _ h
  have H2:=hid h2
  have HLf:=hid (HL.out s' wr HI.out HR.out)
  clear he hR hG hmu h2 H HE
  by_cases hgo:s'.er=0/\s'.at_ < N
  ·obtain ⟨h0,hlt⟩:=hgo
   have hl:zZ B.length s'=((N - s'.at_:Nat):Int):=by
    unfold zZ
    rw [if_pos h0]
    have:=HN.out
    omega
   rw [hl] at HLf
   have t1:(0:Int) < ((N - s'.at_:Nat):Int):=by omega
   obtain ⟨K,hK⟩:∃ K:Int,((N - s'.at_:Nat):Int)=K:=⟨_,rfl⟩
   rw [hK] at HLf t1
   have hS1:=aBr h0 (show s'.at_ < 8*B.length by rw [HN.out]; exact hlt)
   obtain ⟨f',rfl⟩:∃ f',f=f'+1:=⟨f - 1,by omega⟩
   have HSt:=hid (YU (f:=f') h0 (show s'.at_ < 8*B.length by rw [HN.out]; exact hlt))
   have HNx:=hid (show aCE B s'=if eE B s' 1=0 then cV B s' 1 else mV (cV B s' 1) 4 from rfl)
   have HIn:=hid (jN HI.out 1)
   have HFl:=hid (show mV (⟨s'.at_+1,0⟩:RdS) 4=⟨s'.at_+1,4⟩ from rfl)
   obtain ⟨v,hv⟩:∃ v,eE B s' 1=v:=⟨_,rfl⟩
   have HV:=hid hv
   rw [hv,hS1,HFl.out] at HNx
   rw [hS1] at HIn
   have HS1:=hid hS1
   have H0:=hid h0
   clear hK hl hS1 hv h0
   go_wp2_with (go_at_call 138; fail)
   refine HLf.out.mono ?_
   rintro e w1 ⟨rfl,hb1⟩
   have R1:=hid (show j9 w1 g A c B.length s' from aF HR.out hb1)
   have G1:=hid (jX HG1.out (mZ hb1))
   clear hb1
   go_wp2_with (go_at_call 95; fail)
   refine (HG.out s' w1 HI.out R1.out G1.out).mono ?_
   rintro e w2 ⟨rfl,hR2,hg2⟩
   rw [HS1.out] at hR2
   have R2:=hid hR2
   have G2:=hid (jX G1.out hg2)
   clear hR2 hg2 R1 G1
   rw [HV.out]
   rcases Nat.eq_zero_or_pos v with hv0 | hv0
   ·subst hv0
    have t2:(((0:Nat):Int) != 0)=false:=rfl
    have HNy:=hid (show aCE B s'=⟨s'.at_+1,0⟩ from HNx.out)
    go_wp2
    go_roundw
    case rel=>exact ⟨_,f',HIn.out,by rw [<-HNy.out,<-HSt.out]; exact HQ.out,by show N<=s'.at_+1+f'; omega,R2.out,G2.out⟩
    case measure =>
     rw [LQ N R2.out,HMu.out,if_pos H0.out]
     simp only []
     split <;> omega
   ·have t2:((v:Int) != 0)=true:=by simp; omega
    have HNy:=hid (show aCE B s'=⟨s'.at_+1,4⟩ by rw [HNx.out,if_neg (by omega)])
    have HFa:=hid (HF.out _ w2 R2.out)
    rw [HFl.out] at HFa
    go_wp2_with (go_at_call 96; fail)
    refine HFa.out.mono ?_
    rintro e w3 ⟨rfl,hR3,hg3⟩
    have R3:=hid hR3
    have G3:=hid (jX G2.out hg3)
    clear hR3 hg3
    go_wp2
    go_roundw
    case rel=>exact ⟨⟨s'.at_+1,4⟩,f',(show InB B ⟨s'.at_+1,4⟩ from HIn.out),by rw [<-HNy.out,<-HSt.out]; exact HQ.out,by show N<=s'.at_+1+f'; omega,R3.out,G3.out⟩
    case measure =>
     rw [LQ N R3.out,HMu.out,if_pos H0.out]
     simp only []
     split <;> omega
  ·have hl:zZ B.length s'=0:=by
    unfold zZ
    have:=HN.out
    by_cases h0:s'.er=0
    ·rw [if_pos h0]
     have:¬ s'.at_ < N:=fun h=>hgo ⟨h0,h⟩
     omega
    ·rw [if_neg h0]
   rw [hl] at HLf
   have HEr:=hid (show E.er=s'.er by
    rw [<-HQ.out,YV]
    by_cases h0:s'.er=0
    ·right
     have:¬ s'.at_ < N:=fun h=>hgo ⟨h0,h⟩
     rw [HN.out]; omega
    ·exact .inl h0)
   clear hgo hl
   go_wp2_with (go_at_call 138; fail)
   refine HLf.out.mono ?_
   rintro e w1 ⟨rfl,hb1⟩
   have c2:=H2.out w1 (aF HR.out hb1)
   have G1:=hid (jX HG1.out (mZ hb1))
   clear hb1
   go_wp2
   go_ret
   exact ⟨by rw [HEr.out]; rfl,G1.out⟩
end
section
open Go.Lib (hid)
open Go.RowKit
theorem aBn {v:Int} (h:mI v 24=true):-8388608<=v/\v < 8388608:=by
 rw [xR,Bool.and_eq_true,decide_eq_true_eq,decide_eq_true_eq] at h
 omega
theorem TonesR.snoc {ts:List ToneV} {m:Nat} {t:ToneV} (h:TonesR (ts.take m)) (ht:ts[m]? = some t) (h1:0<=t.idx/\t.idx < 16/\-8388608<=t.val/\t.val < 8388608) (h2:∀ j u,m=j+1->ts[j]? = some u->u.idx < t.idx):TonesR (ts.take (m+1)):=by
 obtain ⟨hm,rfl⟩:=List.getElem?_eq_some_iff.1 ht
 rw [List.take_succ_eq_append_getElem hm]
 refine ⟨fun u hu=>?_,?_⟩
 ·rcases List.mem_append.1 hu with h3 | h3
  ·exact h.1 u h3
  ·rw [List.mem_singleton] at h3; rw [h3]; exact h1
 ·rw [List.pairwise_append]
  refine ⟨h.2,List.pairwise_singleton _ _,fun a ha b hb=>?_⟩
  rw [List.mem_singleton] at hb
  subst hb
  obtain ⟨i,hi,rfl⟩:=List.mem_iff_getElem.1 ha
  rw [List.length_take] at hi
  obtain ⟨j,rfl⟩:∃ j,m=j+1:=⟨m - 1,by omega⟩
  have hj:=h2 j ts[j] rfl (List.getElem?_eq_getElem (by omega))
  by_cases hij:i=j
  ·subst hij
   rw [List.getElem_take]; exact hj
  ·have:=List.pairwise_iff_getElem.1 h.2 i j (by rw [List.length_take]; omega) (by rw [List.length_take]; omega) (by omega)
   rw [List.getElem_take] at this ⊢
   rw [List.getElem_take] at this
   omega
def uI (W:World) (ts:List ToneV) (e:Ending) (w':World):Prop:=∃ b:Bool,e=.returned (.bool b)/\(b=true ↔ TonesR ts/\ts.length<=2)/\Below W.heap.size W w'
theorem E7 (ts : List ToneV) (A : Option Addr) (c : Nat) (w : World) (hlen : ts.length ≤ 9223372036854775807) (hr : Row w w.heap.size A (aW ts)) :
    Calls Tryz.prog 140 #[.slice A ts.length c] w (uI w ts) := by
  obtain ⟨n, hn⟩ : ∃ n, ts.length = n := ⟨_, rfl⟩
  have Hr := hid hr
  have HPost := hid (show uI w ts = fun e w' => ∃ b : Bool, e = .returned (.bool b) ∧ (b = true ↔ TonesR ts ∧ ts.length ≤ 2) ∧ Below w.heap.size w w' from rfl)
  rw [hn] at hlen ⊢
  have Hn := hid hn
  clear hr hn
  go_enter Tryz.func140, Tryz.ntmps140
  go_wp2
  go_loopw [7] (fun i wr => ∃ m : Nat, m ≤ n ∧ i = .int .i64 m ∧ TonesR (ts.take m) ∧ Below w.heap.size w wr) (fun i _ => n - (intOf i).toNat)
  case atStart => exact ⟨0, by omega, rfl, ⟨nofun, List.Pairwise.nil⟩, Below.refl _ _⟩
  case round =>
    obtain ⟨m, hm, rfl, hTR, hbel⟩ := hrel
    have HTR := hid hTR
    have Hbel := hid hbel
    clear hbel hTR
    by_cases hlk : m < n
    · obtain ⟨t, ht⟩ := aE (k := m) Hn.out hlk
      obtain ⟨g, off, hA, hg, k0, k1⟩ := nL Hr.out ht
      have c0 := (Hbel.out.cell (p := ⟨g, off + m * 2, none⟩) hg).trans k0
      have c1 := (Hbel.out.cell (p := ⟨g, off + m * 2 + 1, none⟩) hg).trans k1
      subst hA
      have HRow := hid (fun (j : Nat) (u : ToneV) (hu : ts[j]? = some u) => (show ∃ b o, some (⟨g, off, none⟩ : Addr) = some ⟨b, o, none⟩ ∧ b < w.heap.size ∧ w.cell? ⟨b, o + j * 2, none⟩ = some (.int .i64 u.idx) ∧ w.cell? ⟨b, o + j * 2 + 1, none⟩ = some (.int .i64 u.val) from nL Hr.out hu))
      have HT := hid ht
      have HBad := hid (fun (h : TonesR ts) => And.intro (h.1 t (List.mem_of_getElem? ht)) (fun (j : Nat) (u : ToneV) (hj : m = j + 1) (hu : ts[j]? = some u) => (show u.idx < t.idx by
        obtain ⟨h1, e1⟩ := List.getElem?_eq_some_iff.1 hu
        obtain ⟨h2, e2⟩ := List.getElem?_eq_some_iff.1 ht
        have := List.pairwise_iff_getElem.1 h.2 j m h1 h2 (by omega)
        rwa [e1, e2] at this)))
      obtain ⟨ix, vl⟩ := t
      simp only at c0 c1
      clear ht k0 k1
      have HF := hid (show ∀ W, Calls Tryz.prog 142 #[.int .i64 vl, .int .i64 24] W fun e w' => e = .returned (.bool (mI vl 24)) ∧ W = w' from fun W => (rI vl 24 W (by omega)))
      have HFt := hid (fun (h : mI vl 24 = true) => aBn h)
      have HFf := hid (fun (h : -8388608 ≤ vl ∧ vl < 8388608) => LA h.1 h.2)
      obtain ⟨bv, hbv⟩ : ∃ bv, mI vl 24 = bv := ⟨_, rfl⟩
      rw [hbv] at HF HFt HFf
      clear hbv
      have t1 : (m : Int) < (n : Int) := by omega
      have hN1 := Blk.new wr 169 [.int .i64 ix, .int .i64 vl]
      have hy5 := jY hN1
      have HB2 := hid (aC Hbel.out (aL wr (.cells #[.int .i64 ix, .int .i64 vl] 169)))
      by_cases h1 : ix < 0
      · have t2 : decide (ix < 0) = true := decide_eq_true h1
        go_wp2_with fail
        refine aR (by kernel_rfl) (by kernel_rfl) ?_
        repeat (go_big_quiet_step ((go_at_call 142; exact cR (HF.out _))))
        refine wpQuiet_nil ?_
        intro w5 hw'
        have HB5 := hid (aC HB2.out (aK hw'))
        (try clear hk)
        clear hw' hy5
        go_wp2
        go_ret
        refine ⟨false, rfl, ⟨nofun, fun h => ?_⟩, HB5.out⟩
        have := HBad.out h.1
        (try simp only at this)
        omega
      have t2 : decide (ix < 0) = false := decide_eq_false h1
      by_cases h2 : 16 ≤ ix
      · have t3 : decide ((16 : Int) ≤ ix) = true := decide_eq_true h2
        go_wp2_with fail
        refine aR (by kernel_rfl) (by kernel_rfl) ?_
        repeat (go_big_quiet_step ((go_at_call 142; exact cR (HF.out _))))
        refine wpQuiet_nil ?_
        intro w5 hw'
        have HB5 := hid (aC HB2.out (aK hw'))
        (try clear hk)
        clear hw' hy5
        go_wp2
        go_ret
        refine ⟨false, rfl, ⟨nofun, fun h => ?_⟩, HB5.out⟩
        have := HBad.out h.1
        (try simp only at this)
        omega
      have t3 : decide ((16 : Int) ≤ ix) = false := decide_eq_false h2
      by_cases hm0 : 0 < m
      · obtain ⟨j, rfl⟩ : ∃ j, m = j + 1 := ⟨m - 1, by omega⟩
        obtain ⟨u, hu⟩ := aE (k := j) Hn.out (by omega)
        obtain ⟨b, o, hA, hb, k0, k1⟩ := HRow.out j u hu
        injection hA with hA
        injection hA with e1 e2
        subst e1 e2
        have HU := hid hu
        have hk := fun (x : GW (wr.alloc (.cells #[.int .i64 ix, .int .i64 vl] 169))) => (show x.1.cell? ⟨g, off + j * 2, none⟩ = some (.int .i64 u.idx) from (HB2.out.trans (x.2.mono HB2.out.size)).cell (p := ⟨g, off + j * 2, none⟩) hb |>.trans k0)
        obtain ⟨ui, uv⟩ := u
        simp only at hk
        have t4 : decide ((0 : Int) < ((j + 1 : Nat) : Int)) = true := decide_eq_true (by omega)
        have t6 : ((j + 1 : Nat) : Int) - 1 = (j : Int) := by omega
        have t7 : (j : Int) < (n : Int) := by omega
        have t8 : (0 : Int) ≤ (j : Int) := by omega
        have t9 : (0 : Int) < (j : Int) + 1 := by omega
        clear hu k0 k1 hm0
        by_cases h3 : ix ≤ ui
        · have t5 : decide (ix ≤ ui) = true := decide_eq_true h3
          go_wp2_with fail
          refine aR (by kernel_rfl) (by kernel_rfl) ?_
          repeat (go_big_quiet_step ((go_at_call 142; exact cR (HF.out _))))
          refine wpQuiet_nil ?_
          intro w5 hw'
          have HB5 := hid (aC HB2.out (aK hw'))
          (try clear hk)
          clear hw' hy5
          go_wp2
          go_ret
          refine ⟨false, rfl, ⟨nofun, fun h => ?_⟩, HB5.out⟩
          have := HBad.out h.1
          have := this.2 j _ rfl HU.out
          (try simp only at this)
          omega
        have t5 : decide (ix ≤ ui) = false := decide_eq_false h3
        cases bv
        · have HFg := hid (show (-8388608 ≤ vl ∧ vl < 8388608) → False from fun h => (by cases HFf.out h))
          clear HFt HFf
          go_wp2_with fail
          refine aR (by kernel_rfl) (by kernel_rfl) ?_
          repeat (go_big_quiet_step ((go_at_call 142; exact cR (HF.out _))))
          refine wpQuiet_nil ?_
          intro w5 hw'
          have HB5 := hid (aC HB2.out (aK hw'))
          (try clear hk)
          clear hw' hy5
          go_wp2
          go_ret
          refine ⟨false, rfl, ⟨nofun, fun h => ?_⟩, HB5.out⟩
          have := HBad.out h.1
          exact (HFg.out ⟨this.1.2.2.1, this.1.2.2.2⟩).elim
        · have HFg := hid (HFt.out rfl)
          clear HFt HFf
          go_wp2_with fail
          refine aR (by kernel_rfl) (by kernel_rfl) ?_
          repeat (go_big_quiet_step ((go_at_call 142; exact cR (HF.out _))))
          refine wpQuiet_nil ?_
          intro w5 hw'
          have HB5 := hid (aC HB2.out (aK hw'))
          (try clear hk)
          clear hw' hy5
          go_wp2
          go_roundw
          case rel => exact ⟨j + 1 + 1, by omega, by go_num, HTR.out.snoc HT.out ⟨by omega, by omega, HFg.out⟩ (fun j' u' hj hu => by
                      have hjj : j' = j := by omega
                      subst hjj
                      have := Option.some.inj (hu.symm.trans HU.out)
                      subst this
                      show ui < ix
                      omega), HB5.out⟩
          case measure => simp [intOf]; omega
      · have hm00 : m = 0 := by omega
        subst hm00
        simp only [Nat.zero_mul, Nat.add_zero] at c0 c1
        have t4 : decide ((0 : Int) < ((0 : Nat) : Int)) = false := decide_eq_false (by omega)
        clear hm0
        cases bv
        · have HFg := hid (show (-8388608 ≤ vl ∧ vl < 8388608) → False from fun h => (by cases HFf.out h))
          clear HFt HFf
          go_wp2_with fail
          refine aR (by kernel_rfl) (by kernel_rfl) ?_
          repeat (go_big_quiet_step ((go_at_call 142; exact cR (HF.out _))))
          refine wpQuiet_nil ?_
          intro w5 hw'
          have HB5 := hid (aC HB2.out (aK hw'))
          (try clear hk)
          clear hw' hy5
          go_wp2
          go_ret
          refine ⟨false, rfl, ⟨nofun, fun h => ?_⟩, HB5.out⟩
          have := HBad.out h.1
          exact (HFg.out ⟨this.1.2.2.1, this.1.2.2.2⟩).elim
        · have HFg := hid (HFt.out rfl)
          clear HFt HFf
          go_wp2_with fail
          refine aR (by kernel_rfl) (by kernel_rfl) ?_
          repeat (go_big_quiet_step ((go_at_call 142; exact cR (HF.out _))))
          refine wpQuiet_nil ?_
          intro w5 hw'
          have HB5 := hid (aC HB2.out (aK hw'))
          (try clear hk)
          clear hw' hy5
          go_wp2
          go_roundw
          case rel => exact ⟨0 + 1, by omega, by go_num, HTR.out.snoc HT.out ⟨by omega, by omega, HFg.out⟩ (fun j' u' hj hu => by omega), HB5.out⟩
          case measure => simp [intOf]; omega
    · have hmn : m = n := by omega
      subst hmn
      have t1 : ¬ ((m : Int) < (m : Int)) := by omega
      have HE := hid (show TonesR ts by have := HTR.out; rwa [List.take_of_length_le (by rw [Hn.out]; exact Nat.le_refl _)] at this)
      by_cases h2 : m ≤ 2
      · have t2 : decide ((m : Int) ≤ 2) = true := decide_eq_true (by omega)
        go_wp2
        go_ret
        exact ⟨true, rfl, ⟨fun _ => ⟨HE.out, by rw [Hn.out]; omega⟩, fun _ => rfl⟩, Hbel.out⟩
      · have t2 : decide ((m : Int) ≤ 2) = false := decide_eq_false (by omega)
        go_wp2
        go_ret
        exact ⟨false, rfl, ⟨nofun, fun h => by have := h.2; rw [Hn.out] at this; omega⟩, Hbel.out⟩
end
section
open Go.Lib (hid)
open Go.RowKit
def MO (W:World) (PF:Prop) (e:Ending) (w':World):Prop:=∃ b:Bool,e=.returned (.bool b)/\(b=true ↔ PF)/\Below W.heap.size W w'
theorem aDG {s:List Int} (hl:s.length=4) (h:iZ s=true):ScB s:=⟨hl,fun i hi=>by
 obtain ⟨x,hx⟩:=aE (k:=i) hl hi
 have:=List.all_eq_true.1 h x (List.mem_of_getElem? hx)
 simp only [Bool.and_eq_true,decide_eq_true_eq] at this
 rw [aD hx]; exact this⟩
theorem aBq {g:List Int} (hl:g.length=4) (h:gY g=true):g.length=4/\∀ i,i < 4->0<=bgt g i/\bgt g i<=3:=⟨hl,fun i hi=>by
 obtain ⟨x,hx⟩:=aE (k:=i) hl hi
 have:=List.all_eq_true.1 h x (List.mem_of_getElem? hx)
 unfold inB at this
 simp only [Bool.and_eq_true,decide_eq_true_eq] at this
 rw [aD hx]; exact this⟩
theorem ZA {v:Int} {k:Nat}:mI v k=true ↔ cB v<=k:=by unfold mI; rw [decide_eq_true_eq]
theorem YA (f:FrameV) (A:Option Addr) (c:Nat) (w:World) (h:f.Len) (hlen:f.tones.length<=9223372036854775807) (hr:Row w w.heap.size A (aW f.tones)) :
  Calls Tryz.prog 100 #[.agg (aY f (.slice A f.tones.length c))] w (MO w (RightF f)):=by
 have HG:=hid (fun W=>oI f.gains W h.g)
 have HT:=hid (fun W (hW:Below w.heap.size w W)=>E7 f.tones A c W hlen (hr.later hW))
 have HS:=hid (fun W=>jP f.scale W h.s)
 have HL:=h
 have Hno1:=hid (fun (hR:RightF f)=>WX hR.gains)
 have Hno2:=hid (fun (hR:RightF f)=>(show TonesR f.tones/\f.tones.length<=2 from ⟨⟨hR.tidx,hR.tinc⟩,hR.tlen⟩))
 have Hno3:=hid (fun (hR:RightF f)=>hR.scale.ok)
 have Hno4:=hid (fun (hR:RightF f)=>hR.width)
 have Hno5:=hid (fun (hR:RightF f)=>hR.q)
 have Hyes:=hid (fun (h1:gY f.gains=true) (h2:TonesR f.tones/\f.tones.length<=2) (h3:iZ f.scale=true) (h4:∀ i,i < 4->0<=bgt f.width i/\bgt f.width i<=24) (h5:∀ k,k < 16->(cB (bgt f.q k):Int)<=bgt f.width (k / 4)) =>
  (show RightF f from ⟨aBq h.g h1,h2.2,h2.1.1,h2.1.2,aDG h.s h3,h.w,h4,h.q,h5⟩))
 have HPa:=hid (fun (W:World) (g:Nat) hg=>dS (w:=W) (g:=g) HL (tv:=.slice A f.tones.length c) hg)
 have hgl:(f.gains.map (Value.int .i64)).length=4:=by simp [HL.g]
 have hsl:(f.scale.map (Value.int .i64)).length=4:=by simp [HL.s]
 have hwl:(f.width.map (Value.int .i64)).length=4:=by simp [HL.w]
 obtain ⟨PF,hPF⟩:∃ PF:Prop,RightF f=PF:=⟨_,rfl⟩
 rw [hPF] at Hno1 Hno2 Hno3 Hno4 Hno5 Hyes ⊢
 clear hPF
 obtain ⟨gg,ts,sc,wd,q⟩:=f
 simp only at *
 have Hql:=hid HL.q
 have Hwl:=hid HL.w
 simp only at Hql Hwl
 have HCw:=hid (fun (k:Nat) (x:Int) (h:wd[k]? = some x)=>eP h)
 have HCq:=hid (fun (k:Nat) (x:Int) (h:q[k]? = some x)=>(show (q.map (Value.int .i64))[k]? = some (.int .i64 x) by rw [List.getElem?_map,h]; rfl))
 generalize gY gg=B1 at *
 generalize iZ sc=B3 at *
 unfold uI at HT
 generalize (TonesR ts/\ts.length<=2)=PT at *
 generalize ts.length=n at *
 generalize aY ⟨gg,ts,sc,wd,q⟩ (.slice A n c)=fc at *
 unfold aT at *
 generalize hgv:gg.map (Value.int .i64)=gv at *
 generalize hsv:sc.map (Value.int .i64)=sv at *
 generalize hwv:wd.map (Value.int .i64)=wv at *
 generalize hqv:q.map (Value.int .i64)=qv at *
 have HFg:=hid (show (Tryz.prog.info? 45).map (·.size)=some gv.length by rw [hgl]; exact bY)
 have HFs:=hid (show (Tryz.prog.info? 45).map (·.size)=some sv.length by rw [hsl]; exact bY)
 have HFw:=hid (show (Tryz.prog.info? 45).map (·.size)=some wv.length by rw [hwl]; exact bY)
 have HM:=hid (heap_alloc_new w (.cells fc 50))
 have P:=HPa.out _ _ HM.out
 have P0:=hid P.1
 have P3:=P.2.1
 have HB0:=hid (aL w (.cells fc 50))
 clear P hr h hgv hsv hwv hqv hgl hsl hwl HL hlen
 go_enter Tryz.func100,Tryz.ntmps100
 go_wp2_with (first | (go_at_call 139; fail) | (refine aN rfl 45 (.tmp 7) rfl w.heap.size 0 rfl gv _ P0.out Tryz.underlying45 rfl HFg.out ?_))
 refine (HG.out _).mono ?_
 rintro e w1 ⟨rfl,hb1⟩
 have HM1:=hid (aF HM.out hb1)
 have HB1:=hid (aC HB0.out hb1)
 have Q:=HPa.out _ _ HM1.out
 have p3:=Q.2.1
 clear Q hb1 P3 P0 HM HB0 HG
 cases B1
 ·have HX:=hid (show ¬ PF from fun h=>(by cases Hno1.out h))
  clear Hno1 Hyes
  go_wp2
  go_ret
  exact ⟨false,rfl,⟨nofun,fun h=>(HX.out h).elim⟩,HB1.out⟩
 have Hy1:=hid (Hyes.out rfl)
 clear Hno1 Hyes
 go_wp2_with (go_at_call 140; fail)
 refine (HT.out _ HB1.out).mono ?_
 rintro e w2 ⟨b2,rfl,hb2i,hb2⟩
 have HI2:=hid hb2i
 have HM2:=hid (aF HM1.out hb2)
 have HB2:=hid (aC HB1.out hb2)
 have Q:=HPa.out _ _ HM2.out
 have Q2:=hid Q.2.2.1
 clear Q hb2 hb2i p3 HM1 HB1 HT
 cases b2
 ·have HX:=hid (show ¬ PF from fun h=>(by cases HI2.out.2 (Hno2.out h)))
  clear Hy1 HI2
  go_wp2
  go_ret
  exact ⟨false,rfl,⟨nofun,fun h=>(HX.out h).elim⟩,HB2.out⟩
 have Hy2:=hid (Hy1.out (HI2.out.1 rfl))
 clear Hno2 HI2 Hy1
 go_wp2_with (first | (go_at_call 141; fail) | (refine aN rfl 45 (.tmp 18) rfl w.heap.size 5 rfl sv _ Q2.out Tryz.underlying45 rfl HFs.out ?_))
 refine (HS.out _).mono ?_
 rintro e w3 ⟨rfl,hb3⟩
 have HM3:=hid (aF HM2.out hb3)
 have HB3:=hid (aC HB2.out hb3)
 have Q:=HPa.out _ _ HM3.out
 have Q3:=hid Q.2.2.2.1
 have Q4:=hid Q.2.2.2.2
 clear Q hb3 HM2 HB2 HS
 cases B3
 ·have HX:=hid (show ¬ PF from fun h=>(by cases Hno3.out h))
  clear Hy2 Hno3
  go_wp2
  go_ret
  exact ⟨false,rfl,⟨nofun,fun h=>(HX.out h).elim⟩,HB3.out⟩
 have Hy3:=hid (Hy2.out rfl)
 clear Hno3 Hy2
 go_wp2_with (refine aN rfl 45 (.tmp 23) rfl w.heap.size 9 rfl wv _ Q3.out Tryz.underlying45 rfl HFw.out ?_)
 go_loop [25] (fun i=>∃ m:Nat,m<=4/\i=.int .i64 m/\(∀ i,i < m->0<=bgt wd i/\bgt wd i<=24)/\∀ k,k < m*4->(cB (bgt q k):Int)<=bgt wd (k / 4)) (fun i=>4 - (intOf i).toNat)
 case atStart=>exact ⟨0,by omega,rfl,fun i hi=>by omega,fun k hk=>by omega⟩
 case round =>
  obtain ⟨m,hm,rfl,hw1,hw2⟩:=hrel
  have Hw1:=hid hw1
  have Hw2:=hid hw2
  clear hw1 hw2
  by_cases hlk:m < 4
  ·have t1:(m:Int) < 4:=by omega
   obtain ⟨x,hx⟩:=aE (k:=m) Hwl.out hlk
   have Hx:=hid (aD hx)
   have hix:=bR (P:=Tryz.prog) Tryz.underlying45 hlk (fun W=>by kernel_rfl) (fun W=>by kernel_rfl) (HCw.out _ _ hx)
   by_cases hx1:x < 0
   ·have t2:decide (x < 0)=true:=decide_eq_true hx1
    have HX:=hid (show ¬ PF from fun h=>by
     have:=Hno4.out h m hlk
     rw [Hx.out] at this
     omega)
    clear hx
    go_wp2
    go_ret
    exact ⟨false,rfl,⟨nofun,fun h=>(HX.out h).elim⟩,HB3.out⟩
   by_cases hx2:24 < x
   ·have t2:decide (x < 0)=false:=decide_eq_false hx1
    have t3:decide (24 < x)=true:=decide_eq_true hx2
    have HX:=hid (show ¬ PF from fun h=>by
     have:=Hno4.out h m hlk
     rw [Hx.out] at this
     omega)
    clear hx
    go_wp2
    go_ret
    exact ⟨false,rfl,⟨nofun,fun h=>(HX.out h).elim⟩,HB3.out⟩
   obtain ⟨W,rfl⟩:=Int.eq_ofNat_of_zero_le (show 0<=x by omega)
   have hW24:W<=24:=by omega
   have t2:decide ((W:Int) < 0)=false:=decide_eq_false (by omega)
   have t3:decide ((24:Int) < (W:Int))=false:=decide_eq_false (by omega)
   have hsl:=oC w.heap.size 13 ((m:Int)*4) (((m:Int)+1)*4) (m*4) (m*4+4) (by omega) (by omega) (by omega) (by omega) (by omega)
   rw [show m*4+4 - m*4=4 by omega] at hsl
   clear hx hx1 hx2
   go_wp2
   go_loop [43] (fun i=>∃ k:Nat,k<=4/\i=.int .i64 k/\∀ j,j < m*4+k->(cB (bgt q j):Int)<=bgt wd (j / 4)) (fun i=>4 - (intOf i).toNat)
   case atStart=>exact ⟨0,by omega,rfl,fun j hj=>Hw2.out j (by omega)⟩
   case round =>
    obtain ⟨k,hk,rfl,hq1⟩:=hrel
    have Hq1:=hid hq1
    clear hq1
    by_cases hkk:k < 4
    ·have t4:(k:Int) < 4:=by omega
     obtain ⟨y,hy⟩:=aE (k:=m*4+k) Hql.out (by omega)
     have ce:=Q4.out _ _ (HCq.out _ _ hy)
     rw [<-Nat.add_assoc] at ce
     have Hy:=hid (aD hy)
     have HF:=hid (fun V=>rI y W V (by omega))
     have Hiff:=hid (ZA (v:=y) (k:=W))
     obtain ⟨bf,hbf⟩:∃ bf,mI y W=bf:=⟨_,rfl⟩
     rw [hbf] at HF Hiff
     clear hy hbf
     cases bf
     ·have HX:=hid (show ¬ PF from fun h=>by
       have h1:=Hno5.out h (m*4+k) (by omega)
       rw [Hy.out,show (m*4+k) / 4=m by omega,Hx.out] at h1
       cases Hiff.out.2 (by omega))
      clear Hiff
      go_wp2_with (go_at_call 142; refine (HF.out _).mono ?_; rintro e w5 ⟨rfl,rfl⟩)
      go_ret
      exact ⟨false,rfl,⟨nofun,fun h=>(HX.out h).elim⟩,HB3.out⟩
     ·have Hok:=hid (Hiff.out.1 rfl)
      clear Hiff
      go_wp2_with (go_at_call 142; refine (HF.out _).mono ?_; rintro e w5 ⟨rfl,rfl⟩)
      go_round
      case rel =>
       refine ⟨k+1,by omega,by go_num,fun j hj=>?_⟩
       by_cases hjk:j=m*4+k
       ·subst hjk
        rw [Hy.out,show (m*4+k) / 4=m by omega,Hx.out]
        have:=Hok.out
        omega
       ·exact Hq1.out j (by omega)
      case measure=>simp [intOf]; omega
    ·have hk4:k=4:=by omega
     subst hk4
     have t4:¬ (((4:Nat):Int) < 4):=by omega
     go_wp2
     go_round
     case rel =>
      refine ⟨m+1,by omega,by go_num,fun i hi=>?_,fun j hj=>Hq1.out j (by omega)⟩
      by_cases him:i=m
      ·subst him; rw [Hx.out]; omega
      ·exact Hw1.out i (by omega)
     case measure=>simp [intOf]; omega
  ·have hm4:m=4:=by omega
   subst hm4
   have t1:¬ (((4:Nat):Int) < 4):=by omega
   have HY:=hid (Hy3.out Hw1.out (fun k hk=>Hw2.out k (by omega)))
   go_wp2
   go_ret
   exact ⟨true,rfl,⟨fun _=>HY.out,fun _=>rfl⟩,HB3.out⟩
end
end Go.Proofs.YtnbbfblaipjcmaaGreatDoor
