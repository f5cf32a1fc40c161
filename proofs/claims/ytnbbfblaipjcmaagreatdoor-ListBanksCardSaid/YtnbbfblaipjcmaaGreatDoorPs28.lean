/- WrB, WrC, WrD, WrE, RdP, RdA, RdB, RtA, RtB. Conditions: as each theorem states. -/
import Derived.Laws.CopyOwn
import Derived.Deep.OwnRows
import Derived.Test.YtnbbfblaipjcmaaGreatDoorPs20
import Derived.Test.YtnbbfblaipjcmaaGreatDoorPs15
import Derived.Test.YtnbbfblaipjcmaaGreatDoorPs06
set_option maxRecDepth 100000
set_option maxHeartbeats 16000000
namespace Go.Proofs.YtnbbfblaipjcmaaGreatDoor
section
open Go.Lib (hid)
open Go.RowKit
def fitsZ (v:Int) (k:Nat):Bool:=decide (widthZ v<=k)
theorem fits_zero (v:Int):fitsZ v 0=decide (v=0):=by
 unfold fitsZ widthZ
 rw [Bool.eq_iff_iff,decide_eq_true_eq,decide_eq_true_eq]
 split
 ·rename_i h; simp [h]
 ·rename_i h; simp [h]
theorem fits_succ (v:Int) (k:Nat):fitsZ v (k+1)=(decide (-(2 ^ k)<=v) && decide (v < 2 ^ k)):=by
 have e:(2:Int) ^ k=((2 ^ k:Nat):Int):=by rw [Int.natCast_pow]; rfl
 unfold fitsZ
 rw [Bool.eq_iff_iff,decide_eq_true_eq,Bool.and_eq_true,decide_eq_true_eq,decide_eq_true_eq,e]
 exact ⟨fun h=>widthZ_bd h,fun h=>widthZ_le h.1 h.2⟩
theorem Fits_any (v:Int) (k:Nat) (w:World) (hk:k<=57) :
  Calls Tryz.prog 142 #[.int .i64 v,.int .i64 k] w fun e w'=>e=.returned (.bool (fitsZ v k))/\w=w':=by
 cases k with
 | zero =>
  rw [fits_zero]
  have t1:((0:Nat):Int)<=0:=by omega
  by_cases h:v=0
  ·have t2:(v == 0)=true:=beq_iff_eq.2 h
   go_enter Tryz.func142,Tryz.ntmps142
   go_wp2
   go_ret
   exact ⟨ret_bool (by rw [h]; rfl),rfl⟩
  ·have t2:(v == 0)=false:=beq_eq_false_iff_ne.2 h
   have H:=hid (decide_eq_false h)
   clear h
   go_enter Tryz.func142,Tryz.ntmps142
   go_wp2
   go_ret
   exact ⟨ret_bool H.out.symm,rfl⟩
 | succ k =>
  have HF:=hid (fits_succ v k)
  have hp:(2:Int) ^ k<=2 ^ 56:=by
   rw [show (2:Int) ^ k=((2 ^ k:Nat):Int) by rw [Int.natCast_pow]; rfl]
   exact Int.ofNat_le.2 (Nat.pow_le_pow_right (by decide) (by omega))
  have hp0:(0:Int) < 2 ^ k:=Int.pow_pos (by decide)
  have hm1:IntKind.i64.wrap (-1*2 ^ k) = -(2 ^ k):=by rw [Int.neg_one_mul]; exact IntWalk.i64_in _ (by omega)
  have hm2:IntKind.i64.wrap (1*2 ^ k)=2 ^ k:=by rw [Int.one_mul]; exact IntWalk.i64_in _ (by omega)
  have hm3:IntKind.i64.wrap (-(2 ^ k)) = -(2 ^ k):=IntWalk.i64_in _ (by omega)
  have hm4:IntKind.i64.wrap (2 ^ k)=2 ^ k:=IntWalk.i64_in _ (by omega)
  obtain ⟨P,hP⟩:∃ P:Int,(2:Int) ^ k=P:=⟨_,rfl⟩
  have t1:¬ (((k+1:Nat):Int)<=0):=by omega
  have t2:decide ((63:Int) < ((k+1:Nat):Int))=false:=decide_eq_false (by omega)
  have t3:((k+1:Nat):Int) - 1=(k:Int):=by omega
  have t4:(0:Int)<=(k:Int):=by omega
  have t5:(k:Int)<=64:=by omega
  rw [hP] at HF hm1 hm2 hm3 hm4 hp hp0
  generalize hK:((k+1:Nat):Int)=K at *
  have t6:¬ (63 < K):=by omega
  have t7:¬ (K<=0):=by omega
  by_cases h1:-P<=v
  ·have d1:decide (-P<=v)=true:=decide_eq_true h1
   go_enter Tryz.func142,Tryz.ntmps142
   go_wp2
   go_ret
   exact ⟨ret_bool (by rw [HF.out,d1]; simp),rfl⟩
  ·have d1:decide (-P<=v)=false:=decide_eq_false h1
   go_enter Tryz.func142,Tryz.ntmps142
   go_wp2
   go_ret
   exact ⟨ret_bool (by rw [HF.out,d1]; simp),rfl⟩
theorem twos_bits (v:Int) {k:Nat} (hk:k<=57):bits .and .u64 (IntKind.u64.wrap v) (2 ^ k - 1)=(twos v k:Int):=by
 rw [IntKind.wrap_u64,bits_mask .u64 64 (by decide) wraps_u64 k (by omega) (v % 18446744073709551616) (by omega) (by omega)]
 have hd:(2:Int) ^ k ∣ 18446744073709551616:=by
  refine ⟨2 ^ (64 - k),?_⟩
  rw [<-Int.pow_add,show k+(64 - k)=64 by omega]; rfl
 rw [Int.emod_emod_of_dvd _ hd]
 have hp:(0:Int) < 2 ^ k:=Int.pow_pos (by decide)
 unfold twos
 rw [Int.toNat_of_nonneg (Int.emod_nonneg _ (by omega))]
theorem Signed_any (g:Nat) (v:Int) (k:Nat) (L:List Nat) (w:World) (hk:k<=57) (hv:fitsZ v k=true) (hL:L.length+k<=100000) (hw:WrAt w g L) :
  Calls Tryz.prog 243 #[.pointer (some ⟨g,0,none⟩),.int .i64 v,.int .i64 k] w fun e w'=>e=.returned (.tuple #[])/\WrAt w' g (L ++ bitsOf (twos v k) k)/\Keeps g w w'/\Below g w w':=by
 have HF:=hid (fun W=>Fits_any v k W hk)
 rw [hv] at HF
 have HP:=hid (Put_any g (twos v k) k L w hk (twos_lt v k) hL hw)
 have t1:decide ((k:Int) < 0)=false:=decide_eq_false (by omega)
 have t2:decide ((57:Int) < (k:Int))=false:=decide_eq_false (by omega)
 have t0:(0:Int)<=(k:Int):=by omega
 have t3:(k:Int)<=64:=by omega
 have hA:=twos_bits v hk
 have hp:(2:Int) ^ k<=2 ^ 57:=by
  rw [show (2:Int) ^ k=((2 ^ k:Nat):Int) by rw [Int.natCast_pow]; rfl]
  exact Int.ofNat_le.2 (Nat.pow_le_pow_right (by decide) (by omega))
 have hp0:(0:Int) < 2 ^ k:=Int.pow_pos (by decide)
 have hm1:IntKind.u64.wrap (1*2 ^ k)=2 ^ k:=by rw [Int.one_mul,IntKind.wrap_u64]; omega
 have hm2:IntKind.u64.wrap (2 ^ k - 1)=2 ^ k - 1:=by rw [IntKind.wrap_u64]; omega
 have hm3:IntKind.u64.wrap (2 ^ k)=2 ^ k:=by rw [IntKind.wrap_u64]; omega
 obtain ⟨U,hU⟩:∃ U:Int,(2:Int) ^ k=U:=⟨_,rfl⟩
 rw [hU] at hA hm1 hm2 hm3 hp hp0
 clear hw hv
 go_enter Tryz.func243,Tryz.ntmps243
 go_wp2_with (first | (go_at_call 142; refine (HF.out _).mono ?_; rintro e w1 ⟨rfl,rfl⟩) | (go_at_call 242; fail))
 refine HP.out.mono ?_
 rintro e w1 ⟨rfl,hW,hkp,hb⟩
 go_wp2
 refine bodyPost_end (v:=.tuple #[]) (results_none Tryz.results243 _ _ _) rfl ?_
 exact ⟨rfl,hW,hkp,hb⟩
theorem WBytes_any (g size:Nat) (L:List Nat) (w:World) (h0:0 < L.length) (hs:(L.length+7) / 8<=size) (h1:size<=100000) (hL:L.length<=100000) (hw:WrAt w g L) :
  Calls Tryz.prog 244 #[.pointer (some ⟨g,0,none⟩),.int .i64 size] w fun e w'=>e=.returned (.tuple #[.slice (some ⟨w.heap.size,0,none⟩) size size,.int .i64 0]) /\
   w'=w.alloc (.cells (u8s (packN L ++ List.replicate (size - (L.length+7) / 8) 0)).toArray 5):=by
 obtain ⟨_,s,hg,hown⟩:=hw
 obtain ⟨gg,cc,rfl,_,hgs⟩:=hown.form (by omega)
 have hf:u8s (packN L ++ List.replicate (size - (L.length+7) / 8) 0)=u8s (packN L) ++ List.replicate (size - (L.length+7) / 8) (.int .u8 0):=by
  unfold u8s; rw [List.map_append,List.map_replicate]; rfl
 rw [hf]
 have hl:(u8s (packN L)).length=(L.length+7) / 8:=by rw [u8s_len,packN_len]
 have h8:=u8s_one (packN L)
 obtain ⟨n,hn⟩:∃ n,(L.length+7) / 8=n:=⟨_,rfl⟩
 rw [hn] at hs hown hg hl ⊢
 have c0:w.cell? ⟨g,0,none⟩=some (.slice (some ⟨gg,0,none⟩) n cc):=cell_of_row w g 0 _ _ _ hg
 have c2:w.cell? ⟨g,2,none⟩=some (.int .i64 0):=cell_of_row w g 2 _ _ _ hg
 have hsrc:=hid (fun (j:Nat) (v:Value) (hv:(u8s (packN L))[j]? = some v) (o:Obj)=>(show (w.alloc o).cell? ((⟨gg,0,none⟩:Addr).add j)=some v by
  rw [show (⟨gg,0,none⟩:Addr).add j=⟨gg,0+j,none⟩ by unfold Addr.add; split <;> simp_all]
  refine cell_alloc ?_ o
  rw [Nat.zero_add,hown.cellAt j (by have:=(List.getElem?_eq_some_iff.1 hv).1; omega)]
  exact hv))
 have Hg:=hid hg
 have gz:=hlt hg
 generalize u8s (packN L)=ps at *
 have t1:¬ ((size:Int) < 0):=by omega
 have t2:¬ ((size:Int) < (n:Int)):=by omega
 have hnh:0 < n:=by omega
 obtain ⟨i0,hi,hz0,hz1,hz2⟩:∃ i,Tryz.prog.info? 5=some i/\i.zero=some (.int .u8 0)/\i.size=1/\i.bytes=1:=by
  have:=inf_u8
  cases h:Tryz.prog.info? 5 with
  | none=>rw [h] at this; cases this
  | some i=>rw [h] at this; simp at this; exact ⟨i,rfl,this.1,this.2.1,this.2.2⟩
 have Hms:=hid (show (madeCells #[Value.int .u8 0] size).toList=List.replicate size (.int .u8 0) from toList_madeCells_one _ _)
 obtain ⟨mc,hmc⟩:∃ mc,madeCells #[Value.int .u8 0] size=mc:=⟨_,rfl⟩
 rw [hmc] at Hms
 have Hl:=hid hl
 have hd0:=cell_alloc c0 (.cells mc 5)
 clear hown hg hn h0 hl hf hgs
 go_enter Tryz.func244,Tryz.ntmps244
 go_wp2_with (first | (refine wpList_make_row w rfl (.tmp 28) (.tmp 28) 30 rfl 5 i0 (.int .u8 0) Tryz.underlying30 hi hz0 hz1 rfl .i64 .i64 size rfl rfl (by rw [hz2]; omega) (by omega) ?_; rw [hmc]) | (refine wpList_copy_own rfl (.tmp 30) (.tmp 34) 30 30 rfl 5 Tryz.underlying30 (by rw [hi]; simp [hz1]) w.heap.size 0 size size ⟨gg,0,none⟩ n cc rfl rfl mc 5 (heap_alloc_new w _) ps (by rw [Hl.out]; exact (Nat.min_eq_left hs).symm) (fun j v hv=>hsrc.out j v hv _) (by rw [Hl.out,<-Array.length_toList,Hms.out,List.length_replicate]; omega) h8 ?_; rw [World.setRow_alloc_new]))
 refine bodyPost_ret (results_tmp2 Tryz.results244 _ _ _) rfl ?_
 refine ⟨rfl,?_⟩
 rw [Hms.out,Hl.out,List.drop_replicate]
end
section
open Go.Lib (hid)
open Go.RowKit
def TonesR (ts:List ToneV):Prop:=(∀ t ∈ ts,0<=t.idx/\t.idx < 16/\-8388608<=t.val/\t.val < 8388608)/\ts.Pairwise fun x y=>x.idx < y.idx
theorem fits_24 {v:Int} (h1:-8388608<=v) (h2:v < 8388608):fitsZ v 24=true:=by
 rw [fits_succ,decide_eq_true (show -(2 ^ 23)<=v by omega),decide_eq_true (show v < 2 ^ 23 by omega)]; rfl
theorem rightTones_ok (ts:List ToneV) (A:Option Addr) (c:Nat) (w:World) (hr:Row w w.heap.size A (toneCells ts)) (ht:TonesR ts) (hl:ts.length<=2) :
  Calls Tryz.prog 140 #[.slice A ts.length c] w fun e w'=>e=.returned (.bool true)/\Below w.heap.size w w':=by
 obtain ⟨n,hn⟩:∃ n,ts.length=n:=⟨_,rfl⟩
 have Hr:=hid hr
 have Hti:=hid ht.1
 have Hinc:=hid ht.2
 rw [hn] at hl ⊢
 have Hn:=hid hn
 clear hr ht hn
 go_enter Tryz.func140,Tryz.ntmps140
 go_wp2
 go_loopw [7] (fun i wr=>∃ m:Nat,m<=n/\i=.int .i64 m/\Below w.heap.size w wr) (fun i _=>n - (intOf i).toNat)
 case atStart=>exact ⟨0,by omega,rfl,Below.refl _ _⟩
 case round =>
  obtain ⟨m,hm,rfl,hbel⟩:=hrel
  have Hbel:=hid hbel
  clear hbel
  by_cases hlk:m < n
  ·obtain ⟨t,ht⟩:=list_get (k:=m) Hn.out hlk
   have htv:=Hti.out t (List.mem_of_getElem? ht)
   obtain ⟨g,off,hA,hg,k0,k1⟩:=tone_row Hr.out ht
   have c0:=(Hbel.out.cell (p:=⟨g,off+m*2,none⟩) hg).trans k0
   have c1:=(Hbel.out.cell (p:=⟨g,off+m*2+1,none⟩) hg).trans k1
   have HP:=hid (fun (j:Nat) (u:ToneV) (hj:m=j+1) (hu:ts[j]? = some u)=>(show u.idx < t.idx by
    obtain ⟨h1,e1⟩:=List.getElem?_eq_some_iff.1 hu
    obtain ⟨h2,e2⟩:=List.getElem?_eq_some_iff.1 ht
    have:=List.pairwise_iff_getElem.1 Hinc.out j m h1 h2 (by omega)
    rwa [e1,e2] at this))
   subst hA
   have HRow:=hid (fun (j:Nat) (u:ToneV) (hu:ts[j]? = some u)=>(show ∃ b o,some (⟨g,off,none⟩:Addr)=some ⟨b,o,none⟩/\b < w.heap.size/\w.cell? ⟨b,o+j*2,none⟩=some (.int .i64 u.idx)/\w.cell? ⟨b,o+j*2+1,none⟩=some (.int .i64 u.val) from tone_row Hr.out hu))
   obtain ⟨ix,vl⟩:=t
   obtain ⟨v1,v2,v3,v4⟩:=htv
   simp only at c0 c1 v1 v2 v3 v4 HP
   clear ht k0 k1
   have HF:=hid (show ∀ W,Calls Tryz.prog 142 #[.int .i64 vl,.int .i64 24] W fun e w'=>e=.returned (.bool true)/\W=w' from fun W=>(Fits_any vl 24 W (by omega)).mono fun e w' ⟨he,hw⟩=>⟨by rw [he,fits_24 v3 v4],hw⟩)
   have t1:(m:Int) < (n:Int):=by omega
   have t2:decide (ix < 0)=false:=decide_eq_false (by omega)
   have t3:decide ((16:Int)<=ix)=false:=decide_eq_false (by omega)
   have hN1:=Blk.new wr 169 [.int .i64 ix,.int .i64 vl]
   have hy5:=gw_blk hN1
   have HB2:=hid (bnext Hbel.out (bnew wr (.cells #[.int .i64 ix,.int .i64 vl] 169)))
   by_cases hm0:0 < m
   ·obtain ⟨j,rfl⟩:∃ j,m=j+1:=⟨m - 1,by omega⟩
    obtain ⟨u,hu⟩:=list_get (k:=j) Hn.out (by omega)
    have hlt2:=HP.out j u rfl hu
    obtain ⟨b,o,hA,hb,k0,k1⟩:=HRow.out j u hu
    injection hA with hA
    injection hA with e1 e2
    subst e1 e2
    have hk:=fun (x:GW (wr.alloc (.cells #[.int .i64 ix,.int .i64 vl] 169)))=>(show x.1.cell? ⟨g,off+j*2,none⟩=some (.int .i64 u.idx) from (HB2.out.trans (x.2.mono HB2.out.size)).cell (p:=⟨g,off+j*2,none⟩) hb |>.trans k0)
    obtain ⟨ui,uv⟩:=u
    simp only at hk hlt2
    have t4:decide ((0:Int) < ((j+1:Nat):Int))=true:=decide_eq_true (by omega)
    have t5:decide (ix<=ui)=false:=decide_eq_false (by omega)
    have t6:((j+1:Nat):Int) - 1=(j:Int):=by omega
    have t7:(j:Int) < (n:Int):=by omega
    have t8:(0:Int)<=(j:Int):=by omega
    have t9:(0:Int) < (j:Int)+1:=by omega
    clear hu k0 k1 hm0
    go_wp2_with fail
    refine wp_region_calm (by kernel_rfl) (by kernel_rfl) ?_
    repeat (go_big_quiet_step ((go_at_call 142; exact calm_same (HF.out _))))
    refine wpQuiet_nil ?_
    intro w5 hw'
    have hb5:=gw_below hw'
    have HB5:=hid (bnext HB2.out hb5)
    clear hw' hb5 hy5 hk
    go_wp2
    go_roundw
    case rel=>exact ⟨j+1+1,by omega,by go_num,HB5.out⟩
    case measure=>simp [intOf]; omega
   ·have hm00:m=0:=by omega
    subst hm00
    simp only [Nat.zero_mul,Nat.add_zero] at c0 c1
    have t4:decide ((0:Int) < ((0:Nat):Int))=false:=decide_eq_false (by omega)
    clear hm0
    go_wp2_with fail
    refine wp_region_calm (by kernel_rfl) (by kernel_rfl) ?_
    repeat (go_big_quiet_step ((go_at_call 142; exact calm_same (HF.out _))))
    refine wpQuiet_nil ?_
    intro w5 hw'
    have hb5:=gw_below hw'
    have HB5:=hid (bnext HB2.out hb5)
    clear hw' hb5 hy5
    go_wp2
    go_roundw
    case rel=>exact ⟨0+1,by omega,by go_num,HB5.out⟩
    case measure=>simp [intOf]; omega
  ·have hmn:m=n:=by omega
   subst hmn
   have t1:¬ ((m:Int) < (m:Int)):=by omega
   have t2:decide ((m:Int)<=2)=true:=decide_eq_true (by omega)
   go_wp2
   go_ret
   exact ⟨rfl,Hbel.out⟩
end
section
open Go.Lib (hid)
open Go.RowKit
theorem RightF.fits {f:FrameV} (h:RightF f) {k:Nat} (hk:k < 16):fitsZ (bgt f.q k) (bgt f.width (k / 4)).toNat=true:=by
 unfold fitsZ
 have:=h.q k hk
 exact decide_eq_true (by omega)
theorem gain_ok {g:List Int} (h:g.length=4/\∀ i,i < 4->0<=bgt g i/\bgt g i<=3):gainOk g=true:=by
 unfold gainOk
 rw [List.all_eq_true]
 intro x hx
 obtain ⟨i,hi,rfl⟩:=List.mem_iff_getElem.1 hx
 have:=h.2 i (by have:=h.1; omega)
 rw [bgt_get (List.getElem?_eq_getElem hi)] at this
 unfold inB
 rw [decide_eq_true this.1,decide_eq_true this.2]; rfl
theorem Right_ok (f:FrameV) (A:Option Addr) (c:Nat) (w:World) (h:RightF f) (hr:Row w w.heap.size A (toneCells f.tones)) :
  Calls Tryz.prog 100 #[.agg (frameA f (.slice A f.tones.length c))] w fun e w'=>e=.returned (.bool true)/\Below w.heap.size w w':=by
 have HG:=hid (fun W=>gainRight_any f.gains W h.gains.1)
 rw [gain_ok h.gains] at HG
 have HT:=hid (fun W (hW:Below w.heap.size w W)=>rightTones_ok f.tones A c W (hr.later hW) ⟨h.tidx,h.tinc⟩ h.tlen)
 have HS:=hid (fun W=>scalesRight_any f.scale W h.scale.1)
 rw [h.scale.ok] at HS
 have HL:=h.len
 have Hfit:=hid (fun k (hk:k < 16)=>h.fits hk)
 have Hwd:=hid h.width
 have HPa:=hid (fun (W:World) (g:Nat) hg=>frame_parts (w:=W) (g:=g) HL (tv:=.slice A f.tones.length c) hg)
 have hgl:(f.gains.map (Value.int .i64)).length=4:=by simp [HL.g]
 have hsl:(f.scale.map (Value.int .i64)).length=4:=by simp [HL.s]
 have hwl:(f.width.map (Value.int .i64)).length=4:=by simp [HL.w]
 obtain ⟨gg,ts,sc,wd,q⟩:=f
 simp only at *
 have Hql:=hid HL.q
 have Hwl:=hid HL.w
 simp only at Hql Hwl
 have HCw:=hid (fun (k:Nat) (x:Int) (h:wd[k]? = some x)=>blk_get h)
 have HCq:=hid (fun (k:Nat) (x:Int) (h:q[k]? = some x)=>(show (q.map (Value.int .i64))[k]? = some (.int .i64 x) by rw [List.getElem?_map,h]; rfl))
 generalize ts.length=n at *
 generalize frameA ⟨gg,ts,sc,wd,q⟩ (.slice A n c)=fc at *
 unfold blockV at *
 generalize hgv:gg.map (Value.int .i64)=gv at *
 generalize hsv:sc.map (Value.int .i64)=sv at *
 generalize hwv:wd.map (Value.int .i64)=wv at *
 generalize hqv:q.map (Value.int .i64)=qv at *
 have HFg:=hid (show (Tryz.prog.info? 45).map (·.size)=some gv.length by rw [hgl]; exact inf_four)
 have HFs:=hid (show (Tryz.prog.info? 45).map (·.size)=some sv.length by rw [hsl]; exact inf_four)
 have HFw:=hid (show (Tryz.prog.info? 45).map (·.size)=some wv.length by rw [hwl]; exact inf_four)
 have HM:=hid (heap_alloc_new w (.cells fc 50))
 have P:=HPa.out _ _ HM.out
 have P0:=hid P.1
 have P3:=P.2.1
 have HB0:=hid (bnew w (.cells fc 50))
 clear P hr h hgv hsv hwv hqv hgl hsl hwl HL
 go_enter Tryz.func100,Tryz.ntmps100
 go_wp2_with (first | (go_at_call 139; fail) | (refine wpList_load_part_w rfl 45 (.tmp 7) rfl w.heap.size 0 rfl gv _ P0.out Tryz.underlying45 rfl HFg.out ?_))
 refine (HG.out _).mono ?_
 rintro e w1 ⟨rfl,hb1⟩
 have HM1:=hid (hkeep HM.out hb1)
 have HB1:=hid (bnext HB0.out hb1)
 have Q:=HPa.out _ _ HM1.out
 have p3:=Q.2.1
 clear Q hb1 P3 P0 HM HB0
 go_wp2_with (go_at_call 140; fail)
 refine (HT.out _ HB1.out).mono ?_
 rintro e w2 ⟨rfl,hb2⟩
 have HM2:=hid (hkeep HM1.out hb2)
 have HB2:=hid (bnext HB1.out hb2)
 have Q:=HPa.out _ _ HM2.out
 have Q2:=hid Q.2.2.1
 clear Q hb2 p3 HM1 HB1
 go_wp2_with (first | (go_at_call 141; fail) | (refine wpList_load_part_w rfl 45 (.tmp 18) rfl w.heap.size 5 rfl sv _ Q2.out Tryz.underlying45 rfl HFs.out ?_))
 refine (HS.out _).mono ?_
 rintro e w3 ⟨rfl,hb3⟩
 have HM3:=hid (hkeep HM2.out hb3)
 have HB3:=hid (bnext HB2.out hb3)
 have Q:=HPa.out _ _ HM3.out
 have Q3:=hid Q.2.2.2.1
 have Q4:=hid Q.2.2.2.2
 clear Q hb3 HM2 HB2
 go_wp2_with (refine wpList_load_part_w rfl 45 (.tmp 23) rfl w.heap.size 9 rfl wv _ Q3.out Tryz.underlying45 rfl HFw.out ?_)
 go_loop [25] (fun i=>∃ m:Nat,m<=4/\i=.int .i64 m) (fun i=>4 - (intOf i).toNat)
 case atStart=>exact ⟨0,by omega,rfl⟩
 case round =>
  obtain ⟨m,hm,rfl⟩:=hrel
  by_cases hlk:m < 4
  ·have t1:(m:Int) < 4:=by omega
   obtain ⟨x,hx⟩:=list_get (k:=m) Hwl.out hlk
   have hxb:=Hwd.out m hlk
   rw [bgt_get hx] at hxb
   obtain ⟨W,rfl⟩:=Int.eq_ofNat_of_zero_le hxb.1
   have hW24:W<=24:=by omega
   have Hx:=hid (bgt_get hx)
   have hix:=run_index_arr (P:=Tryz.prog) Tryz.underlying45 hlk (fun W=>by kernel_rfl) (fun W=>by kernel_rfl) (HCw.out _ _ hx)
   have t2:decide ((W:Int) < 0)=false:=decide_eq_false (by omega)
   have t3:decide ((24:Int) < (W:Int))=false:=decide_eq_false (by omega)
   have hsl:=slice_block w.heap.size 13 ((m:Int)*4) (((m:Int)+1)*4) (m*4) (m*4+4) (by omega) (by omega) (by omega) (by omega) (by omega)
   rw [show m*4+4 - m*4=4 by omega] at hsl
   clear hx hxb
   go_wp2
   go_loop [43] (fun i=>∃ k:Nat,k<=4/\i=.int .i64 k) (fun i=>4 - (intOf i).toNat)
   case atStart=>exact ⟨0,by omega,rfl⟩
   case round =>
    obtain ⟨k,hk,rfl⟩:=hrel
    by_cases hkk:k < 4
    ·have t4:(k:Int) < 4:=by omega
     obtain ⟨y,hy⟩:=list_get (k:=m*4+k) Hql.out (by omega)
     have ce:=Q4.out _ _ (HCq.out _ _ hy)
     rw [<-Nat.add_assoc] at ce
     have hft:=Hfit.out (m*4+k) (by omega)
     rw [bgt_get hy,show (m*4+k) / 4=m by omega,Hx.out,Int.toNat_natCast] at hft
     have HF:=hid (fun V=>Fits_any y W V (by omega))
     rw [hft] at HF
     clear hy hft
     go_wp2_with (go_at_call 142; refine (HF.out _).mono ?_; rintro e w5 ⟨rfl,rfl⟩)
     go_round
     case rel=>exact ⟨k+1,by omega,by go_num⟩
     case measure=>simp [intOf]; omega
    ·have hk4:k=4:=by omega
     subst hk4
     have t4:¬ (((4:Nat):Int) < 4):=by omega
     go_wp2
     go_round
     case rel=>exact ⟨m+1,by omega,by go_num⟩
     case measure=>simp [intOf]; omega
  ·have hm4:m=4:=by omega
   subst hm4
   have t1:¬ (((4:Nat):Int) < 4):=by omega
   go_wp2
   go_ret
   exact ⟨rfl,HB3.out⟩
end
section
open Go.Lib (hid)
open Go.RowKit
def frameBytes (f:FrameV) (size:Nat):List Nat:=packN (frameB f) ++ List.replicate (size - ((frameB f).length+7) / 8) 0
def BytesPost (W:World) (f:FrameV) (size:Nat) (e:Ending) (w':World):Prop :=
 ∃ g,e=.returned (.tuple #[.slice (some ⟨g,0,none⟩) size size,.int .i64 0])/\W.heap.size<=g/\w'.heap[g]? = some (.cells (u8s (frameBytes f size)).toArray 5 (0,0))/\Below W.heap.size W w'
theorem u64_small {n:Nat} (h:n < 1000000):IntKind.u64.wrap (n:Int)=(n:Int):=by rw [IntKind.wrap_u64]; omega
theorem WrAt.alloc {W:World} {g:Nat} {L:List Nat} (h:WrAt W g L) (o:Obj):WrAt (W.alloc o) g L:=by
 obtain ⟨h1,v,h2,h3⟩:=h
 exact ⟨h1,v,(heap_alloc_old _ _ (hlt h2)).trans h2,h3.alloc o⟩
theorem WrAt.new (W:World):WrAt (W.alloc (.cells #[.slice none 0 0,.int .i64 0,.int .i64 0] 345)) W.heap.size [] :=
 ⟨fun b hb=>by simp at hb,.slice none 0 0,heap_alloc_new W _,World.ownsRow_nil _ _ _ _⟩
theorem hlow {w w':World} {g B:Nat} {o:Obj} (h:w.heap[g]? = some o) (hb:Below B w w') (hg:g < B):w'.heap[g]? = some o:=(hb.block g hg).trans h
theorem FBytes_ok (f:FrameV) (A:Option Addr) (c size:Nat) (w:World) (h:RightF f) (hr:Row w w.heap.size A (toneCells f.tones)) (hsz:bitsZ f<=8*(size:Int)) (hs1:size<=10000) :
  Calls Tryz.prog 205 #[.agg (frameA f (.slice A f.tones.length c)),.int .i64 size] w (BytesPost w f size):=by
 have HR:=hid (fun W (hW:Below w.heap.size w W)=>Right_ok f A c W h (hr.later hW))
 have hfl:=frameB_len h
 have hfm:=frameB_most h
 have HBy:=hid (fun (W:World) (g:Nat) (hW:WrAt W g (frameB f))=>WBytes_any g size (frameB f) W (by
  have:=head5_len h
  unfold frameB
  rw [List.length_append]; omega) (by omega) (by omega) (by omega) hW)
 have HL:=h.len
 have HPa:=hid (fun (W:World) (g:Nat) hg=>frame_parts (w:=W) (g:=g) HL (tv:=.slice A f.tones.length c) hg)
 have hgl:(f.gains.map (Value.int .i64)).length=4:=by simp [HL.g]
 have hql:(f.q.map (Value.int .i64)).length=16:=by simp [HL.q]
 have hfz:=frameA_size HL (.slice A f.tones.length c)
 have h2l:=head2_len h
 have h3l:=head3_len h
 have h4l:=head4_len h
 have h5l:=head5_len h
 have Hfit:=hid (fun k (hk:k < 16)=>h.fits hk)
 have HT:=hid (fun (m:Nat) (t:ToneV) (ht:f.tones[m]? = some t)=>And.intro (tone_row hr ht) (h.tidx t (List.mem_of_getElem? ht)))
 have HCg:=hid (fun (k:Nat) (x:Int) (hx:f.gains[k]? = some x)=>And.intro (blk_get hx) (show 0<=x/\x<=3 by
  have hk:k < 4:=by have:=(List.getElem?_eq_some_iff.1 hx).1; have:=HL.g; omega
  have:=h.gains.2 k hk
  rwa [bgt_get hx] at this))
 have HCs:=hid (fun (k:Nat) (x:Int) (hx:f.scale[k]? = some x)=>And.intro (show (f.scale.map (Value.int .i64))[k]? = some (.int .i64 x) by rw [List.getElem?_map,hx]; rfl) (show 0<=x/\x<=23 by
  have hk:k < 4:=by have:=(List.getElem?_eq_some_iff.1 hx).1; have:=HL.s; omega
  have:=h.scale.2 k hk
  rwa [bgt_get hx] at this))
 have HCw:=hid (fun (k:Nat) (x:Int) (hx:f.width[k]? = some x)=>And.intro (show (f.width.map (Value.int .i64))[k]? = some (.int .i64 x) by rw [List.getElem?_map,hx]; rfl) (show 0<=x/\x<=24 by
  have hk:k < 4:=by have:=(List.getElem?_eq_some_iff.1 hx).1; have:=HL.w; omega
  have:=h.width k hk
  rwa [bgt_get hx] at this))
 have HCq:=hid (fun (k:Nat) (x:Int) (hx:f.q[k]? = some x)=>blk_get hx)
 have Hws:=hid (fun m (hm:m<=16)=>(show widthSum f.width m<=1000 by
  have:=widthSum_mono f.width (16 - m) m
  rw [show m+(16 - m)=16 by omega,widthSum_16] at this
  have:=h.width 0 (by omega)
  have:=h.width 1 (by omega)
  have:=h.width 2 (by omega)
  have:=h.width 3 (by omega)
  omega))
 have htl:=h.tlen
 have Hgl:=hid HL.g
 have Hsl:=hid HL.s
 have Hwl:=hid HL.w
 have Hql:=hid HL.q
 have HFr:=hid (show frameB f=head5 f ++ stepsB f.width f.q 16 from rfl)
 have H5e:=hid (show head5 f=head4 f ++ bandsB f.scale f.width 4 from rfl)
 have H4e:=hid (show head4 f=head3 f ++ tonesB f.tones from rfl)
 have H3e:=hid (show head3 f=head2 f ++ bitsOf f.tones.length 2 from rfl)
 have H2e:=hid (show head2 f=head1 ++ gainsB f.gains from rfl)
 obtain ⟨n,hn⟩:∃ n,f.tones.length=n:=⟨_,rfl⟩
 rw [hn] at HR HPa hfz h4l h5l htl H3e ⊢
 have Hn:=hid hn
 obtain ⟨fc,hfc⟩:∃ fc,frameA f (.slice A n c)=fc:=⟨_,rfl⟩
 rw [hfc] at HR HPa hfz ⊢
 have HFf:=hid (show (Tryz.prog.info? 50).map (·.size)=some fc.size by rw [hfz]; exact inf_frame)
 have HFg:=hid (show (Tryz.prog.info? 45).map (·.size)=some (f.gains.map (Value.int .i64)).length by rw [hgl]; exact inf_four)
 have HFq:=hid (show (Tryz.prog.info? 48).map (·.size)=some (f.q.map (Value.int .i64)).length by rw [hql]; exact inf_block)
 have HM:=hid (heap_alloc_new w (.cells fc 50))
 have HB0:=hid (bnew w (.cells fc 50))
 clear h hr hn hfc hfz hgl hql HL hfl hfm hsz
 go_enter Tryz.func205,Tryz.ntmps205
 go_wp2_with (first | (go_at_call 100; fail) | (refine wpList_load_row_w rfl 50 (.tmp 2) rfl w.heap.size rfl _ fc _ _ HM.out Tryz.underlying50 rfl HFf.out ?_))
 refine (HR.out _ HB0.out).mono ?_
 rintro e w1 ⟨rfl,hb1⟩
 have HM1:=hid (hkeep HM.out hb1)
 have HB1:=hid (bnext HB0.out hb1)
 have hz1:=hlt HM1.out
 have HW0:=hid (WrAt.new w1)
 have HM2:=hid (hkeep HM1.out (bnew w1 (.cells #[.slice none 0 0,.int .i64 0,.int .i64 0] 345)))
 have HB2:=hid (bnext HB1.out (bnew w1 (.cells #[.slice none 0 0,.int .i64 0,.int .i64 0] 345)))
 have HP1:=hid (show Calls Tryz.prog 242 #[.pointer (some ⟨w1.heap.size,0,none⟩),.int .u64 1,.int .i64 2] _ _ from Put_any w1.heap.size 1 2 [] _ (by omega) (by decide) (by simp) HW0.out)
 clear hb1 HM HB0
 go_wp2_with (go_at_call 242; fail)
 refine HP1.out.mono ?_
 rintro e w2 ⟨rfl,hw2,_,hb2⟩
 obtain ⟨G,hG⟩:∃ G,w1.heap.size=G:=⟨_,rfl⟩
 rw [hG] at hw2 hb2 hz1 ⊢
 have hGw:w.heap.size < G:=hz1
 have HW2:=hid (show WrAt w2 G head1 from hw2)
 have HM3:=hid (hlow HM2.out hb2 hGw)
 have HB3:=hid (HB2.out.trans (hb2.mono (Nat.le_of_lt hGw)))
 have P:=HPa.out _ _ HM3.out
 have P0:=hid P.1
 clear hw2 hb2 P HP1 HW0 HM2 HB2 HM1 HB1
 go_wp2_with (refine wpList_load_part_w rfl 45 (.tmp 21) rfl w.heap.size 0 rfl (f.gains.map (Value.int .i64)) _ P0.out Tryz.underlying45 rfl HFg.out ?_)
 go_loopw [23] (fun i wr=>∃ m:Nat,m<=4/\i=.int .i64 m/\WrAt wr G (head1 ++ gainsB (f.gains.take m))/\wr.heap[w.heap.size]? = some (.cells fc 50 (0,0))/\Below w.heap.size w wr) (fun i _=>4 - (intOf i).toNat)
 case atStart=>exact ⟨0,by omega,rfl,HW2.out,HM3.out,HB3.out⟩
 case round =>
  obtain ⟨m,hm,rfl,hW,hM,hB⟩:=hrel
  have HW:=hid hW
  have HM:=hid hM
  have HB:=hid hB
  clear hW hM hB HW2 HM3 HB3 P0
  by_cases hlk:m < 4
  ·have t1:(m:Int) < 4:=by omega
   obtain ⟨x,hx⟩:=list_get (k:=m) Hgl.out hlk
   obtain ⟨hc,h0,h3⟩:=HCg.out m x hx
   obtain ⟨xn,rfl⟩:=Int.eq_ofNat_of_zero_le h0
   have hix:=run_index_arr (P:=Tryz.prog) Tryz.underlying45 hlk (fun W=>by kernel_rfl) (fun W=>by kernel_rfl) hc
   have hu:=u64_small (n:=xn) (by omega)
   have HS:=hid (show head1 ++ gainsB (f.gains.take (m+1))=head1 ++ gainsB (f.gains.take m) ++ bitsOf xn 2 by rw [gainsB_succ hx,Int.toNat_natCast,List.append_assoc])
   have HP:=hid (show Calls Tryz.prog 242 #[.pointer (some ⟨G,0,none⟩),.int .u64 xn,.int .i64 2] wr _ from Put_any G xn 2 _ wr (by omega) (by omega) (by
    rw [List.length_append,gainsB_len,List.length_take]
    show (bitsOf 1 2).length+_+_<=_
    rw [bitsOf_len]; omega) HW.out)
   clear hx hc
   go_wp2_with (go_at_call 242; fail)
   refine HP.out.mono ?_
   rintro e w3 ⟨rfl,hw3,_,hb3⟩
   rw [<-HS.out] at hw3
   have HW3:=hid hw3
   have HM3:=hid (hlow HM.out hb3 hGw)
   have HB3:=hid (HB.out.trans (hb3.mono (Nat.le_of_lt hGw)))
   clear hw3 hb3
   go_wp2
   go_roundw
   case rel=>exact ⟨m+1,by omega,by go_num,HW3.out,HM3.out,HB3.out⟩
   case measure=>simp [intOf]; omega
  ·have hm4:m=4:=by omega
   subst hm4
   have t1:¬ (((4:Nat):Int) < 4):=by omega
   have hW2:=HW.out
   rw [List.take_of_length_le (by rw [Hgl.out]; exact Nat.le_refl _),<-H2e.out] at hW2
   have HP:=hid (show Calls Tryz.prog 242 #[.pointer (some ⟨G,0,none⟩),.int .u64 n,.int .i64 2] wr _ from Put_any G n 2 _ wr (by omega) (by omega) (by rw [h2l]; omega) hW2)
   have P:=HPa.out _ _ HM.out
   have p4:=P.2.1
   have hu:=u64_small (n:=n) (by omega)
   clear hW2 P HW
   go_wp2_with (go_at_call 242; fail)
   refine HP.out.mono ?_
   rintro e w3 ⟨rfl,hw3,_,hb3⟩
   rw [<-H3e.out] at hw3
   have HW3:=hid hw3
   have HM3:=hid (hlow HM.out hb3 hGw)
   have HB3:=hid (HB.out.trans (hb3.mono (Nat.le_of_lt hGw)))
   have P:=HPa.out _ _ HM3.out
   have p5:=P.2.1
   clear hw3 hb3 P p4
   go_wp2
   clear HM HB
   go_loopw [40] (fun i wr=>∃ m:Nat,m<=n/\i=.int .i64 m/\WrAt wr G (head3 f ++ tonesB (f.tones.take m))/\wr.heap[w.heap.size]? = some (.cells fc 50 (0,0))/\Below w.heap.size w wr) (fun i _=>n - (intOf i).toNat)
   case atStart=>exact ⟨0,by omega,rfl,by rw [show tonesB (f.tones.take 0)=[] from rfl,List.append_nil]; exact HW3.out,HM3.out,HB3.out⟩
   case round =>
    obtain ⟨m,hm,rfl,hW,hM,hB⟩:=hrel
    have HW:=hid hW
    have HM:=hid hM
    have HB:=hid hB
    clear hW hM hB HW3 HM3 HB3 p5
    by_cases hlk:m < n
    ·have t1:(m:Int) < (n:Int):=by omega
     obtain ⟨t,ht⟩:=list_get (k:=m) Hn.out hlk
     obtain ⟨⟨g,off,hA,hg,k0,k1⟩,v1,v2,v3,v4⟩:=HT.out m t ht
     have c0:=(HB.out.cell (p:=⟨g,off+m*2,none⟩) hg).trans k0
     have c1:=(HB.out.cell (p:=⟨g,off+m*2+1,none⟩) hg).trans k1
     have HS:=hid (show head3 f ++ tonesB (f.tones.take (m+1))=head3 f ++ tonesB (f.tones.take m) ++ bitsOf t.idx.toNat 4 ++ bitsOf (twos t.val 24) 24 by rw [tonesB_succ ht,<-List.append_assoc]; unfold toneB; rw [<-List.append_assoc])
     have hln:(head3 f ++ tonesB (f.tones.take m)).length<=1000:=by rw [List.length_append,tonesB_len,List.length_take,h3l]; omega
     subst hA
     obtain ⟨ix,vl⟩:=t
     simp only at c0 c1 v1 v2 v3 v4 HS
     obtain ⟨xn,rfl⟩:=Int.eq_ofNat_of_zero_le v1
     rw [Int.toNat_natCast] at HS
     have hu:=u64_small (n:=xn) (by omega)
     have HW1:=hid (HW.out.alloc (.cells #[.int .i64 (xn:Int),.int .i64 vl] 169))
     have HM1:=hid (hkeep HM.out (bnew wr (.cells #[.int .i64 (xn:Int),.int .i64 vl] 169)))
     have HB1:=hid (bnext HB.out (bnew wr (.cells #[.int .i64 (xn:Int),.int .i64 vl] 169)))
     have HN1:=hid (heap_alloc_new wr (.cells #[.int .i64 (xn:Int),.int .i64 vl] 169))
     have hGr:G < wr.heap.size:=by obtain ⟨_,_,hh,_⟩:=HW.out; exact hlt hh
     have HP:=hid (show Calls Tryz.prog 242 #[.pointer (some ⟨G,0,none⟩),.int .u64 xn,.int .i64 4] _ _ from Put_any G xn 4 _ _ (by omega) (by omega) (by omega) HW1.out)
     clear ht k0 k1
     go_wp2_with (go_at_call 242; fail)
     refine HP.out.mono ?_
     rintro e w3 ⟨rfl,hw3,hk3,hb3⟩
     have HM3:=hid (hlow HM1.out hb3 hGw)
     have HB3:=hid (HB1.out.trans (hb3.mono (Nat.le_of_lt hGw)))
     have n1:=cell_of_row w3 wr.heap.size 1 _ _ _ (hk3 _ _ _ _ HN1.out (by decide) (by omega))
     have HP2:=hid (show Calls Tryz.prog 243 #[.pointer (some ⟨G,0,none⟩),.int .i64 vl,.int .i64 24] w3 _ from Signed_any G vl 24 _ w3 (by omega) (fits_24 v3 v4) (by rw [List.length_append,bitsOf_len]; omega) hw3)
     clear hw3 hk3 hb3 HP c0 c1
     go_wp2_with (go_at_call 243; fail)
     refine HP2.out.mono ?_
     rintro e w4 ⟨rfl,hw4,_,hb4⟩
     rw [<-HS.out] at hw4
     have HW4:=hid hw4
     have HM4:=hid (hlow HM3.out hb4 hGw)
     have HB4:=hid (HB3.out.trans (hb4.mono (Nat.le_of_lt hGw)))
     clear hw4 hb4 n1
     go_wp2
     go_roundw
     case rel=>exact ⟨m+1,by omega,by go_num,HW4.out,HM4.out,HB4.out⟩
     case measure=>simp [intOf]; omega
    ·have hmn:m=n:=by omega
     have t1:¬ ((m:Int) < (n:Int)):=by omega
     have hW2:=HW.out
     rw [List.take_of_length_le (by rw [Hn.out]; omega),<-H4e.out] at hW2
     have HW2:=hid hW2
     clear hW2 HW
     go_wp2
     go_loopw [54] (fun i wr=>∃ m:Nat,m<=4/\i=.int .i64 m/\WrAt wr G (head4 f ++ bandsB f.scale f.width m)/\wr.heap[w.heap.size]? = some (.cells fc 50 (0,0))/\Below w.heap.size w wr) (fun i _=>4 - (intOf i).toNat)
     case atStart=>exact ⟨0,by omega,rfl,by rw [show bandsB f.scale f.width 0=[] from rfl,List.append_nil]; exact HW2.out,HM.out,HB.out⟩
     case round =>
      obtain ⟨k,hk,rfl,hW,hM,hB⟩:=hrel
      have HW:=hid hW
      have HM:=hid hM
      have HB:=hid hB
      clear hW hM hB HW2
      by_cases hkk:k < 4
      ·have t2:(k:Int) < 4:=by omega
       obtain ⟨x,hx⟩:=list_get (k:=k) Hsl.out hkk
       obtain ⟨y,hy⟩:=list_get (k:=k) Hwl.out hkk
       obtain ⟨hcx,x0,x1⟩:=HCs.out k x hx
       obtain ⟨hcy,y0,y1⟩:=HCw.out k y hy
       obtain ⟨xn,rfl⟩:=Int.eq_ofNat_of_zero_le x0
       obtain ⟨yn,rfl⟩:=Int.eq_ofNat_of_zero_le y0
       have HS:=hid (show head4 f ++ bandsB f.scale f.width (k+1)=head4 f ++ bandsB f.scale f.width k ++ bitsOf xn 5 ++ bitsOf yn 5 by rw [bandsB_succ,<-List.append_assoc]; unfold bandB; rw [bgt_get hx,bgt_get hy,Int.toNat_natCast,Int.toNat_natCast,<-List.append_assoc])
       have hln:(head4 f ++ bandsB f.scale f.width k).length<=1000:=by rw [List.length_append,bandsB_len,h4l]; omega
       have P:=HPa.out _ _ HM.out
       have cx:=P.2.2.1 k _ hcx
       have hu1:=u64_small (n:=xn) (by omega)
       have hu2:=u64_small (n:=yn) (by omega)
       have HP:=hid (show Calls Tryz.prog 242 #[.pointer (some ⟨G,0,none⟩),.int .u64 xn,.int .i64 5] _ _ from Put_any G xn 5 _ _ (by omega) (by omega) (by omega) HW.out)
       clear P hx hy hcx
       go_wp2_with (go_at_call 242; fail)
       refine HP.out.mono ?_
       rintro e w3 ⟨rfl,hw3,_,hb3⟩
       have HM3:=hid (hlow HM.out hb3 hGw)
       have HB3:=hid (HB.out.trans (hb3.mono (Nat.le_of_lt hGw)))
       have P:=HPa.out _ _ HM3.out
       have cy:=P.2.2.2.1 k _ hcy
       have HP2:=hid (show Calls Tryz.prog 242 #[.pointer (some ⟨G,0,none⟩),.int .u64 yn,.int .i64 5] w3 _ from Put_any G yn 5 _ w3 (by omega) (by omega) (by rw [List.length_append,bitsOf_len]; omega) hw3)
       clear hw3 hb3 HP P cx hcy
       go_wp2_with (go_at_call 242; fail)
       refine HP2.out.mono ?_
       rintro e w4 ⟨rfl,hw4,_,hb4⟩
       rw [<-HS.out] at hw4
       have HW4:=hid hw4
       have HM4:=hid (hlow HM3.out hb4 hGw)
       have HB4:=hid (HB3.out.trans (hb4.mono (Nat.le_of_lt hGw)))
       clear hw4 hb4 cy
       go_wp2
       go_roundw
       case rel=>exact ⟨k+1,by omega,by go_num,HW4.out,HM4.out,HB4.out⟩
       case measure=>simp [intOf]; omega
      ·have hk4:k=4:=by omega
       subst hk4
       have t2:¬ (((4:Nat):Int) < 4):=by omega
       have hW2:=HW.out
       rw [<-H5e.out] at hW2
       have HW2:=hid hW2
       have P:=HPa.out _ _ HM.out
       have P4:=hid P.2.2.2.2
       clear hW2 HW P
       go_wp2_with (refine wpList_load_part_w rfl 48 (.tmp 72) rfl w.heap.size 13 rfl (f.q.map (Value.int .i64)) _ P4.out Tryz.underlying48 rfl HFq.out ?_)
       go_loopw [74] (fun i wr=>∃ m:Nat,m<=16/\i=.int .i64 m/\WrAt wr G (head5 f ++ stepsB f.width f.q m)/\wr.heap[w.heap.size]? = some (.cells fc 50 (0,0))/\Below w.heap.size w wr) (fun i _=>16 - (intOf i).toNat)
       case atStart=>exact ⟨0,by omega,rfl,by rw [show stepsB f.width f.q 0=[] from rfl,List.append_nil]; exact HW2.out,HM.out,HB.out⟩
       case round =>
        obtain ⟨j,hj,rfl,hW,hM,hB⟩:=hrel
        have HW:=hid hW
        have HM:=hid hM
        have HB:=hid hB
        clear hW hM hB HW2 P4
        by_cases hjj:j < 16
        ·have t3:(j:Int) < 16:=by omega
         obtain ⟨x,hx⟩:=list_get (k:=j) Hql.out hjj
         obtain ⟨q,hq⟩:∃ q,j / 4=q:=⟨_,rfl⟩
         have hq4:q < 4:=by omega
         obtain ⟨y,hy⟩:=list_get (k:=q) Hwl.out hq4
         obtain ⟨hcy,y0,y1⟩:=HCw.out q y hy
         obtain ⟨yn,rfl⟩:=Int.eq_ofNat_of_zero_le y0
         have HBand:=hid (show ∀ W,Calls Tryz.prog 98 #[.int .i64 j] W fun e w'=>e=.returned (.int .i64 (q:Int))/\W=w' from fun W=>(Band_any j W hjj).mono fun e w' ⟨he,hw⟩=>⟨he.trans (ret_int (by omega)),hw⟩)
         have hft:=Hfit.out j hjj
         rw [bgt_get hx,hq,bgt_get hy,Int.toNat_natCast] at hft
         have HS:=hid (show head5 f ++ stepsB f.width f.q (j+1)=head5 f ++ stepsB f.width f.q j ++ bitsOf (twos x yn) yn by rw [stepsB_succ,<-List.append_assoc]; unfold stepB; rw [bgt_get hx,hq,bgt_get hy,Int.toNat_natCast])
         have hln:(head5 f ++ stepsB f.width f.q j).length<=2000:=by rw [List.length_append,stepsB_len,h5l]; have:=Hws.out j (by omega); omega
         have hix:=run_index_arr (P:=Tryz.prog) Tryz.underlying48 hjj (fun W=>by kernel_rfl) (fun W=>by kernel_rfl) (HCq.out _ _ hx)
         have P:=HPa.out _ _ HM.out
         have cy:=P.2.2.2.1 q _ hcy
         have t4:(q:Int) < 4:=by omega
         have t5:(0:Int)<=(q:Int):=by omega
         have HP:=hid (Signed_any G x yn _ wr (by omega) hft (by omega) HW.out)
         clear P hx hy hcy hft hq
         go_wp2_with (first | (go_at_call 98; refine (HBand.out _).mono ?_; rintro e w5 ⟨rfl,rfl⟩) | (go_at_call 243; fail))
         refine HP.out.mono ?_
         rintro e w3 ⟨rfl,hw3,_,hb3⟩
         rw [<-HS.out] at hw3
         have HW3:=hid hw3
         have HM3:=hid (hlow HM.out hb3 hGw)
         have HB3:=hid (HB.out.trans (hb3.mono (Nat.le_of_lt hGw)))
         clear hw3 hb3 cy
         go_wp2
         go_roundw
         case rel=>exact ⟨j+1,by omega,by go_num,HW3.out,HM3.out,HB3.out⟩
         case measure=>simp [intOf]; omega
        ·have hj16:j=16:=by omega
         subst hj16
         have t3:¬ (((16:Nat):Int) < 16):=by omega
         have hW2:=HW.out
         rw [<-HFr.out] at hW2
         have HP:=hid (HBy.out wr G hW2)
         clear hW2 HW
         go_wp2_with (go_at_call 244; fail)
         refine HP.out.mono ?_
         rintro e w3 ⟨rfl,rfl⟩
         go_wp2
         refine bodyPost_ret (results_tmp2 Tryz.results205 _ _ _) rfl ?_
         exact ⟨wr.heap.size,rfl,HB.out.size,heap_alloc_new wr _,bnext HB.out (bnew wr _)⟩
end
section
/-! What is read of a frame. -/
/-! Bits that stand in bytes. -/
/-! A frame's bits, read again. -/
end
section
open Go.RowKit
end
section
open Go.RowKit
end
section
open Go.RowKit
end
section
open Go.RowKit
end
end Go.Proofs.YtnbbfblaipjcmaaGreatDoor
