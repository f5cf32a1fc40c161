/- LawLB. Conditions: as each theorem states. -/
import Derived.Test.YtnbbfblaipjcmaaGreatDoorPs48
import Derived.Test.YtnbbfblaipjcmaaGreatDoorPs51
namespace Go.Proofs.YtnbbfblaipjcmaaGreatDoor
open Go.RowKit Go.Lib
theorem head_eq (n:Nat):(⟨#[102,114,97,109,101,32,50,52,32,115,97,109,112,108,101,115,32]⟩:ByteArray) ++ numS n ++ ⟨#[10]⟩=ofHead 24 n:=by
 apply bytes_ext
 unfold ofHead
 rw [rowS_list]
 have e24:(numS 24).data.toList=[50,52]:=rfl
 simp [Lib.join,List.intercalate,e24]
set_option maxRecDepth 100000 in
set_option maxHeartbeats 16000000 in
theorem ListBanks_walk (L0:List (HSamp × SampV)) (A0:Option Addr) (cap0:Nat) (w:World) (hs0:SampsAt w w.heap.size A0 L0) (hnm:∀ p ∈ L0,p.2.name.size<=9223372036854775807) :
  Calls Tryz.prog 3 #[.slice A0 L0.length cap0] w fun e w'=>e=.returned (.bool true)/\Below w.heap.size w w':=by
 have HM:=hid (made18_any L0 A0 cap0 24 1 0 w hs0 hnm)
 have HAw:=hid (fun W=>awake31_any W)
 unfold MadeF at HM
 generalize L0.length=l0 at *
 clear hs0 hnm
 go_enter Tryz.func3,Tryz.ntmps3
 go_wp2_with (go_at_call 14; fail)
 refine HM.out.mono ?_
 rintro e w1 ⟨ss,hb1,⟨_,rfl⟩ | ⟨_,_,sz,ga,gx,gc,gd,gs,gf,Ai,gm,gi,wB,hsz,hC,rfl,hwB,hga,hG,hK⟩⟩
 ·have B1:=hid hb1
  clear hb1
  go_wp2_with (go_at_call 15; refine (HAw.out w1).mono ?_; rintro e w' ⟨rfl,hb2⟩)
  go_ret
  exact ⟨rfl,bnext B1.out hb2⟩
 ·obtain rfl:sz=24:=by omega
  have B1:=hid hb1
  have G1:=hid hG
  obtain ⟨bs,hbs⟩:∃ bs,packZ 24 (sortS ss)=bs:=⟨_,rfl⟩
  obtain ⟨D,hD⟩:∃ D,packDir 24 (sortS ss)=D:=⟨_,rfl⟩
  have hpl:=packZ_len hC
  rw [hbs,hD] at hK
  rw [hbs] at hpl
  rw [<-hpl] at G1
  have HBk:=hid hK.bankAt
  have HFit:=hid hK.fit
  have HTo:=hid (told_of hK.fit)
  obtain ⟨N,hN⟩:∃ N,bs.length=N:=⟨_,rfl⟩
  have HTt:=hid (fun W (hW:Below w1.heap.size w1 W)=>listTotal_any (hK.bankAt.later hW) hK.fit)
  have HOf:=hid (fun W (hW:Below w1.heap.size w1 W)=>listOf_any (hK.bankAt.later hW) (by omega) (by omega) hK.fit.many (told_of hK.fit))
  have HDi:=hid (BDir_any hK.bankAt (by omega) hK.fit.many)
  unfold CopyP at HDi
  rw [hN] at G1 HTt
  obtain ⟨n,hn⟩:∃ n,D.length=n:=⟨_,rfl⟩
  have hD64:=hK.fit.many
  have HofS:=hid (show ofS 24 D=listTo (ofHead 24 D.length) (D.take D.length) by rw [List.take_length]; rfl)
  have HFS:=hid (show framesS D=framesS (D.take D.length) by rw [List.take_length])
  rw [hn] at HDi hD64 HofS HFS
  have Hn:=hid hn
  have a0:w1.cell? ⟨ga,0,none⟩=some (.pointer (some ⟨gx,0,none⟩)):=G1.out.cell 0
  clear hb1 hsz hC hwB hga hG hK hbs hD hpl hN hn HM
  go_wp2_with (go_at_call 16; fail)
  refine HDi.out.mono ?_
  rintro e w2 ⟨Ad,cd,rfl,-,-,-,hdo,hb2⟩
  have B2:=hid hb2
  have HDr:=hid (Row.of_own hdo)
  have hns:=numS_size (n:Int)
  have q1:¬ 9223372036854775807 < 17+(numS (n:Int)).size:=by omega
  have q2:¬ 9223372036854775807 < 17+(numS (n:Int)).size+1:=by omega
  have HHe:=hid (head_eq n)
  clear hdo hb2 HDi hns
  go_wp2_with (go_at_call 17; refine (lawCount31_any n ⟨by omega,by omega⟩ _).mono ?_; rintro e w3 ⟨rfl,hb3⟩)
  have B3:=hid (bnext B2.out hb3)
  have E3:=hid hb3
  clear hb3 q1 q2
  rw [HHe.out]
  go_wp2_with fail
  have HMe:=hid (fun (k:Nat) x (hx:D[k]? = some x) W=>listMeta_any x (HTo.out x (List.mem_of_getElem? hx)) W)
  have HMl:=hid (fun (k:Nat) x (hx:D[k]? = some x) W=>lawMeta31_any x (HTo.out x (List.mem_of_getElem? hx)) W)
  have HSn:=hid (fun (k:Nat) x (hx:D[k]? = some x)=>listTo_snoc (ofHead 24 n) D hx)
  have HSb:=hid (fun (k:Nat)=>(show (listTo (ofHead 24 n) (D.take k)).size<=100000+64*1000001 by
   have h1:=listTo_size (ofHead 24 n) (D.take k) (fun x hx=>(HTo.out x (List.mem_of_mem_take hx)).name)
   have h2:(ofHead 24 n).size<=100000:=by
    rw [<-HHe.out]
    simp only [ByteArray.size_append]
    have:=numS_size (n:Int)
    show 17+_+1<=_
    omega
   have h4:(D.take k).length<=64:=by rw [List.length_take]; have:=Hn.out; omega
   omega))
  have HMs:=hid (fun (k:Nat) x (hx:D[k]? = some x)=>metaS_size (HTo.out x (List.mem_of_getElem? hx)).name)
  have HFn:=hid (fun (k:Nat) x (hx:D[k]? = some x)=>framesS_snoc D hx)
  have HFb:=hid (fun (k:Nat)=>(show 0<=framesS (D.take k)/\framesS (D.take k)<=64*131074 by
   have h1:=framesS_bd (D.take k) (fun x hx=>HFit.out.right x (List.mem_of_mem_take hx))
   have h2:(D.take k).length<=64:=by rw [List.length_take]; have:=Hn.out; omega
   exact ⟨h1.1,Int.le_trans h1.2 (by omega)⟩))
  have HMf:=hid (show (Tryz.prog.info? 37).map (·.size)=some 9 by kernel_rfl)
  generalize ofHead 24 n=HD at *
  go_loopw [7,5,6] (fun i s t wr=>∃ (k:Nat),k<=n/\i=.int .i64 k/\s=.string (listTo HD (D.take k))/\t=.int .i64 (framesS (D.take k))/\Below w3.heap.size w3 wr) (fun i _ _ _=>n - (intOf i).toNat)
  case atStart=>exact ⟨0,by omega,rfl,rfl,by rw [List.take_zero]; rfl,Below.refl _ _⟩
  case round =>
   obtain ⟨k,hk,rfl,rfl,rfl,hbel⟩:=hrel
   have Hbel:=hid hbel
   clear hbel
   obtain ⟨wa,rfl⟩:∃ wa,wa=wr:=⟨_,rfl⟩
   by_cases hlt':k < n
   ·have t1:(k:Int) < (n:Int):=by omega
    have t2:(0:Int)<=(k:Int):=by omega
    obtain ⟨x,hx⟩:=list_get (k:=k) Hn.out hlt'
    have hr:=right_bds (HFit.out.right x (List.mem_of_getElem? hx))
    have HMx:=hid (HMe.out k x hx)
    have HMy:=hid (HMl.out k x hx)
    have HSx:=hid (HSn.out k x hx)
    have HFx:=hid (HFn.out k x hx)
    have hz:=hid (show ¬ 9223372036854775807 < (listTo HD (D.take k)).size+(metaS x).size by have:=HSb.out k; have:=HMs.out k x hx; omega)
    have HRa:=hid (HDr.out.later (bnext E3.out Hbel.out))
    obtain ⟨bD,oD,rfl,hbD,hcD⟩:=meta_at HRa.out hx
    have HZ:=hid (fun (z:GW wa) (j:Nat) v (hv:x.cells[j]? = some v)=>(show z.1.cell? ⟨bD,oD+k*9+j,none⟩=some v from (z.2.cell (p:=⟨bD,oD+k*9+j,none⟩) hbD).trans (hcD j v hv)))
    have HFM:=hid (show framesN x=countZ x.length*x.channels from rfl)
    have hxl:x.cells.length=9:=rfl
    have y1:=fun (z:GW wa)=>(show z.1.cell? ⟨bD,oD+k*9+1,none⟩=some (.int .i64 x.length) from HZ.out z 1 _ rfl)
    have y3:=fun (z:GW wa)=>(show z.1.cell? ⟨bD,oD+k*9+3,none⟩=some (.int .i64 x.channels) from HZ.out z 3 _ rfl)
    have HY:=hid (show (∀ (z:GW wa),z.1.cell? ⟨bD,oD+k*9+1,none⟩=some (.int .i64 x.length))/\(∀ (z:GW wa),z.1.cell? ⟨bD,oD+k*9+3,none⟩=some (.int .i64 x.channels)) from ⟨y1,y3⟩)
    clear y1 y3
    obtain ⟨xs,hxs⟩:∃ xs,x.cells=xs:=⟨_,rfl⟩
    rw [hxs] at HZ HMx HMy hxl
    have HFl:=hid (show (Tryz.prog.info? 37).map (·.size)=some xs.length by rw [hxl]; exact HMf.out)
    have Hr:=hid hr
    generalize metaS x=MX at *
    generalize framesN x=FX at *
    generalize x.length=len at *
    generalize x.channels=ch at *
    have HFx1:=hid (show 0<=framesS (D.take k)+FX/\framesS (D.take k)+FX<=64*131074 by rw [<-HFx.out]; exact HFb.out (k+1))
    have HFk:=hid (HFb.out k)
    obtain ⟨S,hS⟩:∃ S,listTo HD (D.take k)=S:=⟨_,rfl⟩
    obtain ⟨F,hF⟩:∃ F,framesS (D.take k)=F:=⟨_,rfl⟩
    rw [hS] at HSx hz ⊢
    rw [hF] at HFx HFx1 HFk ⊢
    clear hcD hx hbD hxs hxl hS hF hr HRa
    go_wp2_with fail
    refine wp_region_calm (by kernel_rfl) (by kernel_rfl) ?_
    repeat (first | (go_big_quiet_want; refine quiet_load_part 37 (.tmp 34) rfl bD (oD+k*9) rfl xs _ (by rintro _ ⟨z,rfl⟩; exact HZ.out z) Tryz.underlying37 rfl HFl.out ?_; go_simp; go_big_quiet_on) | (go_big_quiet_want; refine quiet_load_part 37 (.tmp 39) rfl bD (oD+k*9) rfl xs _ (by rintro _ ⟨z,rfl⟩; exact HZ.out z) Tryz.underlying37 rfl HFl.out ?_; go_simp; go_big_quiet_on) | go_big_quiet_step (first | (go_at_call 18; exact calm_call (HMx.out _)) | (go_at_call 19; exact calm_call (HMy.out _))))
    refine wpQuiet_nil ?_
    intro w4 hw'
    have B4:=hid (gw_below hw')
    have HX4:=hid (HZ.out ⟨w4,B4.out⟩)
    have hz4:=hz.out
    clear hw'
    go_wp2_with (first | (refine wpList_load_part_w rfl 37 (.tmp 46) rfl bD (oD+k*9) rfl xs _ HX4.out Tryz.underlying37 rfl HFl.out ?_) | (go_at_call 19; refine (HMy.out _).mono ?_; rintro e w5 ⟨rfl,hb5⟩))
    have B5:=hid (bnext B4.out hb5)
    have z1:=fun (z:GW w5)=>(show z.1.cell? ⟨bD,oD+k*9+1,none⟩=some (.int .i64 len) from HY.out.1 ⟨z.1,bnext B5.out z.2⟩)
    have z3:=fun (z:GW w5)=>(show z.1.cell? ⟨bD,oD+k*9+3,none⟩=some (.int .i64 ch) from HY.out.2 ⟨z.1,bnext B5.out z.2⟩)
    have hr:=Hr.out
    have hquo:(len+15).tdiv 16=countZ len:=by
     obtain ⟨ln,rfl⟩:=Int.eq_ofNat_of_zero_le (show 0<=len by omega)
     rw [Int.tdiv_eq_ediv_of_nonneg (by omega)]
     unfold countZ
     rw [if_neg (by omega)]
     omega
    have hcz:0<=countZ len/\countZ len<=65537:=by unfold countZ; split <;> omega
    have hw1:IntKind.i64.wrap (len+15)=len+15:=IntWalk.i64_in _ (by omega)
    have hw2:IntKind.i64.wrap (countZ len)=countZ len:=IntWalk.i64_in _ (by omega)
    have hfk:=HFk.out
    have hfx:=HFx1.out
    have hw3:IntKind.i64.wrap FX=FX:=IntWalk.i64_in _ (by omega)
    have hw4:IntKind.i64.wrap (F+FX)=F+FX:=IntWalk.i64_in _ (by omega)
    have hm:=HFM.out.symm
    clear hb5 hr hfk hfx
    generalize countZ len=CZ at *
    go_wp2_with fail
    refine wp_region_calm (by kernel_rfl) (by kernel_rfl) ?_
    repeat (go_big_quiet_step (fail))
    refine wpQuiet_nil ?_
    intro w6 hw'
    have B6:=hid (bnext B5.out (gw_below hw'))
    clear hw' z1 z3
    go_wp2_with fail
    go_roundw
    case rel=>exact ⟨k+1,by omega,by go_num,by rw [HSx.out],by rw [HFx.out],bnext Hbel.out B6.out⟩
    case measure=>first | (simp [intOf]; done) | (simp [intOf]; omega)
   ·obtain rfl:k=n:=by omega
    have t1:¬ (k:Int) < (k:Int):=by omega
    have Ea:=hid (bnext B3.out Hbel.out)
    have Ga:=hid (G1.out.below Ea.out G1.out.lt)
    have HTa:=hid (HTt.out wa Ea.out)
    have hfb:=HFb.out k
    have HO:=hid (HOf.out)
    rw [HofS.out] at HO
    rw [HFS.out] at HTa
    obtain ⟨F,hF⟩:∃ F,framesS (D.take k)=F:=⟨_,rfl⟩
    obtain ⟨S,hS⟩:∃ S,listTo HD (D.take k)=S:=⟨_,rfl⟩
    rw [hF] at HTa hfb
    rw [hS] at HO
    rw [hF,hS]
    have a0:wa.cell? ⟨ga,0,none⟩=some (.pointer (some ⟨gx,0,none⟩)):=Ga.out.cell 0
    clear hF hS
    go_wp2_with (go_at_call 20; fail)
    refine HTa.out.mono ?_
    rintro e w5 ⟨rfl,hb5⟩
    have E5:=hid (bnext Ea.out hb5)
    have G5:=hid (G1.out.below E5.out G1.out.lt)
    have d0:w5.cell? ⟨ga,0,none⟩=some (.pointer (some ⟨gx,0,none⟩)):=G5.out.cell 0
    clear hb5 HTa a0
    go_wp2_with (go_at_call 21; fail)
    refine (HO.out w5 E5.out).mono ?_
    rintro e w6 ⟨rfl,hb6⟩
    have E6:=hid (bnext E5.out hb6)
    have G6:=hid (G1.out.below E6.out G1.out.lt)
    have e3:w6.cell? ⟨ga,3,none⟩=some (.slice (some ⟨gi,0,none⟩) N N):=G6.out.cell 3
    have hw1:IntKind.i64.wrap (24*F)=24*F:=IntWalk.i64_in _ (by omega)
    have hw2:IntKind.i64.wrap (4*F)=4*F:=IntWalk.i64_in _ (by omega)
    have u1:(F*24 == 24*F)=true:=by rw [beq_iff_eq]; omega
    have u2:(F*((24:Nat):Int) == 24*F)=true:=u1
    have u3:F*24=24*F:=by omega
    clear hb6 d0 hfb
    go_wp2_with (go_at_call 15; refine (HAw.out _).mono ?_; rintro e w7 ⟨rfl,hb7⟩)
    go_ret
    exact ⟨rfl,bnext B1.out (bnext E6.out hb7)⟩
theorem ListBanks_law (W:World) (v0:Value) (a0:Arg W (.slice 6 sampTy) v0) :
  Calls Tryz.prog 3 #[v0] W fun e w'=>e=.returned (.bool true)/\Below W.heap.size W w':=by
 obtain ⟨L,A,cap,rfl,_,_,_,hs,hn⟩:=samps_arg a0
 exact ListBanks_walk L A cap W hs hn
end Go.Proofs.YtnbbfblaipjcmaaGreatDoor
