/- CodeW. Conditions: as each theorem states. -/
import Derived.Test.YtnbbfblaipjcmaaGreatDoorPv21
import Derived.Test.YtnbbfblaipjcmaaGreatDoorPv22
import Derived.Test.YtnbbfblaipjcmaaGreatDoorPv26
import Derived.Test.YtnbbfblaipjcmaaGreatDoorPv24
namespace Go.Proofs.YtnbbfblaipjcmaaGreatDoor
open Go.Lib (hid)
open Go.RowKit
theorem aBz {l:List Int} (h:mQ l):l.all DZ=true:=by
 rw [List.all_eq_true]
 intro x hx
 have:=h x hx
 unfold DZ
 rw [decide_eq_true (show -32768<=x by omega),decide_eq_true (show x < 32768 by omega)]; rfl
theorem LD {l:List Int} {size:Int} {m:Nat} (hm:m < aV l.length):(cO l size).take (m+1)=(cO l size).take m ++ [frZ l size m]:=by
 have h:(cO l size)[m]? = some (frZ l size m):=by unfold cO; exact aJ _ hm
 obtain ⟨h1,h2⟩:=List.getElem?_eq_some_iff.1 h
 rw [List.take_succ_eq_append_getElem h1,h2]
set_option maxRecDepth 100000 in
set_option maxHeartbeats 8000000 in
theorem SG (gc:Nat) (size:Int) (l:List Int) (A:Option Addr) (cap:Nat) (w:World) (hg:CoderAt w gc size) (hs1:24<=size) (hs2:size<=96) (hl:l.length<=1000000) (hr:Row w w.heap.size A (l.map (.int .i64))) (h16:mQ l) :
  Calls Tryz.prog 174 #[.pointer (some ⟨gc,0,none⟩),.slice A l.length cap] w (SF w (cO l size)):=by
 have HRt:=hid (TR l A cap w (by omega) hr)
 rw [aBz h16] at HRt
 have HWd:=hid (YP l A cap w (by omega) hr)
 have HGs:=hid (fun B k W (hg:CoderAt W gc size) (r:Row W W.heap.size B (l.map (.int .i64)))=>XU gc size l B k W hg hl r (fun k x hx=>by have:=h16 x (List.mem_of_getElem? hx); omega))
 have HSp:=hid (fun B k Bg kg W (r:Row W W.heap.size B (l.map (.int .i64))) (rg:Row W W.heap.size Bg ((fW l size).map (.int .i64)))=>(show Calls Tryz.prog 203 #[.agg fA,.slice B l.length k,.slice Bg (aV l.length) kg] W (WO W (aV l.length) (fQ l size)) from
  M9 l (fW l size) B Bg k kg (aV l.length) W rfl hl r (j3 l size) rg (fun x hx=>by have:=h16 x hx; omega)))
 have HFr:=hid (fun i W (hi:i < aV l.length)=>(show Calls Tryz.prog 204 #[aT (aX (fQ l size) i),aT (eV 4 (fW l size) i),.int .i64 size] W (mJ W (frZ l size i) 0) from by
  have:=XT (aX (fQ l size) i) (eV 4 (fW l size) i) size W (b6 (gK l size) hi) (fun k x hx=>by
   have:=(NI h16 size hi).mem x (List.mem_of_getElem? hx)
   omega) ((j3 l size).2 i hi).1
  rw [xT h16 hs1 hs2 hi] at this
  exact this))
 have HTk:=hid (fun m (hm:m < aV l.length)=>LD (size:=size) hm)
 have HLn:=hid (fun i (hi:i < aV l.length)=>(zO h16 hs1 hs2 hi).1.len)
 have Hfl:=hid (f7 l size)
 have HSl:=hid (gK l size)
 have HGl:=hid (j3 l size).1
 have HSb:=hid (fun i (hi:i < aV l.length)=>b6 (gK l size) hi)
 have HGb:=hid (fun i (hi:i < aV l.length)=>((j3 l size).2 i hi).1)
 have hcc:aV l.length<=1000000:=by unfold aV; omega
 have Hg:=hid hg
 have t1:¬ ((1048576:Int) < (l.length:Int)):=by omega
 obtain ⟨i0,hi,⟨z0,hz0,hz0s⟩,hi1,hi2⟩:=zR
 have HCl:=hid (zC size)
 have hcz:(kF size).size=33:=NU size
 obtain ⟨tv,htv,Htx⟩:∃ tv:List Value,tv.length=32/\fA=tv.toArray:=⟨fA.toList,by rw [Array.length_toList,iW],by simp⟩
 have HLa:=hid (fun j v (hv:tv[j]? = some v)=>(show (kF size)[0+j]? = some v by
  unfold kF
  have hj:j < 32:=by have:=(List.getElem?_eq_some_iff.1 hv).1; omega
  rw [Nat.zero_add,Array.getElem?_push,if_neg (by rw [iW]; omega),Htx,List.getElem?_toArray]
  exact hv))
 rw [Htx] at HSp
 unfold CoderAt at Hg HGs
 obtain ⟨n,hn⟩:∃ n,l.length=n:=⟨_,rfl⟩
 rw [hn] at HRt HWd HGs HSp HFr HTk HLn Hfl HSl HGl HSb HGb hcc t1 ⊢
 have Hn:=hid hn
 clear hg hr h16 hs1 hs2 hl hn Htx
 generalize cO l size=FZ at *
 generalize frZ l size=fz at *
 generalize fQ l size=S at *
 generalize fW l size=G at *
 generalize kF size=cv at *
 have HIl:=hid (show (Tryz.prog.info? 104).map (·.size)=some tv.length by rw [htv]; exact BE)
 generalize aV n=c at *
 unfold uH at HWd
 rw [Hn.out] at HWd
 go_enter Tryz.func174,Tryz.ntmps174
 go_wp2_with (first | (go_at_call 200; refine HRt.out.mono ?_; rintro e w1 ⟨rfl,rfl⟩) | (go_at_call 201; fail))
 refine HWd.out.mono ?_
 rintro e w1 ⟨gx,rfl,hgx,hbx,hb1⟩
 have X1:=hid (show Row w1 w1.heap.size (some ⟨gx,0,none⟩) (l.map (.int .i64)) from fun i v hv=>⟨gx,0,rfl,hbx.lt,by rw [hbx.cell,Nat.zero_add]; exact hv⟩)
 have E1:=hid hb1
 have C1:=hid (aF Hg.out hb1)
 clear hbx hb1 hgx HWd HRt Hg
 go_wp2_with (go_at_call 202; fail)
 refine (HGs.out _ _ _ C1.out X1.out).mono ?_
 rintro e w2 ⟨gg,rfl,hgg,hbg,hb2⟩
 have X2:=hid (X1.out.later hb2)
 have G2:=hid (show Row w2 w2.heap.size (some ⟨gg,0,none⟩) (G.map (.int .i64)) from fun i v hv=>⟨gg,0,rfl,hbg.lt,by rw [hbg.cell,Nat.zero_add]; exact hv⟩)
 have E2:=hid (aC E1.out hb2)
 have C2:=hid (aF C1.out hb2)
 have L2:=hid (fun j v (hv:tv[j]? = some v)=>(cell_of_row _ _ _ _ _ _ C2.out).trans (HLa.out j v hv))
 clear hbg hb2 hgg X1 E1 C1 HGs
 go_wp2_with (first | (go_at_call 203; fail) | (refine aN rfl 104 (.tmp 31) rfl gc 0 rfl tv _ L2.out Tryz.underlying104 rfl HIl.out ?_))
 refine (HSp.out _ _ _ _ _ X2.out G2.out).mono ?_
 rintro e w3 ⟨As,cs,rfl,hcs,hrs,hb3⟩
 have S3:=hid hrs
 have G3:=hid (G2.out.later hb3)
 have E3:=hid (aC E2.out hb3)
 have C3:=hid (aF C2.out hb3)
 clear hrs hb3 hcs X2 G2 E2 C2 L2 HSp
 go_wp2_with fail
 go_loopw [8,37] (fun o i wr=>∃ (m:Nat) (M:List (FrH × FrameV)) (A':Option Addr) (cc:Nat),m<=c/\i=.int .i64 m/\M.length=m/\o=.slice A' m cc/\wr.ownsRow w3.heap.size 50 29 (.slice A' m cc) m (iV M) /\
   (∀ p ∈ M,p.2.Len)/\(∀ p ∈ M,FrStands wr (Value.slice A' m cc).ownBlock p)/\M.map Prod.snd=FZ.take m/\Below w3.heap.size w3 wr) (fun _ i _=>c - (intOf i).toNat)
 case atStart=>exact ⟨0,[],none,0,by omega,rfl,rfl,rfl,World.ownsRow_nil _ _ _ _,nofun,nofun,rfl,Below.refl _ _⟩
 case round =>
  obtain ⟨m,M,A',cc,hm,rfl,hM,rfl,hown,hlen,hst,hmap,hbel⟩:=hrel
  have HM:=hid hM
  have Hown:=hid hown
  have Hlen:=hid hlen
  have Hst:=hid hst
  have Hmap:=hid hmap
  have Hbel:=hid hbel
  have Hge:=hid (bJ hown)
  clear hM hown hlen hst hmap hbel
  by_cases hlk:m < c
  ·have t2:(m:Int) < (c:Int):=by omega
   obtain ⟨bs,os,rfl,hbs⟩:=aCa S3.out HSl.out (by omega)
   have SX:=hid (BJ ((S3.out.below Hbel.out).more Hbel.out.size) (m*16) 16)
   have HU:=hid (fun W=>HFr.out m W hlk)
   have HTm:=hid (HTk.out m hlk)
   have HFl:=hid (HLn.out m hlk)
   have hbl:=HSb.out m hlk
   have hgl:=HGb.out m hlk
   rw [show ((S.drop (m*16)).take 16)=aX S m from rfl] at SX
   unfold aT at HU
   have hxl:((aX S m).map (Value.int .i64)).length=16:=by rw [List.length_map,hbl]
   have hyl:((eV 4 G m).map (Value.int .i64)).length=4:=by rw [List.length_map,hgl]
   have Hx1:=hid (e9 (aX S m))
   have C4:=hid (aF C3.out (aC Hbel.out (aL wr (.cells ((aX S m).map (Value.int .i64)).toArray 48))))
   have G4:=hid (G3.out.later (aC Hbel.out (aL wr (.cells ((aX S m).map (Value.int .i64)).toArray 48))))
   have GY:=hid (fun W (hW:∃ x:GW (wr.alloc (.cells ((aX S m).map (Value.int .i64)).toArray 48)),W=x.1)=>(BJ (G4.out.below (aK hW)) (m*4) 4))
   rw [show ((G.drop (m*4)).take 4)=eV 4 G m from rfl] at GY
   generalize (aX S m).map (Value.int .i64)=xs at *
   generalize (eV 4 G m).map (Value.int .i64)=ys at *
   generalize fz m=F at *
   have HFx:=hid (show (Tryz.prog.info? 48).map (·.size)=some xs.length by rw [hxl]; exact bS)
   have HFa:=hid (show (Tryz.prog.info? 48).map (·.size)=some xs.toArray.size by rw [List.size_toArray,hxl]; exact bS)
   have HFy:=hid (show (Tryz.prog.info? 45).map (·.size)=some ys.length by rw [hyl]; exact bY)
   have Hxl:=hid hxl
   have HN:=hid (heap_alloc_new wr (.cells xs.toArray 48))
   clear hxl hyl hbl hgl
   go_wp2_with (first | (refine aN rfl 48 (.tmp 40) rfl bs (os+m*16) rfl xs _ SX.out Tryz.underlying48 rfl HFx.out ?_) | (refine aA rfl 48 (.tmp 10) (.tmp 41) rfl wr.heap.size rfl _ _ xs.toArray rfl (heap_alloc_new wr _) HFa.out (by show (16:Nat)=_; rw [List.size_toArray,Hxl.out]) Hx1.out ?_; rw [World.setRow_alloc_new]))
   have x5:=fC HN.out
   have z5:=fC C4.out
   have u5:=fun (x:GW (wr.alloc (.cells xs.toArray 48)))=>(show x.1.cell? ⟨gc,32,none⟩=some (.int .i64 size) from (cell_of_row _ _ _ _ _ _ (z5 _ ⟨x,rfl⟩)).trans HCl.out)
   have y5:=GY.out
   refine rG 9 (o:=.cells bK 50) (by kernel_rfl) rfl (by kernel_rfl) rfl rfl rfl rfl (fun _ _=>rfl) (fun c a' w' d v h=>by cases d <;> exact h) ?_
   simp only [List.take_succ_cons,List.take_zero]
   simp only [Act.put]
   repeat (first | (go_big_quiet_want; refine bO 48 (.tmp 10) rfl wr.heap.size rfl _ xs.toArray _ _ x5 Tryz.underlying48 rfl HFa.out ?_; go_simp; go_big_quiet_on) | (go_big_quiet_want; refine bA 45 (.tmp 46) rfl gg (m*4) rfl ys _ (by intro W hW; have:=y5 W hW; simpa using this) Tryz.underlying45 rfl HFy.out ?_; go_simp; go_big_quiet_on) | go_big_quiet_step (fail))
   refine wpQuiet_nil ?_
   intro w5 hw'
   have hb5:=aC (aL wr (.cells xs.toArray 48)) (aK hw')
   have E5:=hid hb5
   have hz5:=hb5.size
   have hzr:=Hbel.out.size
   clear hw' hb5 x5 z5 u5 y5 GY SX C4 G4 HN
   refine ⟨?A,?B⟩
   case' A =>
    have EA:=hid (aC E5.out (aL w5 (.cells bK 50)))
    go_wp2_with (go_at_call 204; fail)
    refine (HU.out _).mono ?_
    rintro e w6 ⟨Af,cf,rfl,htl,hcf,hfr,hrow,hb6⟩
    obtain ⟨p,hp⟩:∃ p:FrH × FrameV,(⟨⟨Af,cf⟩,F⟩:FrH × FrameV)=p:=⟨_,rfl⟩
    have hpf:p.2=F:=by rw [<-hp]
    have hpc:aY F (.slice Af F.tones.length cf)=(frC p).toArray:=by rw [<-hp]; rfl
    rw [hpc]
    have Hlt:=EQ Hown.out
    have hpl:(frC p).length=29:=kI (by rw [hpf]; exact HFl.out)
    have hE6:=aC EA.out hb6
    have HP:=hid (show FrStands w6 (Value.slice A' m cc).ownBlock p from by
     rw [<-hp]
     exact FG htl hcf hrow hfr (fun k hk=>Nat.lt_of_lt_of_le (Hlt k hk) (EA.out).size))
    have Hpf:=hid hpf
    have Hst6:=hid (fun q hq=>(Hst.out q hq).below hE6)
    have Hown6:=hid (cS Hown.out hE6)
    have E6:=hid (aC Hbel.out hE6)
    have hz6:=hE6.size
    have Hp1:=hid (mL p)
    obtain ⟨fl,hfl⟩:∃ fl,frC p=fl:=⟨_,rfl⟩
    have Hfl2:=hid hfl
    rw [hfl] at Hp1 hpl ⊢
    have Hpl:=hid hpl
    have hfs:fl.toArray.size=29:=by rw [List.size_toArray,hpl]
    have Hfs:=hid hfs
    have HFf:=hid (show (Tryz.prog.info? 50).map (·.size)=some fl.toArray.size by rw [hfs]; exact bX)
    have Hf1:=hid (show fl.toArray.all (·.oneCell')=true by
     rw [Array.all_eq_true_iff_forall_mem]
     intro v hv
     exact Hp1.out v (by simpa using hv))
    have HZ6:=hid (aF (heap_alloc_new w5 (.cells bK 50)) hb6)
    have lt6:w5.heap.size < w6.heap.size:=hlt HZ6.out
    have lt7:(Value.slice A' m cc).ownBlock ≠ some w5.heap.size:=fun he=>by have:=Hlt _ he; omega
    have ltp:∀ g,p.1.a=some ⟨g,0,none⟩->p.2.tones ≠ []->g ≠ w5.heap.size:=by
     rw [<-hp]
     intro g h1 h2
     rcases hfr with h | ⟨g',h3,h4⟩
     ·exact absurd h h2
     ·rw [h3] at h1
      injection h1 with h1
      injection h1 with h1
      simp at h4
      omega
    clear htl hcf hfr hrow hb6 hp hpf hpc hpl hE6 hfl hfs Hlt
    have HgV:=ZF (w:=w6) w5.heap.size fl.toArray
    have HNV:=hid (show (w6.setRow w5.heap.size fl.toArray).heap[w5.heap.size]? = some (.cells fl.toArray 50 (0,0)) from setRow_heap w6 w5.heap.size _ _ _ _ HZ6.out)
    have HownV:=hid (Hown6.out.kept HgV (.inr lt7))
    have HstV:=hid (fun q hq=>(Hst6.out q hq).aside (fun g h1 h2=>by have:=(Hst.out q hq).block g h1 h2; omega) HgV)
    have HPV:=hid (HP.out.aside ltp HgV)
    have EV:=hid (show Below w3.heap.size w3 (w6.setRow w5.heap.size fl.toArray) from aO E6.out _ (by omega) _)
    obtain ⟨V,hV⟩:∃ V,w6.setRow w5.heap.size fl.toArray=V:=⟨_,rfl⟩
    clear HgV Hown6 Hst6 HP E6 lt6 lt7 ltp
    rw [hV] at HNV HownV HstV HPV EV
    have hzV:=EV.out.size
    go_wp2_with (first | (refine aA rfl 50 (.tmp 11) (.tmp 53) rfl w5.heap.size rfl _ _ fl.toArray rfl HZ6.out HFf.out (by rw [Hfs.out]; rfl) Hf1.out ?_; rw [hV]) | (refine aB rfl 50 (.tmp 11) rfl w5.heap.size rfl _ fl.toArray _ _ HNV.out Tryz.underlying50 rfl HFf.out ?_) | (refine jC rfl 207 50 (.tmp 59) rfl i0 z0 29 Tryz.underlying207 hi hz0 hi1 (by omega) (by omega) fl.toArray rfl Hfs.out ?_) | (at_builtin; refine c9 _ rfl (.tmp 58) (.tmp 60) 207 rfl w3.heap.size 50 i0 z0 29 248 Tryz.underlying207 hi hz0 hi1 hi2 hz0s (by omega) _ m (iV M) rfl (HownV.out.alloc _) (V.heap.size+1) (some ⟨V.heap.size,0,none⟩) 1 1 fl rfl (by rw [Hpl.out]) (Row.new V _ fl) Hp1.out (by omega) (by omega) (by simp; omega) ?_; intro A2 c2 w7 hown7 hgrow hat hcc7))
   case' B =>
    go_wp2_with (go_at_call 204; fail)
    refine (HU.out _).mono ?_
    rintro e w6 ⟨Af,cf,rfl,htl,hcf,hfr,hrow,hb6⟩
    obtain ⟨p,hp⟩:∃ p:FrH × FrameV,(⟨⟨Af,cf⟩,F⟩:FrH × FrameV)=p:=⟨_,rfl⟩
    have hpf:p.2=F:=by rw [<-hp]
    have hpc:aY F (.slice Af F.tones.length cf)=(frC p).toArray:=by rw [<-hp]; rfl
    rw [hpc]
    have Hlt:=EQ Hown.out
    have hpl:(frC p).length=29:=kI (by rw [hpf]; exact HFl.out)
    have hE6:=aC E5.out hb6
    have HP:=hid (show FrStands w6 (Value.slice A' m cc).ownBlock p from by
     rw [<-hp]
     exact FG htl hcf hrow hfr (fun k hk=>Nat.lt_of_lt_of_le (Hlt k hk) (E5.out).size))
    have Hpf:=hid hpf
    have Hst6:=hid (fun q hq=>(Hst.out q hq).below hE6)
    have Hown6:=hid (cS Hown.out hE6)
    have E6:=hid (aC Hbel.out hE6)
    have hz6:=hE6.size
    have Hp1:=hid (mL p)
    obtain ⟨fl,hfl⟩:∃ fl,frC p=fl:=⟨_,rfl⟩
    have Hfl2:=hid hfl
    rw [hfl] at Hp1 hpl ⊢
    have Hpl:=hid hpl
    have hfs:fl.toArray.size=29:=by rw [List.size_toArray,hpl]
    have Hfs:=hid hfs
    have HFf:=hid (show (Tryz.prog.info? 50).map (·.size)=some fl.toArray.size by rw [hfs]; exact bX)
    have Hf1:=hid (show fl.toArray.all (·.oneCell')=true by
     rw [Array.all_eq_true_iff_forall_mem]
     intro v hv
     exact Hp1.out v (by simpa using hv))
    have HN6:=hid (heap_alloc_new w6 (.cells fl.toArray 50))
    clear htl hcf hfr hrow hb6 hp hpf hpc hpl hE6 hfl hfs Hlt
    have HNV:=hid (heap_alloc_new w6 (.cells fl.toArray 50))
    have HownV:=hid (Hown6.out.alloc (.cells fl.toArray 50))
    have HstV:=hid (fun q hq=>(Hst6.out q hq).below (aL w6 (.cells fl.toArray 50)))
    have HPV:=hid (HP.out.below (aL w6 (.cells fl.toArray 50)))
    have EV:=hid (aC E6.out (aL w6 (.cells fl.toArray 50)))
    obtain ⟨V,hV⟩:∃ V,w6.alloc (.cells fl.toArray 50)=V:=⟨_,rfl⟩
    clear Hown6 Hst6 HP E6 HN6
    rw [hV] at HNV HownV HstV HPV EV
    have hzV:=EV.out.size
    go_wp2_with (first | (refine aA rfl 50 (.tmp 11) (.tmp 53) rfl w6.heap.size rfl _ _ fl.toArray rfl (heap_alloc_new w6 _) HFf.out (by rw [Hfs.out]; rfl) Hf1.out ?_; rw [World.setRow_alloc_new]; rw [hV]) | (refine aB rfl 50 (.tmp 11) rfl w6.heap.size rfl _ fl.toArray _ _ HNV.out Tryz.underlying50 rfl HFf.out ?_) | (refine jC rfl 207 50 (.tmp 59) rfl i0 z0 29 Tryz.underlying207 hi hz0 hi1 (by omega) (by omega) fl.toArray rfl Hfs.out ?_) | (at_builtin; refine c9 _ rfl (.tmp 58) (.tmp 60) 207 rfl w3.heap.size 50 i0 z0 29 248 Tryz.underlying207 hi hz0 hi1 hi2 hz0s (by omega) _ m (iV M) rfl (HownV.out.alloc _) (V.heap.size+1) (some ⟨V.heap.size,0,none⟩) 1 1 fl rfl (by rw [Hpl.out]) (Row.new V _ fl) Hp1.out (by omega) (by omega) (by simp; omega) ?_; intro A2 c2 w7 hown7 hgrow hat hcc7))
   all_goals
    go_roundw
    case rel =>
     have hb7:Below w3.heap.size w3 w7:=(EV.out.alloc (by omega) _).grown hgrow (by simp; omega) (fun g h=>Hge.out g h)
     have hst2:∀ q,FrStands V (Value.slice A' m cc).ownBlock q->FrStands w7 (Value.slice A2 (m+1) c2).ownBlock q:=fun q hq=>(hq.below (aL V _)).grown hgrow hat
     refine ⟨m+1,M ++ [p],A2,c2,by omega,by go_num,by simp [HM.out],rfl,?_,?_,?_,?_,hb7⟩
     ·rw [LC,Hfl2.out]; exact hown7
     ·intro q hq
      rcases List.mem_append.1 hq with h | h
      ·exact Hlen.out q h
      ·rw [List.mem_singleton] at h; rw [h,Hpf.out]; exact HFl.out
     ·intro q hq
      rcases List.mem_append.1 hq with h | h
      ·exact hst2 q (HstV.out q h)
      ·rw [List.mem_singleton] at h; rw [h]; exact hst2 p HPV.out
     ·rw [List.map_append,Hmap.out,HTm.out,<-Hpf.out]; rfl
    case measure=>simp [intOf]; omega
  ·have hmc:m=c:=by omega
   subst hmc
   have t2:¬ ((m:Int) < (m:Int)):=by omega
   go_wp2
   refine bodyPost_ret (results_tmp2 Tryz.results174 _ _ _) rfl ?_
   refine ⟨A',cc,M,by rw [HM.out]; rfl,?_,by rw [HM.out]; exact sW Hown.out,iY Hown.out,⟨Row.of_own Hown.out,Hlen.out,fun p hp=>(Hst.out p hp).1⟩,aC E3.out Hbel.out⟩
   rw [Hmap.out,List.take_of_length_le (by rw [Hfl.out]; exact Nat.le_refl _)]
end Go.Proofs.YtnbbfblaipjcmaaGreatDoor
