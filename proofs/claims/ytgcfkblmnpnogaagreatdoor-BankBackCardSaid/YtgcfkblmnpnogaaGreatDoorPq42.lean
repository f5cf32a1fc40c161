/- BankE, BankF, BankH, BankI, PlaceG. Conditions: as each theorem states. -/
import Derived.Test.YtgcfkblmnpnogaaGreatDoorPq33
import Derived.Test.YtgcfkblmnpnogaaGreatDoorPq40
import Derived.Test.YtgcfkblmnpnogaaGreatDoorPq39
import Derived.Test.YtgcfkblmnpnogaaGreatDoorPq41
set_option maxRecDepth 100000
set_option maxHeartbeats 16000000
namespace Go.Proofs.YtgcfkblmnpnogaaGreatDoor
section
open Go.RowKit Go.Lib
def MetaV.cells (m:MetaV):List Value:=[.string m.name,.int .i64 m.length,.int .i64 m.rate,.int .i64 m.channels,.bool m.loop,.int .i64 m.from_,.int .i64 m.to_,.int .i64 m.sums,.int .i64 m.first]
def metaCells (L:List MetaV):List Value:=(L.map MetaV.cells).flatten
theorem metaCells_get (L:List MetaV) {k:Nat} {p:MetaV} (h:L[k]? = some p) (j:Nat) (hj:j < 9):(metaCells L)[k*9+j]? = p.cells[j]?:=by
 unfold metaCells
 rw [flat_get 9 (L.map MetaV.cells) (fun cs hcs=>by obtain ⟨z,_,rfl⟩:=List.mem_map.1 hcs; rfl) k j hj]
 simp [h]
theorem meta_at {w:World} {B:Nat} {A:Option Addr} {L:List MetaV} (hr:Row w B A (metaCells L)) {k:Nat} {p:MetaV} (h:L[k]? = some p) :
  ∃ b off,A=some ⟨b,off,none⟩/\b < B/\∀ j v,p.cells[j]? = some v->w.cell? ⟨b,off+k*9+j,none⟩=some v:=by
 have h0:=metaCells_get L h 0 (by omega)
 obtain ⟨b,off,hA,hb,_⟩:=hr (k*9+0) (.string p.name) h0
 refine ⟨b,off,hA,hb,fun j v hv=>?_⟩
 have hj:j < 9:=by have:=(List.getElem?_eq_some_iff.1 hv).1; simpa [MetaV.cells] using this
 have h1:=metaCells_get L h j hj
 rw [hv] at h1
 obtain ⟨b',off',hA',_,hc⟩:=hr (k*9+j) v h1
 rw [hA] at hA'
 injection hA' with hA'
 injection hA' with e1 e2
 subst e1 e2
 rw [Nat.add_assoc]; exact hc
structure GoodM (m:MetaV):Prop where
 name:m.name.size<=32
 len:0<=m.length
 rate:0<=m.rate
 ch0:0<=m.channels
 ch1:m.channels<=255
 f:0<=m.from_
 t:0<=m.to_
 sums:0<=m.sums
 first:0<=m.first
theorem entry_int (bs:List Nat) (g off n cap:Nat) (m:MetaV) (w:World) (hm:GoodM m) (hb:BytesAt w g bs) (hn:off+n<=bs.length) (h58:58<=n) (hl:n<=1000000000) :
  Calls Tryz.prog 122 #[.slice (some ⟨g,off,none⟩) n cap,.agg m.cells.toArray] w (LaidPost w g (lays bs (entryW off m))):=by
 obtain ⟨h1,h2,h3,h4,h5,h6,h7,h8,h9⟩:=hm
 obtain ⟨nm,len,rate,ch,lp,f,t,sums,first⟩:=m
 simp only at h1 h2 h3 h4 h5 h6 h7 h8 h9
 obtain ⟨len,rfl⟩:=Int.eq_ofNat_of_zero_le h2
 obtain ⟨rate,rfl⟩:=Int.eq_ofNat_of_zero_le h3
 obtain ⟨ch,rfl⟩:=Int.eq_ofNat_of_zero_le h4
 obtain ⟨f,rfl⟩:=Int.eq_ofNat_of_zero_le h6
 obtain ⟨t,rfl⟩:=Int.eq_ofNat_of_zero_le h7
 obtain ⟨sums,rfl⟩:=Int.eq_ofNat_of_zero_le h8
 obtain ⟨first,rfl⟩:=Int.eq_ofNat_of_zero_le h9
 exact entry_any bs g off n cap nm len rate ch lp f t sums first w hb hn h58 hl h1 (by omega)
theorem entryW_fits {off n:Nat} {m:MetaV} (h:m.name.size<=32) (hn:off+58<=n):FitsW n (entryW off m):=by
 intro p hp
 unfold entryW at hp
 have hl:(nameB m.name).length<=32:=by rw [nameB_len]; exact h
 split at hp
 ·simp only [List.mem_append,List.mem_cons,List.not_mem_nil,or_false] at hp
  rcases hp with (rfl | rfl | rfl | rfl | rfl | rfl | rfl | rfl) | rfl
  all_goals
   try simp only [numB_len,List.length_cons,List.length_nil]
   omega
 ·simp only [List.mem_append,List.mem_cons,List.not_mem_nil,or_false] at hp
  rcases hp with rfl | rfl | rfl | rfl | rfl | rfl | rfl | rfl
  all_goals
   try simp only [numB_len,List.length_cons,List.length_nil]
   omega
def entsTo (L:List MetaV):Nat->List (Nat × List Nat)
 | 0=>[]
 | m+1=>entsTo L m ++ match L[m]? with
  | some x=>entryW (16+m*64) x
  | none=>[]
theorem entsTo_succ {L:List MetaV} {m:Nat} {x:MetaV} (h:L[m]? = some x):entsTo L (m+1)=entsTo L m ++ entryW (16+m*64) x:=by
 show entsTo L m ++ (match L[m]? with | some x=>_ | none=>_)=_
 rw [h]
theorem entsTo_fits {L:List MetaV} {n:Nat} (hL:∀ m ∈ L,m.name.size<=32):∀ m,16+m*64<=n->FitsW n (entsTo L m)
 | 0,_=>fun p hp=>by simp [entsTo] at hp
 | m+1,h=>by
  intro p hp
  unfold entsTo at hp
  rcases List.mem_append.1 hp with h1 | h1
  ·exact entsTo_fits hL m (by omega) p h1
  ·cases hx:L[m]? with
   | none=>rw [hx] at h1; simp at h1
   | some x=>rw [hx] at h1; exact entryW_fits (hL x (List.mem_of_getElem? hx)) (by omega) p h1
def headW (n c size:Nat):List (Nat × List Nat):=[(0,[67,65,76,49]),(4,numB 4 n),(8,numB 2 c),(10,[size])]
theorem headW_fits {n N c size:Nat} (h:16<=N):FitsW N (headW n c size):=by
 intro p hp
 unfold headW at hp
 simp only [List.mem_cons,List.not_mem_nil,or_false] at hp
 rcases hp with rfl | rfl | rfl | rfl
 all_goals
  simp only [numB_len,List.length_cons,List.length_nil]
  omega
def withHead (bs:List Nat) (L:List MetaV) (size:Nat):List Nat :=
 putAt (lays bs (headW bs.length L.length size ++ entsTo L L.length)) (16+L.length*64) (numB 4 (crcZ ((lays bs (headW bs.length L.length size ++ entsTo L L.length)).take (16+L.length*64))).toNat)
theorem head_any (bs:List Nat) (g n cap:Nat) (L:List MetaV) (A:Option Addr) (capL size:Nat) (w:World) (hb:BytesAt w g bs) (hn:bs.length=n) (hnc:n<=cap) (h20:20+L.length*64<=n) (hl:n<=100000000) (hc:L.length<=64) (hsz:size<=255)
  (hL:∀ m ∈ L,GoodM m) (hr:Row w w.heap.size A (metaCells L)) (hA:∀ ad,A=some ad->ad.block ≠ g) :
  Calls Tryz.prog 72 #[.slice (some ⟨g,0,none⟩) n cap,.slice A L.length capL,.int .i64 size] w (LaidPost w g (withHead bs L size)):=by
 have HWH:=hid (show withHead bs L size=putAt (lays bs (headW bs.length L.length size ++ entsTo L L.length)) (16+L.length*64) (numB 4 (crcZ ((lays bs (headW bs.length L.length size ++ entsTo L L.length)).take (16+L.length*64))).toNat) from rfl)
 rw [hn] at HWH
 have HFh:=hid (headW_fits (n:=n) (N:=n) (c:=L.length) (size:=size) (by omega))
 have HFe:=hid (fun m (h:m<=L.length)=>entsTo_fits (L:=L) (n:=n) (fun m hm=>(hL m hm).name) m (by omega))
 obtain ⟨c,hcl⟩:∃ c,L.length=c:=⟨_,rfl⟩
 rw [hcl] at h20 hc HWH HFh HFe ⊢
 have Hc:=hid hcl
 have Hb:=hid hb
 have Hr:=hid hr
 have HA:=hid hA
 have HL:=hid hL
 have Hn:=hid hn
 have HNum:=hid (fun (bs':List Nat) (k s v:Nat) (W:World) (h:BytesAt W g bs') (hlen:bs'.length=n) (hk:k+s<=n) (hs:s<=4)=>(show Calls Tryz.prog 70 #[.slice (some ⟨g,0,none⟩) n cap,.int .i64 k,.int .i64 s,.int .i64 v] W (LaidPost W g (putAt bs' k (numB s v))) from by
  have:=number_any bs' g 0 n cap k s v W h (by omega) hk (by omega) hs
  rwa [Nat.zero_add] at this))
 have hwc:IntKind.u8.wrap (size:Int)=(size:Int):=by rw [IntKind.wrap_u8]; omega
 have hcp:∀ W,BytesAt W g bs->(Builtin.copy_ #[29,9] 3 #[.slice (some ⟨g,0,none⟩) n cap,.string ⟨#[67,65,76,49]⟩]).run Tryz.prog W=.ok (goInt 4) (W.setRow g (u8s (putAt bs 0 [67,65,76,49])).toArray):=fun W h=>copy_text W g 0 n cap ⟨#[67,65,76,49]⟩ bs h (by show 4<=n; omega) (by show 0+4<=_; omega) _
 have hcp2:=hcp w hb
 obtain ⟨w2,hw2⟩:∃ w2,w.setRow g (u8s (putAt bs 0 [67,65,76,49])).toArray=w2:=⟨_,rfl⟩
 rw [hw2] at hcp2
 have Hy0:=hid (show BytesAt w2 g (putAt bs 0 [67,65,76,49]) by rw [<-hw2]; exact bytes_row hb)
 have Hg0:=hid (show w.grownBy w2 (some g) by rw [<-hw2]; exact grown_row2 (World.grownBy.refl _ _) _)
 have Hl0:=hid (show (putAt bs 0 [67,65,76,49]).length=n by rw [putAt_len (by simp only [List.length_cons,List.length_nil]; omega),hn])
 clear hw2 hcp hb hr hA hL hn hcl
 go_enter Tryz.func72,Tryz.ntmps72
 go_wp2_with (go_at_call 70; fail)
 clear hcp2
 refine (HNum.out _ 4 4 n w2 Hy0.out Hl0.out (by omega) (by omega)).mono ?_
 rintro e y1 ⟨rfl,hy1,hg1⟩
 have Y1:=hid hy1
 have G1:=hid (grownBy_trans Hg0.out hg1)
 have L1:=hid (show (putAt (putAt bs 0 [67,65,76,49]) 4 (numB 4 n)).length=n by rw [putAt_len (by rw [numB_len,Hl0.out]; omega),Hl0.out])
 clear hy1 hg1
 go_wp2_with (go_at_call 70; fail)
 refine (HNum.out _ 8 2 c y1 Y1.out L1.out (by omega) (by omega)).mono ?_
 rintro e y2 ⟨rfl,hy2,hg2⟩
 have Y2:=hid hy2
 have G2:=hid (grownBy_trans G1.out hg2)
 have L2:=hid (show (putAt (putAt (putAt bs 0 [67,65,76,49]) 4 (numB 4 n)) 8 (numB 2 c)).length=n by rw [putAt_len (by rw [numB_len,L1.out]; omega),L1.out])
 clear hy2 hg2
 obtain ⟨v6,hv6⟩:=list_get (k:=10) L2.out (by omega)
 have c6:=Y2.out.cell hv6
 have f5:=blk_free Y2.out
 have HB6:=hid (Y2.out.put 10 size)
 clear hv6
 have HE0:=hid (show BytesAt (y2.setCell ⟨g,10,none⟩ (.int .u8 size)) g (lays bs (headW n c size ++ entsTo L 0)) from by
  have h:=HB6.out
  rw [set_putAt _ (by rw [L2.out]; omega)] at h
  rw [show headW n c size ++ entsTo L 0=headW n c size by simp [entsTo]]
  exact h)
 have G3:=hid (grownBy_setB G2.out 10 (.int .u8 size))
 have HLs:=hid (fun m (h:m<=c)=>(show (lays bs (headW n c size ++ entsTo L m)).length=n from lays_len Hn.out (fun p hp=>by
  rcases List.mem_append.1 hp with h1 | h1
  ·exact HFh.out p h1
  ·exact HFe.out m h p h1)))
 go_wp2_with fail
 clear c6 f5
 go_loopw [25] (fun i wr=>∃ m:Nat,m<=c/\i=.int .i64 m/\BytesAt wr g (lays bs (headW n c size ++ entsTo L m))/\w.grownBy wr (some g)) (fun i _=>c - (intOf i).toNat)
 case atStart=>exact ⟨0,by omega,rfl,HE0.out,G3.out⟩
 case round =>
  obtain ⟨m,hm,rfl,hby,hgr⟩:=hrel
  have Hby:=hid hby
  have Hgr:=hid hgr
  have Hgl:=hid (show g < wr.heap.size from hby.lt)
  clear hby hgr
  by_cases hlt:m < c
  ·have t1:(m:Int) < (c:Int):=by omega
   have t2:(0:Int)<=(m:Int):=by omega
   obtain ⟨p,hp⟩:=list_get (k:=m) Hc.out hlt
   obtain ⟨b,off,rfl,hbl,hcl⟩:=meta_at Hr.out hp
   have hbg:b ≠ g:=HA.out _ rfl
   have HSu:=hid (entsTo_succ hp)
   have HGm:=hid (HL.out p (List.mem_of_getElem? hp))
   have hlen:=HLs.out m (by omega)
   have HEn:=hid (fun W (h:BytesAt W g (lays bs (headW n c size ++ entsTo L m)))=>(show Calls Tryz.prog 122 #[.slice (some ⟨g,16+m*64,none⟩) (n - (16+m*64)) (cap - (16+m*64)),.agg p.cells.toArray] W (LaidPost W g (lays bs (headW n c size ++ entsTo L (m+1)))) from by
    rw [HSu.out,<-List.append_assoc,lays_app bs (headW n c size ++ entsTo L m)]
    exact entry_int _ g (16+m*64) (n - (16+m*64)) (cap - (16+m*64)) p W HGm.out h (by omega) (by omega) (by omega)))
   obtain ⟨nm,len,rate,ch,lp,f,t,sums,first⟩:=p
   have HC:=hid (fun j v (hv:(MetaV.cells ⟨nm,len,rate,ch,lp,f,t,sums,first⟩)[j]? = some v)=>(show wr.cell? ⟨b,off+m*9+j,none⟩=some v from (Hgr.out.cell_far ⟨b,off+m*9+j,none⟩ hbl (fun e=>hbg (by injection e))).trans (hcl j v hv)))
   have k0:=HC.out 0 _ rfl
   have k1:=HC.out 1 _ rfl
   have k2:=HC.out 2 _ rfl
   have k3:=HC.out 3 _ rfl
   have k4:=HC.out 4 _ rfl
   have k5:=HC.out 5 _ rfl
   have k6:=HC.out 6 _ rfl
   have k7:=HC.out 7 _ rfl
   have k8:=HC.out 8 _ rfl
   rw [Nat.add_zero] at k0
   clear hcl hp hbl HC hlen
   have h16:16+m*64+64<=n:=by omega
   go_wp2_with fail
   clear k0 k1 k2 k3 k4 k5 k6 k7 k8
   obtain ⟨w5,hw5⟩:∃ w5,wr.alloc (.cells #[.string nm,.int .i64 len,.int .i64 rate,.int .i64 ch,.bool lp,.int .i64 f,.int .i64 t,.int .i64 sums,.int .i64 first] 27)=w5:=⟨_,rfl⟩
   rw [hw5]
   have Hx5:=hid (show Blk w5 wr.heap.size 27 (MetaV.cells ⟨nm,len,rate,ch,lp,f,t,sums,first⟩) by rw [<-hw5]; exact Blk.new wr _ (MetaV.cells ⟨nm,len,rate,ch,lp,f,t,sums,first⟩))
   have Hy5:=hid (show BytesAt w5 g (lays bs (headW n c size ++ entsTo L m)) by rw [<-hw5]; exact Hby.out.alloc _)
   have Hg5:=hid (show w.grownBy w5 (some g) by rw [<-hw5]; exact grownBy_allocR Hgr.out _)
   obtain ⟨gm,hgm⟩:∃ gm,wr.heap.size=gm:=⟨_,rfl⟩
   rw [hgm] at Hx5 ⊢
   clear hw5 hgm
   have x5:=fun (z:GW w5)=>(z.2.block gm Hx5.out.lt).trans Hx5.out
   have HFm:=hid (show (Tryz.prog.info? 27).map (·.size)=some 9 by kernel_rfl)
   refine wp_region_calm_tail 6 (by kernel_rfl) (by kernel_rfl) ?_
   simp only [List.take_succ_cons,List.take_zero,List.drop_succ_cons,List.drop_zero]
   repeat (first | (go_big_quiet_want; refine quiet_load_row 27 (.tmp 7) rfl gm rfl _ (MetaV.cells ⟨nm,len,rate,ch,lp,f,t,sums,first⟩).toArray _ _ (by rintro _ ⟨x,rfl⟩; exact x5 x) Tryz.underlying27 rfl HFm.out ?_; go_simp; go_big_quiet_on) | go_big_quiet_step (fail))
   refine wpQuiet_nil ?_
   intro w6 hw'
   have B6:=hid (gw_below hw')
   clear hw' x5
   go_wp2_with (go_at_call 122; fail)
   refine (HEn.out w6 (Hy5.out.below B6.out Hy5.out.lt)).mono ?_
   rintro e w7 ⟨rfl,hy7,hg7⟩
   have Hy7:=hid hy7
   have Hg7:=hid (grownBy_trans (grownBy_below Hg5.out B6.out) hg7)
   clear hy7 hg7
   go_wp2
   go_roundw
   case rel=>exact ⟨m+1,by omega,by go_num,Hy7.out,Hg7.out⟩
   case measure=>simp [intOf]; omega
  ·have hmc:m=c:=by omega
   subst hmc
   have t1:¬ ((m:Int) < (m:Int)):=by omega
   obtain ⟨D,hD⟩:∃ D,16+m*64=D:=⟨_,rfl⟩
   have hlen:=HLs.out m (Nat.le_refl _)
   have hwh:=HWH.out
   generalize lays bs (headW n m size ++ entsTo L m)=LS at *
   rw [hD] at hwh
   have Hwh:=hid hwh
   have HDir:=hid (fun W=>(show Calls Tryz.prog 73 #[.int .i64 m] W (fun e w'=>e=.returned (.int .i64 ((D:Int)+4))/\W=w') from by
    have h:=bankDir_any m W (by omega) (by omega)
    rwa [show 16+(m:Int)*64+4=(D:Int)+4 by omega] at h))
   have hDn:D+4<=n:=by omega
   have HCr:=hid (fun W (h:BytesAt W g LS)=>(show Calls Tryz.prog 71 #[.slice (some ⟨g,0,none⟩) D cap] W (fun e w'=>e=.returned (.int .u32 (crcZ (LS.take D)))/\W=w') from by
    have hl:(LS.take D).length=D:=by rw [List.length_take]; omega
    have:=crcSum_any (LS.take D) (some ⟨g,0,none⟩) cap W (by omega) (fun i v hv=>⟨g,0,rfl,h.lt,by
     unfold u8s at hv
     rw [List.map_take,List.getElem?_take] at hv
     split at hv
     ·rw [Nat.zero_add,blk_cells h]; exact hv
     ·cases hv⟩)
    rwa [hl] at this))
   have hcr:=crcZ_bd (LS.take D)
   generalize crcZ (LS.take D)=C at *
   have HN2:=hid (fun W (h:BytesAt W g LS)=>(show Calls Tryz.prog 70 #[.slice (some ⟨g,0,none⟩) n cap,.int .i64 D,.int .i64 4,.int .i64 C] W (LaidPost W g (putAt LS D (numB 4 C.toNat))) from by
    have:=number_int LS g 0 n cap D 4 C W hcr.1 h (by omega) hDn (by omega) (by omega)
    rwa [Nat.zero_add] at this))
   have hwC:IntKind.i64.wrap C=C:=IntWalk.i64_in _ (by omega)
   clear HLs HFh HFe HWH HE0 HNum hD hwh
   go_wp2_with (first | (go_at_call 73; refine (HDir.out _).mono ?_; rintro e y3 ⟨rfl,rfl⟩) | (go_at_call 71; refine (HCr.out _ Hby.out).mono ?_; rintro e y4 ⟨rfl,rfl⟩) | (go_at_call 70; fail))
   refine (HN2.out _ Hby.out).mono ?_
   rintro e y5 ⟨rfl,hy5,hg5⟩
   have Hy5:=hid hy5
   have Hg5:=hid (grownBy_trans Hgr.out hg5)
   clear hy5 hg5
   go_wp2
   refine bodyPost_end (v:=.tuple #[]) (results_none Tryz.results72 _ _ _) rfl ?_
   exact ⟨rfl,by rw [Hwh.out]; exact Hy5.out,Hg5.out⟩
end
section
open Go.RowKit Go.Lib
def NoByte (vs:List Value):Prop:=∀ v ∈ vs,∀ x,v ≠ .int .u8 x
theorem Row.nobyte {w w':World} {B g:Nat} {a:Option Addr} {vs:List Value} {bs:List Nat} (h:Row w B a vs) (hB:B<=w.heap.size) (hb:BytesAt w g bs) (hn:NoByte vs) (hg:w.grownBy w' (some g)):Row w' B a vs:=fun i v hv=>by
 obtain ⟨b,off,ha,hbl,hc⟩:=h i v hv
 have hne:b ≠ g:=fun e=>by
  subst e
  rw [blk_cells hb] at hc
  unfold u8s at hc
  rw [List.getElem?_map] at hc
  cases hx:bs[off+i]? with
  | none=>rw [hx] at hc; cases hc
  | some x =>
   rw [hx] at hc
   exact hn v (List.mem_of_getElem? hv) _ (Option.some.inj hc).symm
 exact ⟨b,off,ha,hbl,(hg.cell_far ⟨b,off+i,none⟩ (Nat.lt_of_lt_of_le hbl hB) (fun e=>hne (by injection e))).trans hc⟩
theorem Row.under {w w':World} {B g:Nat} {a:Option Addr} {vs:List Value} (h:Row w B a vs) (hB:B<=w.heap.size) (hBg:B<=g) (hg:w.grownBy w' (some g)):Row w' B a vs:=fun i v hv=>by
 obtain ⟨b,off,ha,hbl,hc⟩:=h i v hv
 exact ⟨b,off,ha,hbl,(hg.cell_far ⟨b,off+i,none⟩ (Nat.lt_of_lt_of_le hbl hB) (fun e=>by injection e with e; simp only at e; omega)).trans hc⟩
theorem toneCells_nobyte (ts:List ToneV):NoByte (toneCells ts):=fun v hv x=>by
 unfold toneCells at hv
 obtain ⟨cs,hcs,hv⟩:=List.mem_flatten.1 hv
 obtain ⟨t,_,rfl⟩:=List.mem_map.1 hcs
 simp only [ToneV.cells,List.mem_cons,List.not_mem_nil,or_false] at hv
 rcases hv with rfl | rfl <;> intro h <;> cases h
theorem frC_nobyte (p:FrH × FrameV):NoByte (frC p):=fun v hv x=>by
 unfold frC FrameV.cells at hv
 simp only [List.mem_append,List.mem_cons,List.mem_map] at hv
 rcases hv with ⟨y,_,rfl⟩ | rfl | ⟨y,_,rfl⟩ | ⟨y,_,rfl⟩ | ⟨y,_,rfl⟩ <;> intro h <;> cases h
theorem framesC_nobyte (L:List (FrH × FrameV)):NoByte (framesC L):=fun v hv x=>by
 unfold framesC at hv
 obtain ⟨cs,hcs,hv⟩:=List.mem_flatten.1 hv
 obtain ⟨p,_,rfl⟩:=List.mem_map.1 hcs
 exact frC_nobyte p v hv x
theorem FramesAt.nobyte {w w':World} {g:Nat} {A:Option Addr} {L:List (FrH × FrameV)} {bs:List Nat} (h:FramesAt w A L) (hb:BytesAt w g bs) (hg:w.grownBy w' (some g)):FramesAt w' A L :=
 ⟨(h.row.nobyte (Nat.le_refl _) hb (framesC_nobyte L) hg).more hg.size,h.len,fun p hp=>⟨(h.tones p hp).1,(h.tones p hp).2.1,((h.tones p hp).2.2.nobyte (Nat.le_refl _) hb (toneCells_nobyte _) hg).more hg.size⟩⟩
theorem CoderAt.grown {w w':World} {gc g:Nat} {size:Int} (h:CoderAt w gc size) (hg:w.grownBy w' (some g)) (hne:gc ≠ g):CoderAt w' gc size:=by
 have hl:gc < w.heap.size:=by
  rcases Nat.lt_or_ge gc w.heap.size with h1 | h1
  ·exact h1
  ·unfold CoderAt at h
   rw [Array.getElem?_eq_none h1] at h
   cases h
 exact (hg.block gc hl (fun e=>hne (by injection e))).trans h
theorem CoderAt.later {w w':World} {gc:Nat} {size:Int} (h:CoderAt w gc size) (hb:Below w.heap.size w w'):CoderAt w' gc size:=hkeep h hb
/-! What is laid. -/
def frameW (first sums size q:Nat) (x:FrameV):List (Nat × List Nat):=[(first+q*size,frameBytes x size),(sums+4*q,numB 4 (crcZ (frameBytes x size)).toNat)]
def chanW (first sums size ch k:Nat) (fs:List FrameV):Nat->List (Nat × List Nat)
 | 0=>[]
 | i+1=>chanW first sums size ch k fs i ++ match fs[i]? with
  | some x=>frameW first sums size (i*ch+k) x
  | none=>[]
def layTo (first sums size:Nat) (rows:List (List Int)):Nat->List (Nat × List Nat)
 | 0=>[]
 | k+1=>layTo first sums size rows k ++ match rows[k]? with
  | some d=>chanW first sums size rows.length k (framesZ d size) (countN d.length)
  | none=>[]
theorem chanW_succ {first sums size ch k:Nat} {fs:List FrameV} {i:Nat} {x:FrameV} (h:fs[i]? = some x):chanW first sums size ch k fs (i+1)=chanW first sums size ch k fs i ++ frameW first sums size (i*ch+k) x:=by
 show chanW first sums size ch k fs i ++ (match fs[i]? with | some x=>_ | none=>_)=_
 rw [h]
theorem layTo_succ {first sums size:Nat} {rows:List (List Int)} {k:Nat} {d:List Int} (h:rows[k]? = some d):layTo first sums size rows (k+1)=layTo first sums size rows k ++ chanW first sums size rows.length k (framesZ d size) (countN d.length):=by
 show layTo first sums size rows k ++ (match rows[k]? with | some d=>_ | none=>_)=_
 rw [h]
theorem frameW_fits {n first sums size q:Nat} {x:FrameV} (hx:(frameBytes x size).length=size) (h:first+q*size+size<=n/\sums+4*q+4<=n):FitsW n (frameW first sums size q x):=by
 intro p hp
 unfold frameW at hp
 simp only [List.mem_cons,List.not_mem_nil,or_false] at hp
 rcases hp with rfl | rfl
 ·rw [hx]; exact h.1
 ·rw [numB_len]; exact h.2
theorem chanW_fits {n first sums size ch k:Nat} {fs:List FrameV}:∀ i,(∀ j x,j < i->fs[j]? = some x->(frameBytes x size).length=size/\first+(j*ch+k)*size+size<=n/\sums+4*(j*ch+k)+4<=n)->FitsW n (chanW first sums size ch k fs i)
 | 0,_=>fun p hp=>by simp [chanW] at hp
 | i+1,h=>by
  intro p hp
  unfold chanW at hp
  rcases List.mem_append.1 hp with h1 | h1
  ·exact chanW_fits i (fun j x hj hx=>h j x (by omega) hx) p h1
  ·cases hx:fs[i]? with
   | none=>rw [hx] at h1; simp at h1
   | some x =>
    rw [hx] at h1
    have:=h i x (by omega) hx
    exact frameW_fits this.1 this.2 p h1
theorem layTo_fits {n first sums size:Nat} {rows:List (List Int)}:∀ k,(∀ j d i x,j < k->rows[j]? = some d->i < countN d.length->(framesZ d size)[i]? = some x->(frameBytes x size).length=size/\first+(i*rows.length+j)*size+size<=n/\sums+4*(i*rows.length+j)+4<=n)->FitsW n (layTo first sums size rows k)
 | 0,_=>fun p hp=>by simp [layTo] at hp
 | k+1,h=>by
  intro p hp
  unfold layTo at hp
  rcases List.mem_append.1 hp with h1 | h1
  ·exact layTo_fits k (fun j d i x hj=>h j d i x (by omega)) p h1
  ·cases hd:rows[k]? with
   | none=>rw [hd] at h1; simp at h1
   | some d =>
    rw [hd] at h1
    exact chanW_fits _ (fun i x hi hx=>h k d i x (by omega) hd hi hx) p h1
end
section
open Go.RowKit Go.Lib
def framesN (m:MetaV):Int:=countZ m.length*m.channels
theorem bankFrames_any (m:MetaV) (w:World) (h1:0<=m.length/\m.length<=1048576) (h2:0<=m.channels/\m.channels<=255) :
  Calls Tryz.prog 17 #[.agg m.cells.toArray] w fun e w'=>e=.returned (.int .i64 (framesN m))/\Below w.heap.size w w':=by
 obtain ⟨nm,len,rate,ch,lp,f,t,sums,first⟩:=m
 simp only at h1 h2
 have HF:=Lib.hid (show framesN ⟨nm,len,rate,ch,lp,f,t,sums,first⟩=countZ len*ch from rfl)
 have hc:0<=countZ len/\countZ len<=65537:=by unfold countZ; split <;> omega
 have HC:=Lib.hid (fun W=>CountI_any len W (by omega))
 generalize framesN ⟨nm,len,rate,ch,lp,f,t,sums,first⟩=F at *
 generalize countZ len=C at *
 have hp:0<=C*ch/\C*ch<=65537*255:=⟨Int.mul_nonneg hc.1 h2.1,Int.le_trans (Int.mul_le_mul_of_nonneg_right hc.2 h2.1) (Int.mul_le_mul_of_nonneg_left h2.2 (by omega))⟩
 have hw:IntKind.i64.wrap (C*ch)=C*ch:=IntWalk.i64_in _ (by omega)
 show Calls Tryz.prog 17 #[.agg #[.string nm,.int .i64 len,.int .i64 rate,.int .i64 ch,.bool lp,.int .i64 f,.int .i64 t,.int .i64 sums,.int .i64 first]] w _
 obtain ⟨w1,hw1⟩:∃ w1,w.alloc (.cells #[.string nm,.int .i64 len,.int .i64 rate,.int .i64 ch,.bool lp,.int .i64 f,.int .i64 t,.int .i64 sums,.int .i64 first] 27)=w1:=⟨_,rfl⟩
 have Hx:=Lib.hid (show Blk w1 w.heap.size 27 [.string nm,.int .i64 len,.int .i64 rate,.int .i64 ch,.bool lp,.int .i64 f,.int .i64 t,.int .i64 sums,.int .i64 first] by rw [<-hw1]; exact Blk.new w _ [.string nm,.int .i64 len,.int .i64 rate,.int .i64 ch,.bool lp,.int .i64 f,.int .i64 t,.int .i64 sums,.int .i64 first])
 have Hb:=Lib.hid (show Below w.heap.size w w1 by rw [<-hw1]; exact bnew w _)
 have x1:=fun (z:GW w1)=>(show z.1.cell? ⟨w.heap.size,1,none⟩=some (.int .i64 len) from (z.2.cell (p:=⟨w.heap.size,1,none⟩) Hx.out.lt).trans (Hx.out.cell 1))
 have x3:=fun (z:GW w1)=>(show z.1.cell? ⟨w.heap.size,3,none⟩=some (.int .i64 ch) from (z.2.cell (p:=⟨w.heap.size,3,none⟩) Hx.out.lt).trans (Hx.out.cell 3))
 go_enter Tryz.func17,Tryz.ntmps17
 go_wp2_with fail
 clear hw1
 refine wp_region_calm (by kernel_rfl) (by kernel_rfl) ?_
 repeat (go_big_quiet_step ((go_at_call 68; exact calm_same (HC.out _))))
 refine wpQuiet_nil ?_
 intro w5 hw'
 have B5:=Lib.hid (gw_below hw')
 clear hw' x1 x3
 go_wp2
 go_ret
 exact ⟨by rw [HF.out]; rfl,bnext Hb.out B5.out⟩
theorem bup16_any (n:Int) (w:World) (h0:0<=n) (h:n<=1000000000000):Calls Tryz.prog 120 #[.int .i64 n,.int .i64 16] w fun e w'=>e=.returned (.int .i64 (upZ n 16))/\w=w':=by
 go_enter Tryz.func120,Tryz.ntmps120
 go_wp2
 go_ret
 exact ⟨ret_int (by unfold upZ; omega),rfl⟩
theorem bup64_any (n:Int) (w:World) (h0:0<=n) (h:n<=1000000000000):Calls Tryz.prog 120 #[.int .i64 n,.int .i64 64] w fun e w'=>e=.returned (.int .i64 (upZ n 64))/\w=w':=by
 go_enter Tryz.func120,Tryz.ntmps120
 go_wp2
 go_ret
 exact ⟨ret_int (by unfold upZ; omega),rfl⟩
def atTo (size:Int) (L:List MetaV):Nat->Int
 | 0=>16+(L.length:Int)*64+4
 | m+1=>match L[m]? with
  | some x=>upZ (atTo size L m+4*framesN x) 16+size*framesN x
  | none=>atTo size L m
theorem atTo_succ {size:Int} {L:List MetaV} {m:Nat} {x:MetaV} (h:L[m]? = some x):atTo size L (m+1)=upZ (atTo size L m+4*framesN x) 16+size*framesN x:=by
 show (match L[m]? with | some x=>_ | none=>_)=_
 rw [h]
def plc (size:Int) (L:List MetaV) (i:Nat) (x:MetaV):MetaV:={ x with sums:=atTo size L i,first:=upZ (atTo size L i+4*framesN x) 16 }
def mixTo (size:Int) (L:List MetaV):Nat->List MetaV
 | 0=>L
 | m+1=>match L[m]? with
  | some x=>(mixTo size L m).set m (plc size L m x)
  | none=>mixTo size L m
theorem mixTo_succ {size:Int} {L:List MetaV} {m:Nat} {x:MetaV} (h:L[m]? = some x):mixTo size L (m+1)=(mixTo size L m).set m (plc size L m x):=by
 show (match L[m]? with | some x=>_ | none=>_)=_
 rw [h]
theorem mixTo_len (size:Int) (L:List MetaV):∀ m,(mixTo size L m).length=L.length
 | 0=>rfl
 | m+1=>by
  have ih:=mixTo_len size L m
  unfold mixTo
  split
  ·rw [List.length_set,ih]
  ·exact ih
theorem mixTo_get {size:Int} {L:List MetaV} {i:Nat} {x:MetaV} (h:L[i]? = some x):∀ m,(mixTo size L m)[i]? = if i < m then some (plc size L i x) else some x
 | 0=>by rw [if_neg (by omega)]; exact h
 | m+1=>by
  have ih:=mixTo_get (size:=size) h m
  have hi:=(List.getElem?_eq_some_iff.1 h).1
  cases hx:L[m]? with
  | none =>
   have hm:=List.getElem?_eq_none_iff.1 hx
   have e:mixTo size L (m+1)=mixTo size L m:=by
    show (match L[m]? with | some x=>_ | none=>_)=_
    rw [hx]
   rw [e,ih,if_pos (by omega),if_pos (by omega)]
  | some y =>
   rw [mixTo_succ hx,List.getElem?_set,mixTo_len]
   by_cases hmi:m=i
   ·subst hmi
    rw [h] at hx
    injection hx with hx
    subst hx
    rw [if_pos rfl,if_pos hi,if_pos (by omega)]
   ·rw [if_neg hmi,ih]
    by_cases h2:i < m
    ·rw [if_pos h2,if_pos (by omega)]
    ·rw [if_neg h2,if_neg (by omega)]
theorem metaCells_len (L:List MetaV):(metaCells L).length=L.length*9:=by
 unfold metaCells
 rw [flat_len 9 (L.map MetaV.cells) (fun cs hcs=>by obtain ⟨z,_,rfl⟩:=List.mem_map.1 hcs; rfl),List.length_map]
end
section
open Go.RowKit Go.Lib
theorem metaCells_set1 {L:List MetaV} {m j:Nat} {x y:MetaV} {v:Value} (h:L[m]? = some x) (hj:j < 9) (hy:y.cells=x.cells.set j v):metaCells (L.set m y)=(metaCells L).set (m*9+j) v:=by
 have hm:=(List.getElem?_eq_some_iff.1 h).1
 refine List.ext_getElem? fun i=>?_
 rw [List.getElem?_set,metaCells_len]
 rcases Nat.lt_or_ge i (L.length*9) with hi | hi
 ·have hq:i / 9 < L.length:=by omega
  have hj2:i % 9 < 9:=Nat.mod_lt _ (by decide)
  have hd:i / 9*9+i % 9=i:=by omega
  by_cases hqm:i / 9=m
  ·have h1:(L.set m y)[m]? = some y:=by rw [List.getElem?_set,if_pos rfl,if_pos hm]
   have h2:=metaCells_get _ h1 (i % 9) hj2
   have h3:=metaCells_get L h (i % 9) hj2
   rw [<-hqm,hd] at h2 h3
   rw [hqm] at h2
   rw [h2,h3,hy,List.getElem?_set]
   by_cases h8:m*9+j=i
   ·rw [if_pos h8,if_pos (show j=i % 9 by omega),if_pos (show j < x.cells.length from hj),if_pos (show m*9+j < L.length*9 by omega)]
   ·rw [if_neg h8,if_neg (by omega)]
  ·obtain ⟨z,hz⟩:∃ z,L[i / 9]? = some z:=⟨_,List.getElem?_eq_getElem hq⟩
   have h1:(L.set m y)[i / 9]? = some z:=by rw [List.getElem?_set,if_neg (fun e=>hqm e.symm)]; exact hz
   have h2:=metaCells_get _ h1 (i % 9) hj2
   have h3:=metaCells_get L hz (i % 9) hj2
   rw [hd] at h2 h3
   rw [h2,h3,if_neg (by omega)]
 ·rw [if_neg (by omega),List.getElem?_eq_none (by rw [metaCells_len,List.length_set]; exact hi),List.getElem?_eq_none (by rw [metaCells_len]; exact hi)]
theorem own_start2 {w:World} {base:Nat} {e:TypeId} {size n c:Nat} {A:Option Addr} {xs:List Value} (h:w.ownsRow base e size (.slice A n c) n xs) (hn:0 < n):∃ g,A=some ⟨g,0,none⟩/\base<=g/\g < w.heap.size:=by
 rcases h.2 with ⟨_,h0⟩ | ⟨g,cap,cur,hv,hb,hh,_⟩
 ·omega
 ·injection hv with h1
  subst h1
  refine ⟨g,rfl,hb,?_⟩
  rcases Nat.lt_or_ge g w.heap.size with h2 | h2
  ·exact h2
  ·rw [Array.getElem?_eq_none h2] at hh; cases hh
def FewM (x:MetaV):Prop:=(0<=x.length/\x.length<=150)/\0<=x.channels/\x.channels<=2
theorem framesN_bd {x:MetaV} (h:FewM x):0<=framesN x/\framesN x<=20:=by
 obtain ⟨⟨h1,h2⟩,h3,h4⟩:=h
 unfold framesN
 have hc:0<=countZ x.length/\countZ x.length<=10:=by unfold countZ; split <;> omega
 generalize countZ x.length=c at *
 rcases (show x.channels=0\/x.channels=1\/x.channels=2 by omega) with e | e | e <;> rw [e] <;> omega
theorem size_mul {size F:Int} (h1:24<=size) (h2:size<=96) (h3:0<=F) (h4:F<=20):0<=size*F/\size*F<=1920 :=
 ⟨Int.mul_nonneg (by omega) h3,Int.le_trans (Int.mul_le_mul_of_nonneg_right h2 h3) (by omega)⟩
theorem atTo_bd {size:Int} {L:List MetaV} (h1:24<=size) (h2:size<=96) (hL:∀ x ∈ L,FewM x):∀ m:Nat,0<=atTo size L m/\atTo size L m<=20+64*(L.length:Int)+2100*(m:Int)
 | 0=>by unfold atTo; omega
 | m+1=>by
  have ih:=atTo_bd h1 h2 hL m
  cases hx:L[m]? with
  | none =>
   have e:atTo size L (m+1)=atTo size L m:=by
    show (match L[m]? with | some x=>_ | none=>_)=_
    rw [hx]
   rw [e]
   push_cast; omega
  | some x =>
   rw [atTo_succ hx]
   have hF:=framesN_bd (hL x (List.mem_of_getElem? hx))
   have hm:=size_mul h1 h2 hF.1 hF.2
   generalize size*framesN x=P at *
   generalize framesN x=F at *
   generalize atTo size L m=a at *
   unfold upZ
   push_cast
   omega
theorem bnext' {B:Nat} {a b c:World} (h1:Below B a b) (h2:Below b.heap.size b c) (hB:B<=a.heap.size:=by assumption):Below B a c:=h1.trans (h2.mono (Nat.le_trans hB h1.size))
theorem place_any (size:Int) (n cap base:Nat) (L:List MetaV) (A:Option Addr) (w:World) (hn:L.length=n) (hn8:n<=8) (hL:∀ x ∈ L,FewM x) (hs1:24<=size) (hs2:size<=96)
  (hown:w.ownsRow base 27 9 (.slice A n cap) n (metaCells L)) (hbase:base<=w.heap.size) :
  Calls Tryz.prog 69 #[.slice A n cap,.int .i64 size] w fun e w'=>e=.returned (.int .i64 (upZ (atTo size L n) 64))/\w'.ownsRow base 27 9 (.slice A n cap) n (metaCells (mixTo size L n))/\Below base w w':=by
 have HBd:=hid (fun m=>atTo_bd (size:=size) hs1 hs2 hL m)
 have H0:=hid (show atTo size L 0=16+(L.length:Int)*64+4 from rfl)
 have HM0:=hid (show mixTo size L 0=L from rfl)
 rw [hn] at HBd H0
 have Hn:=hid hn
 have HL:=hid hL
 have Hown:=hid hown
 have HUp:=hid (fun a W (h:0<=a/\a<=100000)=>bup16_any a W h.1 (by omega))
 have HU64:=hid (fun a W (h:0<=a/\a<=100000)=>bup64_any a W h.1 (by omega))
 have HDir:=hid (fun W=>bankDir_any (n:Int) W (by omega) (by omega))
 have hb0:=HBd.out 0
 rw [H0.out] at hb0
 clear hn hL hown
 go_enter Tryz.func69,Tryz.ntmps69
 go_wp2_with (go_at_call 73; refine (HDir.out _).mono ?_; rintro e w2 ⟨rfl,rfl⟩)
 go_loopw [5,12] (fun at_ i wr=>∃ m:Nat,m<=n/\i=.int .i64 m/\at_=.int .i64 (atTo size L m)/\wr.ownsRow base 27 9 (.slice A n cap) n (metaCells (mixTo size L m))/\Below base w wr) (fun _ i _=>n - (intOf i).toNat)
 case atStart=>exact ⟨0,by omega,rfl,by rw [H0.out],Hown.out,Below.refl _ _⟩
 case round =>
  obtain ⟨m,hm,rfl,rfl,ho,hbel⟩:=hrel
  have Ho:=hid ho
  have Hbel:=hid hbel
  clear ho hbel
  by_cases hlt:m < n
  ·have t1:(m:Int) < (n:Int):=by omega
   have t2:(0:Int)<=(m:Int):=by omega
   obtain ⟨x,hx⟩:=list_get (k:=m) Hn.out hlt
   have hFx:=framesN_bd (HL.out x (List.mem_of_getElem? hx))
   have hfx:=HL.out x (List.mem_of_getElem? hx)
   have hbd:=HBd.out m
   have HAt:=hid (atTo_succ (size:=size) hx)
   have HMx:=hid (mixTo_succ (size:=size) hx)
   have hxm:(mixTo size L m)[m]? = some x:=by rw [mixTo_get hx m,if_neg (by omega)]
   obtain ⟨g,rfl,hgb,hgl⟩:=own_start2 Ho.out (by omega)
   have hPl:=(show plc size L m x={ x with sums:=atTo size L m,first:=upZ (atTo size L m+4*framesN x) 16 } from rfl)
   have hmu:=size_mul hs1 hs2 hFx.1 hFx.2
   obtain ⟨a,ha⟩:∃ a,atTo size L m=a:=⟨_,rfl⟩
   rw [ha] at hPl hbd HAt ⊢
   rw [hPl] at HMx
   generalize mixTo size L m=LM at *
   have hlm:m < LM.length:=(List.getElem?_eq_some_iff.1 hxm).1
   obtain ⟨fi,hfi⟩:∃ fi,upZ (a+4*framesN x) 16=fi:=⟨_,rfl⟩
   have HFi:=hid hfi
   rw [hfi] at HMx HAt
   have hfib:0<=fi/\fi<=100000:=by rw [<-hfi]; unfold upZ; omega
   have hs1':=metaCells_set1 (y:={ x with sums:=a }) (v:=.int .i64 a) hxm (show 7 < 9 by decide) rfl
   have hx1:(LM.set m { x with sums:=a })[m]? = some { x with sums:=a }:=by rw [List.getElem?_set,if_pos rfl,if_pos hlm]
   have hs2':=metaCells_set1 (y:={ x with sums:=a,first:=fi }) (v:=.int .i64 fi) hx1 (show 8 < 9 by decide) rfl
   rw [List.set_set] at hs2'
   obtain ⟨hst,hgr⟩:=Ho.out.stored (m*9+7) (.int .i64 a)
   rw [<-hs1'] at hst
   obtain ⟨b',off',hA',_,hcl⟩:=meta_at (Row.of_own Ho.out) hxm
   injection hA' with hA'
   injection hA' with e1 e2
   subst e1 e2
   have c7:wr.cell? ⟨g,m*9+7,none⟩=some (.int .i64 x.sums):=by
    have:=hcl 7 _ rfl
    rwa [Nat.zero_add] at this
   have z7:=Ho.out.frozenAt (m*9+7)
   obtain ⟨w1,hw1⟩:∃ w1,wr.setCell ⟨g,m*9+7,none⟩ (.int .i64 a)=w1:=⟨_,rfl⟩
   rw [hw1] at hst hgr
   have O1:=hid hst
   have E1:=hid (Hbel.out.grown hgr (by have:=Hbel.out.size; omega) (fun k hk=>by injection hk with hk; omega))
   obtain ⟨b',off',hA',_,hcl1⟩:=meta_at (Row.of_own hst) hx1
   injection hA' with hA'
   injection hA' with e1 e2
   subst e1 e2
   have HFr:=hid (fun (y:MetaV) W (hy:y.length=x.length/\y.channels=x.channels)=>(show Calls Tryz.prog 17 #[.agg y.cells.toArray] W (fun e w'=>e=.returned (.int .i64 (framesN x))/\Below W.heap.size W w') from by
    have h:=bankFrames_any y W (by rw [hy.1]; have:=hfx.1; omega) (by rw [hy.2]; have:=hfx.2; omega)
    have e:framesN y=framesN x:=by unfold framesN; rw [hy.1,hy.2]
    rwa [e] at h))
   obtain ⟨nm,len,rate,ch,lp,f,t,sums,first⟩:=x
   have HFr1:=hid (fun W=>HFr.out ⟨nm,len,rate,ch,lp,f,t,a,first⟩ W ⟨rfl,rfl⟩)
   have HFr2:=hid (fun W=>HFr.out ⟨nm,len,rate,ch,lp,f,t,a,fi⟩ W ⟨rfl,rfl⟩)
   have HK:=hid (fun j v (hv:(MetaV.cells ⟨nm,len,rate,ch,lp,f,t,a,first⟩)[j]? = some v)=>(show w1.cell? ⟨g,m*9+j,none⟩=some v from by have:=hcl1 j v hv; rwa [Nat.zero_add] at this))
   have HFm:=hid (show (Tryz.prog.info? 27).map (·.size)=some 9 by kernel_rfl)
   generalize framesN ⟨nm,len,rate,ch,lp,f,t,sums,first⟩=F at *
   have HsE:=hid hs2'
   have HUp1:=hid (fun W=>HUp.out (a+4*F) W (by omega))
   rw [hfi] at HUp1
   have HLl:=hid hlm
   clear hst hgr hcl hcl1 hs1' hs2' hx hxm hx1 hfx hPl ha hfi HFr hlm
   go_wp2_with (first | (refine wpList_load_part_w rfl 27 (.tmp 23) rfl g (m*9) rfl (MetaV.cells ⟨nm,len,rate,ch,lp,f,t,a,first⟩) _ HK.out Tryz.underlying27 rfl HFm.out ?_) | (go_at_call 17; fail))
   refine (HFr1.out w1).mono ?_
   rintro e w2 ⟨rfl,hb2⟩
   have O2:=hid (own_below O1.out hb2)
   have E2:=hid (bnext' E1.out hb2)
   clear hb2 hw1 c7 z7
   have hx1:(LM.set m (⟨nm,len,rate,ch,lp,f,t,a,first⟩:MetaV))[m]? = some ⟨nm,len,rate,ch,lp,f,t,a,first⟩:=by rw [List.getElem?_set,if_pos rfl,if_pos (by have:=HLl.out; omega)]
   obtain ⟨b',off',hA',_,hcl2⟩:=meta_at (Row.of_own O2.out) hx1
   injection hA' with hA'
   injection hA' with e1 e2
   subst e1 e2
   have c8:w2.cell? ⟨g,m*9+8,none⟩=some (.int .i64 first):=by
    have:=hcl2 8 _ rfl
    rwa [Nat.zero_add] at this
   have z8:=O2.out.frozenAt (m*9+8)
   obtain ⟨hst,hgr⟩:=O2.out.stored (m*9+8) (.int .i64 fi)
   obtain ⟨w3,hw3⟩:∃ w3,w2.setCell ⟨g,m*9+8,none⟩ (.int .i64 fi)=w3:=⟨_,rfl⟩
   rw [<-HsE.out,hw3] at hst
   rw [hw3] at hgr
   have O3:=hid hst
   have E3:=hid (E2.out.grown hgr (by have:=E2.out.size; omega) (fun k hk=>by injection hk with hk; omega))
   have hx2:(LM.set m (⟨nm,len,rate,ch,lp,f,t,a,fi⟩:MetaV))[m]? = some ⟨nm,len,rate,ch,lp,f,t,a,fi⟩:=by rw [List.getElem?_set,if_pos rfl,if_pos (by have:=HLl.out; omega)]
   obtain ⟨b',off',hA',hbl3,hcl3⟩:=meta_at (Row.of_own hst) hx2
   injection hA' with hA'
   injection hA' with e1 e2
   subst e1 e2
   have HK3:=hid (fun (z:GW w3) j v (hv:(MetaV.cells ⟨nm,len,rate,ch,lp,f,t,a,fi⟩)[j]? = some v)=>(show z.1.cell? ⟨g,m*9+j,none⟩=some v from by
    have h:=(z.2.cell (p:=⟨g,0+m*9+j,none⟩) hbl3).trans (hcl3 j v hv)
    rwa [Nat.zero_add] at h))
   have x8:=fun (z:GW w3)=>HK3.out z 8 _ rfl
   have hwm:IntKind.i64.wrap (size*F)=size*F:=IntWalk.i64_in _ (by omega)
   have hws:IntKind.i64.wrap (fi+size*F)=fi+size*F:=IntWalk.i64_in _ (by omega)
   clear hst hgr hcl2 hcl3 hx1 hx2 hbl3
   go_wp2_with (go_at_call 120; refine (HUp1.out _).mono ?_; rintro e w5 ⟨rfl,rfl⟩)
   clear hw3 c8 z8
   refine wp_region_calm (by kernel_rfl) (by kernel_rfl) ?_
   repeat (first | (go_big_quiet_want; refine quiet_load_part 27 (.tmp 42) rfl g (m*9) rfl (MetaV.cells ⟨nm,len,rate,ch,lp,f,t,a,fi⟩) _ (by rintro _ ⟨z,rfl⟩; exact HK3.out z) Tryz.underlying27 rfl HFm.out ?_; go_simp; go_big_quiet_on) | go_big_quiet_step ((go_at_call 17; exact calm_call (HFr2.out _))))
   refine wpQuiet_nil ?_
   intro w6 hw'
   have B6:=hid (gw_below hw')
   clear hw' x8 HK3
   have O6:=hid (own_below O3.out B6.out)
   have E6:=hid (bnext' E3.out B6.out)
   go_wp2
   go_roundw
   case rel=>exact ⟨m+1,by omega,by go_num,by rw [HAt.out],by rw [HMx.out]; exact O6.out,E6.out⟩
   case measure=>simp [intOf]; omega
  ·have hmn:m=n:=by omega
   have hbd:=HBd.out m
   subst hmn
   have t1:¬ ((m:Int) < (m:Int)):=by omega
   have HU:=hid (fun W=>HU64.out (atTo size L m) W (by omega))
   go_wp2_with (go_at_call 120; refine (HU.out _).mono ?_; rintro e w5 ⟨rfl,rfl⟩)
   go_ret
   exact ⟨rfl,Ho.out,Hbel.out⟩
end
section
open Go.RowKit Go.Lib
structure GenM (x:MetaV):Prop where
 len:0<=x.length/\x.length<=1048576
 ch:0<=x.channels/\x.channels<=2
 fr:0<=framesN x/\framesN x<=131072
theorem genM_of {x:MetaV} (h1:0<=x.length/\x.length<=1048576) (h2:0<=x.channels/\x.channels<=2):GenM x:=by
 refine ⟨h1,h2,?_⟩
 unfold framesN
 have hc:0<=countZ x.length/\countZ x.length<=65536:=by unfold countZ; split <;> omega
 generalize countZ x.length=c at *
 rcases (show x.channels=0\/x.channels=1\/x.channels=2 by omega) with e | e | e <;> rw [e] <;> omega
theorem genM_right {x:MetaV} (h:x.right=true):GenM x:=by
 unfold MetaV.right at h
 simp only [Bool.and_eq_true,Bool.or_eq_true,decide_eq_true_eq] at h
 obtain ⟨⟨⟨⟨⟨⟨h1,h2⟩,h3⟩,h4⟩,h5⟩,h6⟩,h7⟩:=h
 exact genM_of (by omega) (by omega)
theorem size_mulG {size F:Int} (h1:24<=size) (h2:size<=96) (h3:0<=F) (h4:F<=131072):0<=size*F/\size*F<=12582912 :=
 ⟨Int.mul_nonneg (by omega) h3,Int.le_trans (Int.mul_le_mul_of_nonneg_right h2 h3) (by omega)⟩
theorem genTo_bd' {size:Int} {L:List MetaV} (h1:24<=size) (h2:size<=96) (hL:∀ x ∈ L,GenM x):∀ m:Nat,m<=L.length->0<=atTo size L m/\atTo size L m<=20+64*(L.length:Int)+13200000*(m:Int)
 | 0,_=>by unfold atTo; omega
 | m+1,hm=>by
  have ih:=genTo_bd' h1 h2 hL m (by omega)
  obtain ⟨x,hx⟩:∃ x,L[m]? = some x:=⟨_,List.getElem?_eq_getElem (by omega)⟩
  rw [atTo_succ hx]
  have hF:=(hL x (List.mem_of_getElem? hx)).fr
  have hmu:=size_mulG h1 h2 hF.1 hF.2
  generalize size*framesN x=P at *
  generalize framesN x=F at *
  generalize atTo size L m=a at *
  unfold upZ
  push_cast
  omega
theorem atTo_past {size:Int} {L:List MetaV}:∀ m,L.length<=m->atTo size L m=atTo size L L.length
 | 0,h=>by rw [show L.length=0 by omega]
 | m+1,h=>by
  by_cases he:L.length=m+1
  ·rw [he]
  ·have e:atTo size L (m+1)=atTo size L m:=by
    show (match L[m]? with | some x=>_ | none=>_)=_
    rw [List.getElem?_eq_none (by omega)]
   rw [e,atTo_past m (by omega)]
theorem genTo_bd {size:Int} {L:List MetaV} (h1:24<=size) (h2:size<=96) (hL:∀ x ∈ L,GenM x) (h64:L.length<=64) (m:Nat):0<=atTo size L m/\atTo size L m<=900000000:=by
 by_cases hm:m<=L.length
 ·have:=genTo_bd' h1 h2 hL m hm
  omega
 ·rw [atTo_past m (by omega)]
  have:=genTo_bd' h1 h2 hL L.length (Nat.le_refl _)
  omega
theorem place_gen (size:Int) (n cap base:Nat) (L:List MetaV) (A:Option Addr) (w:World) (hn:L.length=n) (hn8:n<=64) (hL:∀ x ∈ L,GenM x) (hs1:24<=size) (hs2:size<=96)
  (hown:w.ownsRow base 27 9 (.slice A n cap) n (metaCells L)) (hbase:base<=w.heap.size) :
  Calls Tryz.prog 69 #[.slice A n cap,.int .i64 size] w fun e w'=>e=.returned (.int .i64 (upZ (atTo size L n) 64))/\w'.ownsRow base 27 9 (.slice A n cap) n (metaCells (mixTo size L n))/\Below base w w':=by
 have HBd:=hid (fun m=>genTo_bd (size:=size) hs1 hs2 hL (by rw [hn]; exact hn8) m)
 have H0:=hid (show atTo size L 0=16+(L.length:Int)*64+4 from rfl)
 have HM0:=hid (show mixTo size L 0=L from rfl)
 rw [hn] at H0
 have Hn:=hid hn
 have HL:=hid hL
 have Hown:=hid hown
 have HUp:=hid (fun a W (h:0<=a/\a<=1000000000)=>bup16_any a W h.1 (by omega))
 have HU64:=hid (fun a W (h:0<=a/\a<=1000000000)=>bup64_any a W h.1 (by omega))
 have HDir:=hid (fun W=>bankDir_any (n:Int) W (by omega) (by omega))
 have hb0:=HBd.out 0
 rw [H0.out] at hb0
 clear hn hL hown
 go_enter Tryz.func69,Tryz.ntmps69
 go_wp2_with (go_at_call 73; refine (HDir.out _).mono ?_; rintro e w2 ⟨rfl,rfl⟩)
 go_loopw [5,12] (fun at_ i wr=>∃ m:Nat,m<=n/\i=.int .i64 m/\at_=.int .i64 (atTo size L m)/\wr.ownsRow base 27 9 (.slice A n cap) n (metaCells (mixTo size L m))/\Below base w wr) (fun _ i _=>n - (intOf i).toNat)
 case atStart=>exact ⟨0,by omega,rfl,by rw [H0.out],Hown.out,Below.refl _ _⟩
 case round =>
  obtain ⟨m,hm,rfl,rfl,ho,hbel⟩:=hrel
  have Ho:=hid ho
  have Hbel:=hid hbel
  clear ho hbel
  by_cases hlt:m < n
  ·have t1:(m:Int) < (n:Int):=by omega
   have t2:(0:Int)<=(m:Int):=by omega
   obtain ⟨x,hx⟩:=list_get (k:=m) Hn.out hlt
   have hFx:=(HL.out x (List.mem_of_getElem? hx)).fr
   have hfx:=HL.out x (List.mem_of_getElem? hx)
   have hbd:=HBd.out m
   have HAt:=hid (atTo_succ (size:=size) hx)
   have HMx:=hid (mixTo_succ (size:=size) hx)
   have hxm:(mixTo size L m)[m]? = some x:=by rw [mixTo_get hx m,if_neg (by omega)]
   obtain ⟨g,rfl,hgb,hgl⟩:=own_start2 Ho.out (by omega)
   have hPl:=(show plc size L m x={ x with sums:=atTo size L m,first:=upZ (atTo size L m+4*framesN x) 16 } from rfl)
   have hmu:=size_mulG hs1 hs2 hFx.1 hFx.2
   obtain ⟨a,ha⟩:∃ a,atTo size L m=a:=⟨_,rfl⟩
   rw [ha] at hPl hbd HAt ⊢
   rw [hPl] at HMx
   generalize mixTo size L m=LM at *
   have hlm:m < LM.length:=(List.getElem?_eq_some_iff.1 hxm).1
   obtain ⟨fi,hfi⟩:∃ fi,upZ (a+4*framesN x) 16=fi:=⟨_,rfl⟩
   have HFi:=hid hfi
   rw [hfi] at HMx HAt
   have hfib:0<=fi/\fi<=1000000000:=by rw [<-hfi]; unfold upZ; omega
   have hs1':=metaCells_set1 (y:={ x with sums:=a }) (v:=.int .i64 a) hxm (show 7 < 9 by decide) rfl
   have hx1:(LM.set m { x with sums:=a })[m]? = some { x with sums:=a }:=by rw [List.getElem?_set,if_pos rfl,if_pos hlm]
   have hs2':=metaCells_set1 (y:={ x with sums:=a,first:=fi }) (v:=.int .i64 fi) hx1 (show 8 < 9 by decide) rfl
   rw [List.set_set] at hs2'
   obtain ⟨hst,hgr⟩:=Ho.out.stored (m*9+7) (.int .i64 a)
   rw [<-hs1'] at hst
   obtain ⟨b',off',hA',_,hcl⟩:=meta_at (Row.of_own Ho.out) hxm
   injection hA' with hA'
   injection hA' with e1 e2
   subst e1 e2
   have c7:wr.cell? ⟨g,m*9+7,none⟩=some (.int .i64 x.sums):=by
    have:=hcl 7 _ rfl
    rwa [Nat.zero_add] at this
   have z7:=Ho.out.frozenAt (m*9+7)
   obtain ⟨w1,hw1⟩:∃ w1,wr.setCell ⟨g,m*9+7,none⟩ (.int .i64 a)=w1:=⟨_,rfl⟩
   rw [hw1] at hst hgr
   have O1:=hid hst
   have E1:=hid (Hbel.out.grown hgr (by have:=Hbel.out.size; omega) (fun k hk=>by injection hk with hk; omega))
   obtain ⟨b',off',hA',_,hcl1⟩:=meta_at (Row.of_own hst) hx1
   injection hA' with hA'
   injection hA' with e1 e2
   subst e1 e2
   have HFr:=hid (fun (y:MetaV) W (hy:y.length=x.length/\y.channels=x.channels)=>(show Calls Tryz.prog 17 #[.agg y.cells.toArray] W (fun e w'=>e=.returned (.int .i64 (framesN x))/\Below W.heap.size W w') from by
    have h:=bankFrames_any y W (by rw [hy.1]; have:=hfx.len; omega) (by rw [hy.2]; have:=hfx.ch; omega)
    have e:framesN y=framesN x:=by unfold framesN; rw [hy.1,hy.2]
    rwa [e] at h))
   obtain ⟨nm,len,rate,ch,lp,f,t,sums,first⟩:=x
   have HFr1:=hid (fun W=>HFr.out ⟨nm,len,rate,ch,lp,f,t,a,first⟩ W ⟨rfl,rfl⟩)
   have HFr2:=hid (fun W=>HFr.out ⟨nm,len,rate,ch,lp,f,t,a,fi⟩ W ⟨rfl,rfl⟩)
   have HK:=hid (fun j v (hv:(MetaV.cells ⟨nm,len,rate,ch,lp,f,t,a,first⟩)[j]? = some v)=>(show w1.cell? ⟨g,m*9+j,none⟩=some v from by have:=hcl1 j v hv; rwa [Nat.zero_add] at this))
   have HFm:=hid (show (Tryz.prog.info? 27).map (·.size)=some 9 by kernel_rfl)
   generalize framesN ⟨nm,len,rate,ch,lp,f,t,sums,first⟩=F at *
   have HsE:=hid hs2'
   have HUp1:=hid (fun W=>HUp.out (a+4*F) W (by omega))
   rw [hfi] at HUp1
   have HLl:=hid hlm
   clear hst hgr hcl hcl1 hs1' hs2' hx hxm hx1 hfx hPl ha hfi HFr hlm
   go_wp2_with (first | (refine wpList_load_part_w rfl 27 (.tmp 23) rfl g (m*9) rfl (MetaV.cells ⟨nm,len,rate,ch,lp,f,t,a,first⟩) _ HK.out Tryz.underlying27 rfl HFm.out ?_) | (go_at_call 17; fail))
   refine (HFr1.out w1).mono ?_
   rintro e w2 ⟨rfl,hb2⟩
   have O2:=hid (own_below O1.out hb2)
   have E2:=hid (bnext' E1.out hb2)
   clear hb2 hw1 c7 z7
   have hx1:(LM.set m (⟨nm,len,rate,ch,lp,f,t,a,first⟩:MetaV))[m]? = some ⟨nm,len,rate,ch,lp,f,t,a,first⟩:=by rw [List.getElem?_set,if_pos rfl,if_pos (by have:=HLl.out; omega)]
   obtain ⟨b',off',hA',_,hcl2⟩:=meta_at (Row.of_own O2.out) hx1
   injection hA' with hA'
   injection hA' with e1 e2
   subst e1 e2
   have c8:w2.cell? ⟨g,m*9+8,none⟩=some (.int .i64 first):=by
    have:=hcl2 8 _ rfl
    rwa [Nat.zero_add] at this
   have z8:=O2.out.frozenAt (m*9+8)
   obtain ⟨hst,hgr⟩:=O2.out.stored (m*9+8) (.int .i64 fi)
   obtain ⟨w3,hw3⟩:∃ w3,w2.setCell ⟨g,m*9+8,none⟩ (.int .i64 fi)=w3:=⟨_,rfl⟩
   rw [<-HsE.out,hw3] at hst
   rw [hw3] at hgr
   have O3:=hid hst
   have E3:=hid (E2.out.grown hgr (by have:=E2.out.size; omega) (fun k hk=>by injection hk with hk; omega))
   have hx2:(LM.set m (⟨nm,len,rate,ch,lp,f,t,a,fi⟩:MetaV))[m]? = some ⟨nm,len,rate,ch,lp,f,t,a,fi⟩:=by rw [List.getElem?_set,if_pos rfl,if_pos (by have:=HLl.out; omega)]
   obtain ⟨b',off',hA',hbl3,hcl3⟩:=meta_at (Row.of_own hst) hx2
   injection hA' with hA'
   injection hA' with e1 e2
   subst e1 e2
   have HK3:=hid (fun (z:GW w3) j v (hv:(MetaV.cells ⟨nm,len,rate,ch,lp,f,t,a,fi⟩)[j]? = some v)=>(show z.1.cell? ⟨g,m*9+j,none⟩=some v from by
    have h:=(z.2.cell (p:=⟨g,0+m*9+j,none⟩) hbl3).trans (hcl3 j v hv)
    rwa [Nat.zero_add] at h))
   have x8:=fun (z:GW w3)=>HK3.out z 8 _ rfl
   have hwm:IntKind.i64.wrap (size*F)=size*F:=IntWalk.i64_in _ (by omega)
   have hws:IntKind.i64.wrap (fi+size*F)=fi+size*F:=IntWalk.i64_in _ (by omega)
   clear hst hgr hcl2 hcl3 hx1 hx2 hbl3
   go_wp2_with (go_at_call 120; refine (HUp1.out _).mono ?_; rintro e w5 ⟨rfl,rfl⟩)
   clear hw3 c8 z8
   refine wp_region_calm (by kernel_rfl) (by kernel_rfl) ?_
   repeat (first | (go_big_quiet_want; refine quiet_load_part 27 (.tmp 42) rfl g (m*9) rfl (MetaV.cells ⟨nm,len,rate,ch,lp,f,t,a,fi⟩) _ (by rintro _ ⟨z,rfl⟩; exact HK3.out z) Tryz.underlying27 rfl HFm.out ?_; go_simp; go_big_quiet_on) | go_big_quiet_step ((go_at_call 17; exact calm_call (HFr2.out _))))
   refine wpQuiet_nil ?_
   intro w6 hw'
   have B6:=hid (gw_below hw')
   clear hw' x8 HK3
   have O6:=hid (own_below O3.out B6.out)
   have E6:=hid (bnext' E3.out B6.out)
   go_wp2
   go_roundw
   case rel=>exact ⟨m+1,by omega,by go_num,by rw [HAt.out],by rw [HMx.out]; exact O6.out,E6.out⟩
   case measure=>simp [intOf]; omega
  ·have hmn:m=n:=by omega
   have hbd:=HBd.out m
   subst hmn
   have t1:¬ ((m:Int) < (m:Int)):=by omega
   have HU:=hid (fun W=>HU64.out (atTo size L m) W (by omega))
   go_wp2_with (go_at_call 120; refine (HU.out _).mono ?_; rintro e w5 ⟨rfl,rfl⟩)
   go_ret
   exact ⟨rfl,Ho.out,Hbel.out⟩
end
end Go.Proofs.YtgcfkblmnpnogaaGreatDoor
