/- BankE, BankF, BankG, BankH, BankI, BankJ, BankK, ParC, PlaceG. Conditions: as each theorem states. -/
import Derived.Test.YtnbbfblaipjcmaaGreatDoorPv32
import Derived.Test.YtnbbfblaipjcmaaGreatDoorPv39
import Derived.Test.YtnbbfblaipjcmaaGreatDoorPv38
import Derived.Test.YtnbbfblaipjcmaaGreatDoorPv40
set_option maxRecDepth 100000
set_option maxHeartbeats 16000000
namespace Go.Proofs.YtnbbfblaipjcmaaGreatDoor
section
open Go.RowKit Go.Lib
def MetaV.cells (m:MetaV):List Value:=[.string m.name,.int .i64 m.length,.int .i64 m.rate,.int .i64 m.channels,.bool m.loop,.int .i64 m.from_,.int .i64 m.to_,.int .i64 m.sums,.int .i64 m.first]
def aZ (L:List MetaV):List Value:=(L.map MetaV.cells).flatten
theorem gU (L:List MetaV) {k:Nat} {p:MetaV} (h:L[k]? = some p) (j:Nat) (hj:j < 9):(aZ L)[k*9+j]? = p.cells[j]?:=by
 unfold aZ
 rw [mX 9 (L.map MetaV.cells) (fun cs hcs=>by obtain ⟨z,_,rfl⟩:=List.mem_map.1 hcs; rfl) k j hj]
 simp [h]
theorem gI {w:World} {B:Nat} {A:Option Addr} {L:List MetaV} (hr:Row w B A (aZ L)) {k:Nat} {p:MetaV} (h:L[k]? = some p) :
  ∃ b off,A=some ⟨b,off,none⟩/\b < B/\∀ j v,p.cells[j]? = some v->w.cell? ⟨b,off+k*9+j,none⟩=some v:=by
 have h0:=gU L h 0 (by omega)
 obtain ⟨b,off,hA,hb,_⟩:=hr (k*9+0) (.string p.name) h0
 refine ⟨b,off,hA,hb,fun j v hv=>?_⟩
 have hj:j < 9:=by have:=(List.getElem?_eq_some_iff.1 hv).1; simpa [MetaV.cells] using this
 have h1:=gU L h j hj
 rw [hv] at h1
 obtain ⟨b',off',hA',_,hc⟩:=hr (k*9+j) v h1
 rw [hA] at hA'
 injection hA' with hA'
 injection hA' with e1 e2
 subst e1 e2
 rw [Nat.add_assoc]; exact hc
structure GoodM (m:MetaV):Prop where
 name:m.name.size<=32
 len:0<=m.length
 rate:0<=m.rate
 ch0:0<=m.channels
 ch1:m.channels<=255
 f:0<=m.from_
 t:0<=m.to_
 sums:0<=m.sums
 first:0<=m.first
theorem YY (bs:List Nat) (g off n cap:Nat) (m:MetaV) (w:World) (hm:GoodM m) (hb:BytesAt w g bs) (hn:off+n<=bs.length) (h58:58<=n) (hl:n<=1000000000) :
  Calls Tryz.prog 178 #[.slice (some ⟨g,off,none⟩) n cap,.agg m.cells.toArray] w (gN w g (lays bs (dM off m))):=by
 obtain ⟨h1,h2,h3,h4,h5,h6,h7,h8,h9⟩:=hm
 obtain ⟨nm,len,rate,ch,lp,f,t,sums,first⟩:=m
 simp only at h1 h2 h3 h4 h5 h6 h7 h8 h9
 obtain ⟨len,rfl⟩:=Int.eq_ofNat_of_zero_le h2
 obtain ⟨rate,rfl⟩:=Int.eq_ofNat_of_zero_le h3
 obtain ⟨ch,rfl⟩:=Int.eq_ofNat_of_zero_le h4
 obtain ⟨f,rfl⟩:=Int.eq_ofNat_of_zero_le h6
 obtain ⟨t,rfl⟩:=Int.eq_ofNat_of_zero_le h7
 obtain ⟨sums,rfl⟩:=Int.eq_ofNat_of_zero_le h8
 obtain ⟨first,rfl⟩:=Int.eq_ofNat_of_zero_le h9
 exact YX bs g off n cap nm len rate ch lp f t sums first w hb hn h58 hl h1 (by omega)
theorem zJ {off n:Nat} {m:MetaV} (h:m.name.size<=32) (hn:off+58<=n):nP n (dM off m):=by
 intro p hp
 unfold dM at hp
 have hl:(jD m.name).length<=32:=by rw [eG]; exact h
 split at hp
 ·simp only [List.mem_append,List.mem_cons,List.not_mem_nil,or_false] at hp
  rcases hp with (rfl | rfl | rfl | rfl | rfl | rfl | rfl | rfl) | rfl
  all_goals
   try simp only [bF,List.length_cons,List.length_nil]
   omega
 ·simp only [List.mem_append,List.mem_cons,List.not_mem_nil,or_false] at hp
  rcases hp with rfl | rfl | rfl | rfl | rfl | rfl | rfl | rfl
  all_goals
   try simp only [bF,List.length_cons,List.length_nil]
   omega
def cQ (L:List MetaV):Nat->List (Nat × List Nat)
 | 0=>[]
 | m+1=>cQ L m ++ match L[m]? with
  | some x=>dM (16+m*64) x
  | none=>[]
theorem zK {L:List MetaV} {m:Nat} {x:MetaV} (h:L[m]? = some x):cQ L (m+1)=cQ L m ++ dM (16+m*64) x:=by
 show cQ L m ++ (match L[m]? with | some x=>_ | none=>_)=_
 rw [h]
theorem nT {L:List MetaV} {n:Nat} (hL:∀ m ∈ L,m.name.size<=32):∀ m,16+m*64<=n->nP n (cQ L m)
 | 0,_=>fun p hp=>by simp [cQ] at hp
 | m+1,h=>by
  intro p hp
  unfold cQ at hp
  rcases List.mem_append.1 hp with h1 | h1
  ·exact nT hL m (by omega) p h1
  ·cases hx:L[m]? with
   | none=>rw [hx] at h1; simp at h1
   | some x=>rw [hx] at h1; exact zJ (hL x (List.mem_of_getElem? hx)) (by omega) p h1
def eT (n c size:Nat):List (Nat × List Nat):=[(0,[67,65,76,49]),(4,cP 4 n),(8,cP 2 c),(10,[size])]
theorem qD {n N c size:Nat} (h:16<=N):nP N (eT n c size):=by
 intro p hp
 unfold eT at hp
 simp only [List.mem_cons,List.not_mem_nil,or_false] at hp
 rcases hp with rfl | rfl | rfl | rfl
 all_goals
  simp only [bF,List.length_cons,List.length_nil]
  omega
def bD (bs:List Nat) (L:List MetaV) (size:Nat):List Nat :=
 aS (lays bs (eT bs.length L.length size ++ cQ L L.length)) (16+L.length*64) (cP 4 (lD ((lays bs (eT bs.length L.length size ++ cQ L L.length)).take (16+L.length*64))).toNat)
theorem aBv (bs:List Nat) (g n cap:Nat) (L:List MetaV) (A:Option Addr) (capL size:Nat) (w:World) (hb:BytesAt w g bs) (hn:bs.length=n) (hnc:n<=cap) (h20:20+L.length*64<=n) (hl:n<=100000000) (hc:L.length<=64) (hsz:size<=255)
  (hL:∀ m ∈ L,GoodM m) (hr:Row w w.heap.size A (aZ L)) (hA:∀ ad,A=some ad->ad.block ≠ g) :
  Calls Tryz.prog 129 #[.slice (some ⟨g,0,none⟩) n cap,.slice A L.length capL,.int .i64 size] w (gN w g (bD bs L size)):=by
 have HWH:=hid (show bD bs L size=aS (lays bs (eT bs.length L.length size ++ cQ L L.length)) (16+L.length*64) (cP 4 (lD ((lays bs (eT bs.length L.length size ++ cQ L L.length)).take (16+L.length*64))).toNat) from rfl)
 rw [hn] at HWH
 have HFh:=hid (qD (n:=n) (N:=n) (c:=L.length) (size:=size) (by omega))
 have HFe:=hid (fun m (h:m<=L.length)=>nT (L:=L) (n:=n) (fun m hm=>(hL m hm).name) m (by omega))
 obtain ⟨c,hcl⟩:∃ c,L.length=c:=⟨_,rfl⟩
 rw [hcl] at h20 hc HWH HFh HFe ⊢
 have Hc:=hid hcl
 have Hb:=hid hb
 have Hr:=hid hr
 have HA:=hid hA
 have HL:=hid hL
 have Hn:=hid hn
 have HNum:=hid (fun (bs':List Nat) (k s v:Nat) (W:World) (h:BytesAt W g bs') (hlen:bs'.length=n) (hk:k+s<=n) (hs:s<=4)=>(show Calls Tryz.prog 177 #[.slice (some ⟨g,0,none⟩) n cap,.int .i64 k,.int .i64 s,.int .i64 v] W (gN W g (aS bs' k (cP s v))) from by
  have:=uY bs' g 0 n cap k s v W h (by omega) hk (by omega) hs
  rwa [Nat.zero_add] at this))
 have hwc:IntKind.u8.wrap (size:Int)=(size:Int):=by rw [IntKind.wrap_u8]; omega
 have hcp:∀ W,BytesAt W g bs->(Builtin.copy_ #[30,9] 3 #[.slice (some ⟨g,0,none⟩) n cap,.string ⟨#[67,65,76,49]⟩]).run Tryz.prog W=.ok (goInt 4) (W.setRow g (u8s (aS bs 0 [67,65,76,49])).toArray):=fun W h=>IZ W g 0 n cap ⟨#[67,65,76,49]⟩ bs h (by show 4<=n; omega) (by show 0+4<=_; omega) _
 have hcp2:=hcp w hb
 obtain ⟨w2,hw2⟩:∃ w2,w.setRow g (u8s (aS bs 0 [67,65,76,49])).toArray=w2:=⟨_,rfl⟩
 rw [hw2] at hcp2
 have Hy0:=hid (show BytesAt w2 g (aS bs 0 [67,65,76,49]) by rw [<-hw2]; exact xP hb)
 have Hg0:=hid (show w.grownBy w2 (some g) by rw [<-hw2]; exact cZ (World.grownBy.refl _ _) _)
 have Hl0:=hid (show (aS bs 0 [67,65,76,49]).length=n by rw [cT (by simp only [List.length_cons,List.length_nil]; omega),hn])
 clear hw2 hcp hb hr hA hL hn hcl
 go_enter Tryz.func129,Tryz.ntmps129
 go_wp2_with (go_at_call 177; fail)
 clear hcp2
 refine (HNum.out _ 4 4 n w2 Hy0.out Hl0.out (by omega) (by omega)).mono ?_
 rintro e y1 ⟨rfl,hy1,hg1⟩
 have Y1:=hid hy1
 have G1:=hid (grownBy_trans Hg0.out hg1)
 have L1:=hid (show (aS (aS bs 0 [67,65,76,49]) 4 (cP 4 n)).length=n by rw [cT (by rw [bF,Hl0.out]; omega),Hl0.out])
 clear hy1 hg1
 go_wp2_with (go_at_call 177; fail)
 refine (HNum.out _ 8 2 c y1 Y1.out L1.out (by omega) (by omega)).mono ?_
 rintro e y2 ⟨rfl,hy2,hg2⟩
 have Y2:=hid hy2
 have G2:=hid (grownBy_trans G1.out hg2)
 have L2:=hid (show (aS (aS (aS bs 0 [67,65,76,49]) 4 (cP 4 n)) 8 (cP 2 c)).length=n by rw [cT (by rw [bF,L1.out]; omega),L1.out])
 clear hy2 hg2
 obtain ⟨v6,hv6⟩:=aE (k:=10) L2.out (by omega)
 have c6:=Y2.out.cell hv6
 have f5:=lW Y2.out
 have HB6:=hid (Y2.out.put 10 size)
 clear hv6
 have HE0:=hid (show BytesAt (y2.setCell ⟨g,10,none⟩ (.int .u8 size)) g (lays bs (eT n c size ++ cQ L 0)) from by
  have h:=HB6.out
  rw [tC _ (by rw [L2.out]; omega)] at h
  rw [show eT n c size ++ cQ L 0=eT n c size by simp [cQ]]
  exact h)
 have G3:=hid (grownBy_setB G2.out 10 (.int .u8 size))
 have HLs:=hid (fun m (h:m<=c)=>(show (lays bs (eT n c size ++ cQ L m)).length=n from nA Hn.out (fun p hp=>by
  rcases List.mem_append.1 hp with h1 | h1
  ·exact HFh.out p h1
  ·exact HFe.out m h p h1)))
 go_wp2_with fail
 clear c6 f5
 go_loopw [25] (fun i wr=>∃ m:Nat,m<=c/\i=.int .i64 m/\BytesAt wr g (lays bs (eT n c size ++ cQ L m))/\w.grownBy wr (some g)) (fun i _=>c - (intOf i).toNat)
 case atStart=>exact ⟨0,by omega,rfl,HE0.out,G3.out⟩
 case round =>
  obtain ⟨m,hm,rfl,hby,hgr⟩:=hrel
  have Hby:=hid hby
  have Hgr:=hid hgr
  have Hgl:=hid (show g < wr.heap.size from hby.lt)
  clear hby hgr
  by_cases hlt:m < c
  ·have t1:(m:Int) < (c:Int):=by omega
   have t2:(0:Int)<=(m:Int):=by omega
   obtain ⟨p,hp⟩:=aE (k:=m) Hc.out hlt
   obtain ⟨b,off,rfl,hbl,hcl⟩:=gI Hr.out hp
   have hbg:b ≠ g:=HA.out _ rfl
   have HSu:=hid (zK hp)
   have HGm:=hid (HL.out p (List.mem_of_getElem? hp))
   have hlen:=HLs.out m (by omega)
   have HEn:=hid (fun W (h:BytesAt W g (lays bs (eT n c size ++ cQ L m)))=>(show Calls Tryz.prog 178 #[.slice (some ⟨g,16+m*64,none⟩) (n - (16+m*64)) (cap - (16+m*64)),.agg p.cells.toArray] W (gN W g (lays bs (eT n c size ++ cQ L (m+1)))) from by
    rw [HSu.out,<-List.append_assoc,ED bs (eT n c size ++ cQ L m)]
    exact YY _ g (16+m*64) (n - (16+m*64)) (cap - (16+m*64)) p W HGm.out h (by omega) (by omega) (by omega)))
   obtain ⟨nm,len,rate,ch,lp,f,t,sums,first⟩:=p
   have HC:=hid (fun j v (hv:(MetaV.cells ⟨nm,len,rate,ch,lp,f,t,sums,first⟩)[j]? = some v)=>(show wr.cell? ⟨b,off+m*9+j,none⟩=some v from (Hgr.out.cell_far ⟨b,off+m*9+j,none⟩ hbl (fun e=>hbg (by injection e))).trans (hcl j v hv)))
   have k0:=HC.out 0 _ rfl
   have k1:=HC.out 1 _ rfl
   have k2:=HC.out 2 _ rfl
   have k3:=HC.out 3 _ rfl
   have k4:=HC.out 4 _ rfl
   have k5:=HC.out 5 _ rfl
   have k6:=HC.out 6 _ rfl
   have k7:=HC.out 7 _ rfl
   have k8:=HC.out 8 _ rfl
   rw [Nat.add_zero] at k0
   clear hcl hp hbl HC hlen
   have h16:16+m*64+64<=n:=by omega
   go_wp2_with fail
   clear k0 k1 k2 k3 k4 k5 k6 k7 k8
   obtain ⟨w5,hw5⟩:∃ w5,wr.alloc (.cells #[.string nm,.int .i64 len,.int .i64 rate,.int .i64 ch,.bool lp,.int .i64 f,.int .i64 t,.int .i64 sums,.int .i64 first] 37)=w5:=⟨_,rfl⟩
   rw [hw5]
   have Hx5:=hid (show Blk w5 wr.heap.size 37 (MetaV.cells ⟨nm,len,rate,ch,lp,f,t,sums,first⟩) by rw [<-hw5]; exact Blk.new wr _ (MetaV.cells ⟨nm,len,rate,ch,lp,f,t,sums,first⟩))
   have Hy5:=hid (show BytesAt w5 g (lays bs (eT n c size ++ cQ L m)) by rw [<-hw5]; exact Hby.out.alloc _)
   have Hg5:=hid (show w.grownBy w5 (some g) by rw [<-hw5]; exact grownBy_allocR Hgr.out _)
   obtain ⟨gm,hgm⟩:∃ gm,wr.heap.size=gm:=⟨_,rfl⟩
   rw [hgm] at Hx5 ⊢
   clear hw5 hgm
   have x5:=fun (z:GW w5)=>(z.2.block gm Hx5.out.lt).trans Hx5.out
   have HFm:=hid (show (Tryz.prog.info? 37).map (·.size)=some 9 by kernel_rfl)
   refine aI 6 (by kernel_rfl) (by kernel_rfl) ?_
   simp only [List.take_succ_cons,List.take_zero,List.drop_succ_cons,List.drop_zero]
   repeat (first | (go_big_quiet_want; refine bO 37 (.tmp 7) rfl gm rfl _ (MetaV.cells ⟨nm,len,rate,ch,lp,f,t,sums,first⟩).toArray _ _ (by rintro _ ⟨x,rfl⟩; exact x5 x) Tryz.underlying37 rfl HFm.out ?_; go_simp; go_big_quiet_on) | go_big_quiet_step (fail))
   refine wpQuiet_nil ?_
   intro w6 hw'
   have B6:=hid (aK hw')
   clear hw' x5
   go_wp2_with (go_at_call 178; fail)
   refine (HEn.out w6 (Hy5.out.below B6.out Hy5.out.lt)).mono ?_
   rintro e w7 ⟨rfl,hy7,hg7⟩
   have Hy7:=hid hy7
   have Hg7:=hid (grownBy_trans (grownBy_below Hg5.out B6.out) hg7)
   clear hy7 hg7
   go_wp2
   go_roundw
   case rel=>exact ⟨m+1,by omega,by go_num,Hy7.out,Hg7.out⟩
   case measure=>simp [intOf]; omega
  ·have hmc:m=c:=by omega
   subst hmc
   have t1:¬ ((m:Int) < (m:Int)):=by omega
   obtain ⟨D,hD⟩:∃ D,16+m*64=D:=⟨_,rfl⟩
   have hlen:=HLs.out m (Nat.le_refl _)
   have hwh:=HWH.out
   generalize lays bs (eT n m size ++ cQ L m)=LS at *
   rw [hD] at hwh
   have Hwh:=hid hwh
   have HDir:=hid (fun W=>(show Calls Tryz.prog 131 #[.int .i64 m] W (fun e w'=>e=.returned (.int .i64 ((D:Int)+4))/\W=w') from by
    have h:=lU m W (by omega) (by omega)
    rwa [show 16+(m:Int)*64+4=(D:Int)+4 by omega] at h))
   have hDn:D+4<=n:=by omega
   have HCr:=hid (fun W (h:BytesAt W g LS)=>(show Calls Tryz.prog 92 #[.slice (some ⟨g,0,none⟩) D cap] W (fun e w'=>e=.returned (.int .u32 (lD (LS.take D)))/\W=w') from by
    have hl:(LS.take D).length=D:=by rw [List.length_take]; omega
    have:=pZ (LS.take D) (some ⟨g,0,none⟩) cap W (by omega) (fun i v hv=>⟨g,0,rfl,h.lt,by
     unfold u8s at hv
     rw [List.map_take,List.getElem?_take] at hv
     split at hv
     ·rw [Nat.zero_add,aG h]; exact hv
     ·cases hv⟩)
    rwa [hl] at this))
   have hcr:=sM (LS.take D)
   generalize lD (LS.take D)=C at *
   have HN2:=hid (fun W (h:BytesAt W g LS)=>(show Calls Tryz.prog 177 #[.slice (some ⟨g,0,none⟩) n cap,.int .i64 D,.int .i64 4,.int .i64 C] W (gN W g (aS LS D (cP 4 C.toNat))) from by
    have:=EN LS g 0 n cap D 4 C W hcr.1 h (by omega) hDn (by omega) (by omega)
    rwa [Nat.zero_add] at this))
   have hwC:IntKind.i64.wrap C=C:=IntWalk.i64_in _ (by omega)
   clear HLs HFh HFe HWH HE0 HNum hD hwh
   go_wp2_with (first | (go_at_call 131; refine (HDir.out _).mono ?_; rintro e y3 ⟨rfl,rfl⟩) | (go_at_call 92; refine (HCr.out _ Hby.out).mono ?_; rintro e y4 ⟨rfl,rfl⟩) | (go_at_call 177; fail))
   refine (HN2.out _ Hby.out).mono ?_
   rintro e y5 ⟨rfl,hy5,hg5⟩
   have Hy5:=hid hy5
   have Hg5:=hid (grownBy_trans Hgr.out hg5)
   clear hy5 hg5
   go_wp2
   refine bodyPost_end (v:=.tuple #[]) (results_none Tryz.results129 _ _ _) rfl ?_
   exact ⟨rfl,by rw [Hwh.out]; exact Hy5.out,Hg5.out⟩
end
section
open Go.RowKit Go.Lib
def KF (vs:List Value):Prop:=∀ v ∈ vs,∀ x,v ≠ .int .u8 x
theorem Row.nobyte {w w':World} {B g:Nat} {a:Option Addr} {vs:List Value} {bs:List Nat} (h:Row w B a vs) (hB:B<=w.heap.size) (hb:BytesAt w g bs) (hn:KF vs) (hg:w.grownBy w' (some g)):Row w' B a vs:=fun i v hv=>by
 obtain ⟨b,off,ha,hbl,hc⟩:=h i v hv
 have hne:b ≠ g:=fun e=>by
  subst e
  rw [aG hb] at hc
  unfold u8s at hc
  rw [List.getElem?_map] at hc
  cases hx:bs[off+i]? with
  | none=>rw [hx] at hc; cases hc
  | some x =>
   rw [hx] at hc
   exact hn v (List.mem_of_getElem? hv) _ (Option.some.inj hc).symm
 exact ⟨b,off,ha,hbl,(hg.cell_far ⟨b,off+i,none⟩ (Nat.lt_of_lt_of_le hbl hB) (fun e=>hne (by injection e))).trans hc⟩
theorem Row.under {w w':World} {B g:Nat} {a:Option Addr} {vs:List Value} (h:Row w B a vs) (hB:B<=w.heap.size) (hBg:B<=g) (hg:w.grownBy w' (some g)):Row w' B a vs:=fun i v hv=>by
 obtain ⟨b,off,ha,hbl,hc⟩:=h i v hv
 exact ⟨b,off,ha,hbl,(hg.cell_far ⟨b,off+i,none⟩ (Nat.lt_of_lt_of_le hbl hB) (fun e=>by injection e with e; simp only at e; omega)).trans hc⟩
theorem yQ (ts:List ToneV):KF (aW ts):=fun v hv x=>by
 unfold aW at hv
 obtain ⟨cs,hcs,hv⟩:=List.mem_flatten.1 hv
 obtain ⟨t,_,rfl⟩:=List.mem_map.1 hcs
 simp only [ToneV.cells,List.mem_cons,List.not_mem_nil,or_false] at hv
 rcases hv with rfl | rfl <;> intro h <;> cases h
theorem UM (p:FrH × FrameV):KF (frC p):=fun v hv x=>by
 unfold frC FrameV.cells at hv
 simp only [List.mem_append,List.mem_cons,List.mem_map] at hv
 rcases hv with ⟨y,_,rfl⟩ | rfl | ⟨y,_,rfl⟩ | ⟨y,_,rfl⟩ | ⟨y,_,rfl⟩ <;> intro h <;> cases h
theorem DN (L:List (FrH × FrameV)):KF (iV L):=fun v hv x=>by
 unfold iV at hv
 obtain ⟨cs,hcs,hv⟩:=List.mem_flatten.1 hv
 obtain ⟨p,_,rfl⟩:=List.mem_map.1 hcs
 exact UM p v hv x
theorem FramesAt.nobyte {w w':World} {g:Nat} {A:Option Addr} {L:List (FrH × FrameV)} {bs:List Nat} (h:FramesAt w A L) (hb:BytesAt w g bs) (hg:w.grownBy w' (some g)):FramesAt w' A L :=
 ⟨(h.row.nobyte (Nat.le_refl _) hb (DN L) hg).more hg.size,h.len,fun p hp=>⟨(h.tones p hp).1,(h.tones p hp).2.1,((h.tones p hp).2.2.nobyte (Nat.le_refl _) hb (yQ _) hg).more hg.size⟩⟩
theorem CoderAt.grown {w w':World} {gc g:Nat} {size:Int} (h:CoderAt w gc size) (hg:w.grownBy w' (some g)) (hne:gc ≠ g):CoderAt w' gc size:=by
 have hl:gc < w.heap.size:=by
  rcases Nat.lt_or_ge gc w.heap.size with h1 | h1
  ·exact h1
  ·unfold CoderAt at h
   rw [Array.getElem?_eq_none h1] at h
   cases h
 exact (hg.block gc hl (fun e=>hne (by injection e))).trans h
theorem CoderAt.later {w w':World} {gc:Nat} {size:Int} (h:CoderAt w gc size) (hb:Below w.heap.size w w'):CoderAt w' gc size:=aF h hb
/-! What is laid. -/
def mY (first sums size q:Nat) (x:FrameV):List (Nat × List Nat):=[(first+q*size,aP x size),(sums+4*q,cP 4 (lD (aP x size)).toNat)]
def fV (first sums size ch k:Nat) (fs:List FrameV):Nat->List (Nat × List Nat)
 | 0=>[]
 | i+1=>fV first sums size ch k fs i ++ match fs[i]? with
  | some x=>mY first sums size (i*ch+k) x
  | none=>[]
def eU (first sums size:Nat) (rows:List (List Int)):Nat->List (Nat × List Nat)
 | 0=>[]
 | k+1=>eU first sums size rows k ++ match rows[k]? with
  | some d=>fV first sums size rows.length k (cO d size) (aV d.length)
  | none=>[]
theorem TI {first sums size ch k:Nat} {fs:List FrameV} {i:Nat} {x:FrameV} (h:fs[i]? = some x):fV first sums size ch k fs (i+1)=fV first sums size ch k fs i ++ mY first sums size (i*ch+k) x:=by
 show fV first sums size ch k fs i ++ (match fs[i]? with | some x=>_ | none=>_)=_
 rw [h]
theorem UZ {first sums size:Nat} {rows:List (List Int)} {k:Nat} {d:List Int} (h:rows[k]? = some d):eU first sums size rows (k+1)=eU first sums size rows k ++ fV first sums size rows.length k (cO d size) (aV d.length):=by
 show eU first sums size rows k ++ (match rows[k]? with | some d=>_ | none=>_)=_
 rw [h]
theorem OP {n first sums size q:Nat} {x:FrameV} (hx:(aP x size).length=size) (h:first+q*size+size<=n/\sums+4*q+4<=n):nP n (mY first sums size q x):=by
 intro p hp
 unfold mY at hp
 simp only [List.mem_cons,List.not_mem_nil,or_false] at hp
 rcases hp with rfl | rfl
 ·rw [hx]; exact h.1
 ·rw [bF]; exact h.2
theorem uN {n first sums size ch k:Nat} {fs:List FrameV}:∀ i,(∀ j x,j < i->fs[j]? = some x->(aP x size).length=size/\first+(j*ch+k)*size+size<=n/\sums+4*(j*ch+k)+4<=n)->nP n (fV first sums size ch k fs i)
 | 0,_=>fun p hp=>by simp [fV] at hp
 | i+1,h=>by
  intro p hp
  unfold fV at hp
  rcases List.mem_append.1 hp with h1 | h1
  ·exact uN i (fun j x hj hx=>h j x (by omega) hx) p h1
  ·cases hx:fs[i]? with
   | none=>rw [hx] at h1; simp at h1
   | some x =>
    rw [hx] at h1
    have:=h i x (by omega) hx
    exact OP this.1 this.2 p h1
theorem uS {n first sums size:Nat} {rows:List (List Int)}:∀ k,(∀ j d i x,j < k->rows[j]? = some d->i < aV d.length->(cO d size)[i]? = some x->(aP x size).length=size/\first+(i*rows.length+j)*size+size<=n/\sums+4*(i*rows.length+j)+4<=n)->nP n (eU first sums size rows k)
 | 0,_=>fun p hp=>by simp [eU] at hp
 | k+1,h=>by
  intro p hp
  unfold eU at hp
  rcases List.mem_append.1 hp with h1 | h1
  ·exact uS k (fun j d i x hj=>h j d i x (by omega)) p h1
  ·cases hd:rows[k]? with
   | none=>rw [hd] at h1; simp at h1
   | some d =>
    rw [hd] at h1
    exact uN _ (fun i x hi hx=>h k d i x (by omega) hd hi hx) p h1
end
section
open Go.RowKit Go.Lib
theorem TO (w:World) (g o n cap bt ot size ct:Nat) (bs xs:List Nat) (hb:BytesAt w g bs) (hx:xs.length=size) (hle:size<=n) (hfit:o+size<=bs.length) (hr:Row w w.heap.size (some ⟨bt,ot,none⟩) (u8s xs)) (ty:TypeId) :
  (Builtin.copy_ #[30,30] ty #[.slice (some ⟨g,o,none⟩) n cap,.slice (some ⟨bt,ot,none⟩) size ct]).run Tryz.prog w=.ok (goInt size) (w.setRow g (u8s (aS bs o xs)).toArray):=by
 have:=run_copy_row (P:=Tryz.prog) w 30 30 ty 5 g o n cap ⟨bt,ot,none⟩ size ct (u8s bs).toArray 5 (u8s xs) Tryz.underlying30 LG hb (by rw [jA,hx]; exact (Nat.min_eq_left hle).symm) (fun j v hv=>by
  obtain ⟨b',o',ha,_,hc⟩:=hr j v hv
  injection ha with ha
  injection ha with e1 e2
  subst e1 e2
  unfold Addr.add
  split
  ·rename_i hj
   have hj:j=0:=by simpa using hj
   subst hj
   exact hc
  ·exact hc) (by simpa [jA,hx] using hfit) (qS xs)
 rw [this,AG,jA,hx]
def WN (w:World) (g:Nat) (bs:List Nat) (e:Ending) (w':World):Prop:=e=.returned (.int .i64 0)/\BytesAt w' g bs/\w.grownBy w' (some g)
theorem aC3 (bs:List Nat) (g n cap gc size cnt first sums B:Nat) (nm0:ByteArray) (len0_ rate0:Int) (lp0:Bool) (f0 t0:Int) (h:HSamp) (s:SampV) (w:World)
  (hb:BytesAt w g bs) (hn:bs.length=n) (hnc:n<=cap) (hl:n<=100000000) (hg:CoderAt w gc (size:Int)) (hgc:gc ≠ g) (hs1:24<=size) (hs2:size<=96)
  (hf:h.fits w B s) (hBw:B<=w.heap.size) (hBg:B<=g) (hgood:aAQ s) (hcnt:∀ r ∈ s.rows,aV r.length=cnt)
  (hfit:∀ i k,i < cnt->k < s.rows.length->first+(i*s.rows.length+k)*size+size<=n/\sums+4*(i*s.rows.length+k)+4<=n) :
  Calls Tryz.prog 128 #[.slice (some ⟨g,0,none⟩) n cap,.agg #[.string nm0,.int .i64 len0_,.int .i64 rate0,.int .i64 s.rows.length,.bool lp0,.int .i64 f0,.int .i64 t0,.int .i64 sums,.int .i64 first],.agg #[.string h.nm,.int .i64 h.rate,.bool h.lp,.int .i64 h.f,.int .i64 h.t,.slice h.a h.len h.cap],.pointer (some ⟨gc,0,none⟩)] w
   (WN w g (lays bs (eU first sums size s.rows s.rows.length))):=by
 obtain ⟨i0,hi,⟨z0,hz0,hz0s⟩,hi1,hi2⟩:=zR
 have hcn10:s.rows.length=0\/cnt<=10:=by
  cases hr:s.rows with
  | nil=>exact .inl rfl
  | cons r rs =>
   right
   have h1:=hcnt r (by rw [hr]; simp)
   have h2:=(hgood.2 r (by rw [hr]; simp)).1
   rw [<-h1]
   unfold aV
   omega
 have HFfit:=hid (fun k (hk:k<=s.rows.length)=>uS (n:=n) (first:=first) (sums:=sums) (size:=size) (rows:=s.rows) k (fun j d i x hj hd hi hx=>by
  have hdm:=List.mem_of_getElem? hd
  have hgr:=hgood.2 d hdm
  have hR:=eS hgr.2 (size:=(size:Int)) (by omega) (by omega) x (List.mem_of_getElem? hx)
  exact ⟨eD hR.1 hR.2,hfit i j (by rw [<-hcnt d hdm]; exact hi) (by omega)⟩))
 have HCfit:=hid (fun k d (hd:s.rows[k]? = some d) i (hi:i<=cnt)=>uN (n:=n) (first:=first) (sums:=sums) (size:=size) (ch:=s.rows.length) (k:=k) (fs:=cO d size) i (fun j x hj hx=>by
  have hdm:=List.mem_of_getElem? hd
  have hgr:=hgood.2 d hdm
  have hR:=eS hgr.2 (size:=(size:Int)) (by omega) (by omega) x (List.mem_of_getElem? hx)
  exact ⟨eD hR.1 hR.2,hfit j k (by omega) (List.getElem?_eq_some_iff.1 hd).1⟩))
 have HLs:=hid (fun k d (hk:k<=s.rows.length) (hd:s.rows[k]? = some d) i (hi:i<=cnt)=>(show (lays bs (eU first sums size s.rows k ++ fV first sums size s.rows.length k (cO d size) i)).length=n from nA hn (fun p hp=>by
  rcases List.mem_append.1 hp with h1 | h1
  ·exact HFfit.out k hk p h1
  ·exact HCfit.out k d hd i hi p h1)))
 obtain ⟨⟨e1,e2,e3,e4,e5,e6⟩,h2,h3,vs,h4,h5⟩:=hf
 obtain ⟨nm,rate,lp,f,t,a,len,cp⟩:=h
 simp only at h2 h3 h4 e6
 have HRow:=hid (fun (k:Nat) (d:List Int) (hd:s.rows[k]? = some d)=>(show ∃ b off a' c',a=some ⟨b,off,none⟩/\b < B/\w.cell? ⟨b,off+k,none⟩=some (.slice a' d.length c')/\d.length<=c'/\c'<=9223372036854775807/\Row w B a' (d.map (.int .i64)) from oR h4 h5 hd))
 obtain ⟨R,hR⟩:∃ R,s.rows.length=R:=⟨_,rfl⟩
 rw [hR] at e6 hfit HFfit HLs hcn10 ⊢
 subst e6
 have HR:=hid hR
 have hR2:len<=2:=by have:=hgood.1; omega
 have Hgd:=hid hgood
 have Hcnt:=hid hcnt
 have Hfit:=hid hfit
 have Hb:=hid hb
 have Hg:=hid hg
 have Hn:=hid hn
 have HFr:=hid (fun (d:List Int) B k W (hg:CoderAt W gc size) (h:aAP d) (r:Row W W.heap.size B (d.map (.int .i64)))=>SG gc size d B k W hg (by omega) (by omega) (by have:=h.1; omega) r h.2)
 have HBy:=hid (fun (p:FrH × FrameV) A W (hg:CoderAt W gc size) (hA:FramesAt W A [p]) (hR:RightF p.2/\fT p.2<=8*(size:Int))=>(show Calls Tryz.prog 175 #[.pointer (some ⟨gc,0,none⟩),.slice A 1 1] W (fun e w'=>∃ At ct,e=.returned (.tuple #[.slice At size ct,.int .i64 0])/\Row w' w'.heap.size At (u8s (aP p.2 size))/\Below W.heap.size W w'/\∀ ad,At=some ad->W.heap.size<=ad.block) from by
  refine (J8 gc size [p] A 1 W hg (by omega) (by simp) hA (fun q hq=>by rw [List.mem_singleton] at hq; rw [hq]; exact hR)).mono ?_
  rintro e w' ⟨At,ct,he,_,_,hr,hbw,hfr⟩
  have eb:jU size ([p].map Prod.snd)=aP p.2 size:=by simp [jU]
  rw [eb] at he hr
  rw [eD hR.1 hR.2] at he
  exact ⟨At,ct,he,hr,hbw,hfr⟩))
 have HSz:=hid (fun W (hg:CoderAt W gc (size:Int))=>M7 gc (size:Int) W hg)
 have HFz:=hid (fun (d:List Int) (h:aAP d)=>eS h.2 (size:=(size:Int)) (by omega) (by omega))
 have HFmm:=hid (show (Tryz.prog.info? 37).map (·.size)=some 9 by kernel_rfl)
 clear hgood hcnt hfit hb hg hn h4 h5 h2 h3 hR e1 e2 e3 e4 e5
 obtain ⟨wa,hwa⟩:∃ wa,w.alloc (.cells #[.string nm0,.int .i64 len0_,.int .i64 rate0,.int .i64 len,.bool lp0,.int .i64 f0,.int .i64 t0,.int .i64 sums,.int .i64 first] 37)=wa:=⟨_,rfl⟩
 obtain ⟨w8,hw8⟩:∃ w8,wa.alloc (.cells #[.string nm,.int .i64 rate,.bool lp,.int .i64 f,.int .i64 t,.slice a len cp] 138)=w8:=⟨_,rfl⟩
 have Hgl:=hid Hb.out.lt
 have Hxm:=hid (show Blk w8 w.heap.size 37 [.string nm0,.int .i64 len0_,.int .i64 rate0,.int .i64 len,.bool lp0,.int .i64 f0,.int .i64 t0,.int .i64 sums,.int .i64 first] by
  rw [<-hw8,<-hwa]
  exact (Blk.new w _ [.string nm0,.int .i64 len0_,.int .i64 rate0,.int .i64 len,.bool lp0,.int .i64 f0,.int .i64 t0,.int .i64 sums,.int .i64 first]).alloc _)
 have Hxs:=hid (show Blk w8 wa.heap.size 138 [.string nm,.int .i64 rate,.bool lp,.int .i64 f,.int .i64 t,.slice a len cp] by
  rw [<-hw8]
  exact Blk.new wa _ [.string nm,.int .i64 rate,.bool lp,.int .i64 f,.int .i64 t,.slice a len cp])
 have Hwa:=hid (show wa.heap.size=w.heap.size+1 by rw [<-hwa]; simp)
 have HG8:=hid (show w.grownBy w8 (some g) by rw [<-hw8,<-hwa]; exact grownBy_allocR (World.grownBy_alloc w _ _) _)
 have HB8:=hid (show BytesAt w8 g bs by rw [<-hw8,<-hwa]; exact (Hb.out.alloc _).alloc _)
 have xs5:w8.cell? ⟨wa.heap.size,5,none⟩=some (.slice a len cp):=Hxs.out.cell 5
 go_enter Tryz.func128,Tryz.ntmps128
 go_wp2_with fail
 clear xs5
 go_loopw [21] (fun v wr=>∃ k:Nat,k<=len/\v=.int .i64 k/\BytesAt wr g (lays bs (eU first sums size s.rows k))/\w8.grownBy wr (some g)) (fun v _=>len - (intOf v).toNat)
 case atStart=>exact ⟨0,by omega,rfl,HB8.out,World.grownBy.refl _ _⟩
 case round =>
  obtain ⟨k,hk,rfl,hby,hgr⟩:=hrel
  have Hby:=hid hby
  have Hgr:=hid hgr
  have Hgw:=hid (grownBy_trans HG8.out hgr)
  clear hby hgr
  by_cases hlk:k < len
  ·have t1:(k:Int) < (len:Int):=by omega
   have t2:(0:Int)<=(k:Int):=by omega
   obtain ⟨d,hd⟩:=aE (k:=k) HR.out hlk
   have hdm:=List.mem_of_getElem? hd
   have Hgd2:=hid (Hgd.out.2 d hdm)
   have Hcd:=hid (Hcnt.out d hdm)
   obtain ⟨b,off,a5,k5,rfl,hbl,hc5,_,_,hr5⟩:=HRow.out k d hd
   have z5:=(Hgw.out.cell_far ⟨b,off+k,none⟩ (Nat.lt_of_lt_of_le hbl hBw) (fun e=>by injection e with e; simp only at e; omega)).trans hc5
   have Hr5:=hid ((hr5.under hBw hBg Hgw.out).more (Nat.le_trans hBw Hgw.out.size))
   have HCc:=hid (Hg.out.grown Hgw.out hgc)
   have Hls:=hid (fun i hi=>HLs.out k d (by omega) hd i hi)
   have Hly:=hid (UZ (first:=first) (sums:=sums) (size:=size) hd)
   have HfR:=hid (HFz.out d Hgd2.out)
   have HFr2:=hid (HFr.out d a5 k5 wr HCc.out Hgd2.out Hr5.out)
   have hfl:=f7 d (size:Int)
   rw [Hcd.out] at hfl
   rw [HR.out,Hcd.out] at Hly
   generalize cO d (size:Int)=fz at *
   have Hfl:=hid hfl
   clear hdm hbl hc5 hr5 hd hfl
   generalize d.length=nd at *
   go_wp2_with (go_at_call 174; fail)
   refine HFr2.out.mono ?_
   rintro e w2 ⟨Af,cf,M,rfl,hM,_,_,hfa,hb2⟩
   have hMl:M.length=cnt:=by rw [<-Hfl.out,<-hM,List.length_map]
   rw [hMl]
   have HM:=hid (fun (i:Nat) (p:FrH × FrameV) (h:M[i]? = some p)=>(show fz[i]? = some p.2 from by rw [<-hM,List.getElem?_map,h]; rfl))
   have HMl:=hid hMl
   have H2y:=hid (show BytesAt w2 g (lays bs (eU first sums size s.rows k ++ fV first sums size len k fz 0)) from by
    rw [show eU first sums size s.rows k ++ fV first sums size len k fz 0=eU first sums size s.rows k by simp [fV]]
    exact Hby.out.below hb2 Hby.out.lt)
   have H2g:=hid (grownBy_below Hgr.out hb2)
   have H2f:=hid hfa
   clear hMl hM hfa hb2 z5 HFr2
   go_wp2_with fail
   go_loopw [37] (fun v wx=>∃ i:Nat,i<=cnt/\v=.int .i64 i/\BytesAt wx g (lays bs (eU first sums size s.rows k ++ fV first sums size len k fz i))/\FramesAt wx Af M/\w8.grownBy wx (some g)) (fun v _=>cnt - (intOf v).toNat)
   case atStart=>exact ⟨0,by omega,rfl,H2y.out,H2f.out,H2g.out⟩
   case round =>
    obtain ⟨i,hi5,rfl,hby,hfa,hgr⟩:=hrel
    have Hy3:=hid hby
    have Hf3:=hid hfa
    have Hg3:=hid hgr
    clear hby hfa hgr
    by_cases hli:i < cnt
    ·have t3:(i:Int) < (cnt:Int):=by omega
     have t4:(0:Int)<=(i:Int):=by omega
     obtain ⟨p,hp⟩:=aE (k:=i) HMl.out hli
     have hpz:=HM.out i p hp
     have HpR:=hid (HfR.out p.2 (List.mem_of_getElem? hpz))
     have Hcs:=hid (TI (first:=first) (sums:=sums) (size:=size) (ch:=len) (k:=k) hpz)
     have HpT:=hid (Hf3.out.tones p (List.mem_of_getElem? hp))
     obtain ⟨bf,of_,rfl,hbf,hcell⟩:=OQ Hf3.out hp
     have FX:=hid hcell
     have hfl:(frC p).length=29:=kI HpR.out.1.len
     have Hf1:=hid (show (frC p).toArray.all (·.oneCell')=true by
      rw [Array.all_eq_true_iff_forall_mem]
      intro v hv
      exact mL p v (by simpa using hv))
     have HFA:=hid (fun (W:World) (hW:Below wr.heap.size wr W)=>(show FramesAt (W.alloc (.cells (frC p).toArray 50)) (some ⟨W.heap.size,0,none⟩) [p] from by
      refine ⟨?_,fun q hq=>by rw [List.mem_singleton] at hq; rw [hq]; exact HpR.out.1.len,fun q hq=>by rw [List.mem_singleton] at hq; rw [hq]; exact HpT.out.later (aC hW (aL W _))⟩
      have h1:=Row.new W 50 (frC p)
      rw [show iV [p]=frC p by simp [iV],World.size_alloc]
      exact h1))
     have HQ:=hid (fun A W hg hA=>HBy.out p A W hg hA HpR.out)
     have Hlb:=hid (eD HpR.out.1 HpR.out.2)
     generalize frC p=fl at *
     generalize p.2=x at *
     have HFl:=hid (show (Tryz.prog.info? 50).map (·.size)=some fl.length by rw [hfl]; exact bX)
     have HFa:=hid (show (Tryz.prog.info? 50).map (·.size)=some fl.toArray.size by rw [List.size_toArray,hfl]; exact bX)
     have Hfz:=hid (show fl.toArray.size=29 by rw [List.size_toArray,hfl])
     clear hp hcell hbf hfl
     have EV:=hid (aL wr (.cells fl.toArray 50))
     have hFA:=HFA.out _ EV.out
     rw [World.size_alloc] at hFA
     have HFA1:=hid hFA
     clear hFA
     have EW:=hid (aC EV.out (aL (wr.alloc (.cells fl.toArray 50)) (.cells fl.toArray 50)))
     go_wp2_with (first | (refine aN rfl 50 (.tmp 40) rfl bf (of_+i*29) rfl fl _ FX.out Tryz.underlying50 rfl HFl.out ?_) | (refine aA rfl 50 (.tmp 14) (.tmp 41) rfl wr.heap.size rfl _ _ fl.toArray rfl (heap_alloc_new wr _) HFa.out (by rw [Hfz.out]; rfl) Hf1.out ?_; rw [World.setRow_alloc_new]) | (refine aB rfl 50 (.tmp 14) rfl wr.heap.size rfl _ fl.toArray _ _ (heap_alloc_new wr _) Tryz.underlying50 rfl HFa.out ?_) | (refine jC rfl 207 50 (.tmp 44) rfl i0 z0 29 Tryz.underlying207 hi hz0 hi1 (by omega) (by omega) fl.toArray rfl Hfz.out ?_) | (go_at_call 175; fail))
     refine (HQ.out _ _ ((Hg.out.grown (grownBy_trans HG8.out Hg3.out) hgc).later EW.out) HFA1.out).mono ?_
     rintro e w6 ⟨At,ct,rfl,hrt,hb6,hfr⟩
     have Hrt:=hid hrt
     have E6:=hid (aC EW.out hb6)
     have hz6:=E6.out.size
     obtain ⟨b0,hb0⟩:=aE (k:=0) Hlb.out (by omega)
     obtain ⟨bt,ot,hAt,hbt,_⟩:=hrt 0 _ (d9 hb0)
     subst hAt
     have hbg:bt ≠ g:=by
      have h1:=hfr _ rfl
      have h2:=Hy3.out.lt
      simp at h1
      omega
     have H6y:=hid (Hy3.out.below E6.out Hy3.out.lt)
     have H6f:=hid (Hf3.out.later E6.out)
     have H6g:=hid (grownBy_below Hg3.out E6.out)
     have X6:=hid (Blk.grown Hxm.out H6g.out (fun e=>by injection e with e; have:=Hgl.out; omega))
     have HC6:=hid (Hg.out.grown (grownBy_trans HG8.out H6g.out) hgc)
     have xm3:w6.cell? ⟨w.heap.size,3,none⟩=some (.int .i64 len):=X6.out.cell 3
     have hfi:=Hfit.out i k hli hlk
     obtain ⟨Q0,hQ0⟩:∃ Q0,i*len=Q0:=⟨_,rfl⟩
     have hmul:(i:Int)*(len:Int)=(Q0:Int):=by rw [<-hQ0]; push_cast; rfl
     have hlen0:=Hls.out i (by omega)
     rw [hQ0] at hfi Hcs
     obtain ⟨Q,hQ⟩:∃ Q,Q0+k=Q:=⟨_,rfl⟩
     have hQi:(Q0:Int)+(k:Int)=(Q:Int):=by omega
     rw [hQ] at hfi Hcs
     obtain ⟨S,hS⟩:∃ S,Q*size=S:=⟨_,rfl⟩
     have hmu2:(Q:Int)*(size:Int)=(S:Int):=by rw [<-hS]; push_cast; rfl
     rw [hS] at hfi
     have hQS:Q<=S:=by rw [<-hS]; exact Nat.le_mul_of_pos_right _ (by omega)
     obtain ⟨O1,hO1⟩:∃ O1,first+S=O1:=⟨_,rfl⟩
     have hOi:(first:Int)+(S:Int)=(O1:Int):=by omega
     rw [hO1] at hfi
     obtain ⟨X0,hX0⟩:∃ X0,lays bs (eU first sums size s.rows k ++ fV first sums size len k fz i)=X0:=⟨_,rfl⟩
     rw [hX0] at H6y hlen0
     have HX0:=hid hX0
     have Hy1:=hid (show lays bs (eU first sums size s.rows k ++ fV first sums size len k fz (i+1))=aS (aS X0 O1 (aP x size)) (sums+4*Q) (cP 4 (lD (aP x size)).toNat) by
      rw [Hcs.out,<-List.append_assoc,ED,hX0]
      unfold mY
      rw [hS,hO1]
      rfl)
     clear hX0 hQ0 hQ hS hO1 hrt hb6 hfr hb0 hbt hpz HQ HFA HFA1 HpT EV EW FX Hcs
     generalize aP x size=FB at *
     go_wp2_with fail
     clear xm3
     have xm8:=fun (z:GW w6)=>(show z.1.cell? ⟨w.heap.size,8,none⟩=some (.int .i64 first) from (z.2.cell (p:=⟨w.heap.size,8,none⟩) X6.out.lt).trans (X6.out.cell 8))
     have HSz6:=hid (fun (z:GW w6)=>HSz.out z.1 (HC6.out.later z.2))
     refine aI 10 (by kernel_rfl) (by kernel_rfl) ?_
     simp only [List.take_succ_cons,List.take_zero,List.drop_succ_cons,List.drop_zero]
     repeat (go_big_quiet_step ((go_at_call 176; exact cR (HSz6.out _))))
     refine wpQuiet_nil ?_
     intro w7 hw'
     have B7:=hid (aK hw')
     clear hw' xm8 HSz6
     have H7y:=hid (H6y.out.below B7.out H6y.out.lt)
     have H7g:=hid (grownBy_below H6g.out B7.out)
     have H7f:=hid (H6f.out.later B7.out)
     have R7:=hid (Hrt.out.later B7.out)
     have hcp:(Builtin.copy_ #[30,30] 3 #[.slice (some ⟨g,O1,none⟩) (n - O1) (cap - O1),.slice (some ⟨bt,ot,none⟩) size ct]).run Tryz.prog w7=_:=TO w7 g O1 (n - O1) (cap - O1) bt ot size ct X0 FB H7y.out Hlb.out (by omega) (by omega) R7.out _
     obtain ⟨w9,hw9⟩:∃ w9,w7.setRow g (u8s (aS X0 O1 FB)).toArray=w9:=⟨_,rfl⟩
     rw [hw9] at hcp
     have G79:=hid (show w7.grownBy w9 (some g) by rw [<-hw9]; exact cZ (World.grownBy.refl _ _) _)
     have Y9:=hid (show BytesAt w9 g (aS X0 O1 FB) by rw [<-hw9]; exact xP H7y.out)
     have G9:=hid (grownBy_trans H7g.out G79.out)
     have F9:=hid (H7f.out.nobyte H7y.out G79.out)
     have R9:=hid ((R7.out.aside (Nat.le_refl _) G79.out (fun ad ha=>by injection ha with ha; subst ha; intro e; injection e with e; exact hbg e.symm)).more G79.out.size)
     have X9:=hid (Blk.grown Hxm.out G9.out (fun e=>by injection e with e; have:=Hgl.out; omega))
     have L9:=hid (show (aS X0 O1 FB).length=n by rw [cT (by rw [Hlb.out,hlen0]; omega),hlen0])
     clear hw9
     go_wp2_with fail
     clear hcp
     have xm7:=fun (z:GW w9)=>(show z.1.cell? ⟨w.heap.size,7,none⟩=some (.int .i64 sums) from (z.2.cell (p:=⟨w.heap.size,7,none⟩) X9.out.lt).trans (X9.out.cell 7))
     have HCr:=hid (fun (z:GW w9)=>(show Calls Tryz.prog 92 #[.slice (some ⟨bt,ot,none⟩) size ct] z.1 (fun e w'=>e=.returned (.int .u32 (lD FB))/\z.1=w') from by
      have:=pZ FB (some ⟨bt,ot,none⟩) ct z.1 (by rw [Hlb.out]; omega) (R9.out.later z.2)
      rwa [Hlb.out] at this))
     have hcr:=sM FB
     generalize lD FB=C at *
     have hwC:IntKind.i64.wrap C=C:=IntWalk.i64_in _ (by omega)
     obtain ⟨AT,hAT⟩:∃ AT,sums+4*Q=AT:=⟨_,rfl⟩
     have hATi:(sums:Int)+4*(Q:Int)=(AT:Int):=by omega
     rw [hAT] at hfi Hy1
     clear hAT
     refine aI 9 (by kernel_rfl) (by kernel_rfl) ?_
     simp only [List.take_succ_cons,List.take_zero,List.drop_succ_cons,List.drop_zero]
     repeat (go_big_quiet_step ((go_at_call 92; exact cR (HCr.out _))))
     refine wpQuiet_nil ?_
     intro w10 hw'
     have B10:=hid (aK hw')
     clear hw' xm7 HCr
     have Y10:=hid (Y9.out.below B10.out Y9.out.lt)
     have HN2:=hid (show Calls Tryz.prog 177 #[.slice (some ⟨g,0,none⟩) n cap,.int .i64 AT,.int .i64 4,.int .i64 C] w10 (gN w10 g (aS (aS X0 O1 FB) AT (cP 4 C.toNat))) from by
      have:=EN (aS X0 O1 FB) g 0 n cap AT 4 C w10 hcr.1 Y10.out (by rw [L9.out]; omega) (by omega) (by omega) (by omega)
      rwa [Nat.zero_add] at this)
     go_wp2_with (go_at_call 177; fail)
     refine HN2.out.mono ?_
     rintro e w11 ⟨rfl,hy11,hg11⟩
     have Y11:=hid hy11
     have G11:=hid (grownBy_trans (grownBy_below G9.out B10.out) hg11)
     have F11:=hid ((F9.out.later B10.out).nobyte Y10.out hg11)
     clear hy11 hg11
     go_wp2
     go_roundw
     case rel=>exact ⟨i+1,by omega,by go_num,by rw [Hy1.out]; exact Y11.out,F11.out,G11.out⟩
     case measure=>simp [intOf]; omega
    ·have hic:i=cnt:=by omega
     subst hic
     have t3:¬ ((i:Int) < (i:Int)):=by omega
     have Hy4:=hid (show BytesAt wr g (lays bs (eU first sums size s.rows (k+1))) by rw [Hly.out]; exact Hy3.out)
     go_wp2
     go_roundw
     case rel=>exact ⟨k+1,by omega,by go_num,Hy4.out,Hg3.out⟩
     case measure=>simp [intOf]; omega
  ·have hkl:k=len:=by omega
   subst hkl
   have t1:¬ ((k:Int) < (k:Int)):=by omega
   go_wp2
   go_ret
   exact ⟨rfl,Hby.out,Hgw.out⟩
end
section
open Go.RowKit Go.Lib
def bC (m:MetaV):Int:=dL m.length*m.channels
theorem rL (m:MetaV) (w:World) (h1:0<=m.length/\m.length<=1048576) (h2:0<=m.channels/\m.channels<=255) :
  Calls Tryz.prog 84 #[.agg m.cells.toArray] w fun e w'=>e=.returned (.int .i64 (bC m))/\Below w.heap.size w w':=by
 obtain ⟨nm,len,rate,ch,lp,f,t,sums,first⟩:=m
 simp only at h1 h2
 have HF:=Lib.hid (show bC ⟨nm,len,rate,ch,lp,f,t,sums,first⟩=dL len*ch from rfl)
 have hc:0<=dL len/\dL len<=65537:=by unfold dL; split <;> omega
 have HC:=Lib.hid (fun W=>uE len W (by omega))
 generalize bC ⟨nm,len,rate,ch,lp,f,t,sums,first⟩=F at *
 generalize dL len=C at *
 have hp:0<=C*ch/\C*ch<=65537*255:=⟨Int.mul_nonneg hc.1 h2.1,Int.le_trans (Int.mul_le_mul_of_nonneg_right hc.2 h2.1) (Int.mul_le_mul_of_nonneg_left h2.2 (by omega))⟩
 have hw:IntKind.i64.wrap (C*ch)=C*ch:=IntWalk.i64_in _ (by omega)
 show Calls Tryz.prog 84 #[.agg #[.string nm,.int .i64 len,.int .i64 rate,.int .i64 ch,.bool lp,.int .i64 f,.int .i64 t,.int .i64 sums,.int .i64 first]] w _
 obtain ⟨w1,hw1⟩:∃ w1,w.alloc (.cells #[.string nm,.int .i64 len,.int .i64 rate,.int .i64 ch,.bool lp,.int .i64 f,.int .i64 t,.int .i64 sums,.int .i64 first] 37)=w1:=⟨_,rfl⟩
 have Hx:=Lib.hid (show Blk w1 w.heap.size 37 [.string nm,.int .i64 len,.int .i64 rate,.int .i64 ch,.bool lp,.int .i64 f,.int .i64 t,.int .i64 sums,.int .i64 first] by rw [<-hw1]; exact Blk.new w _ [.string nm,.int .i64 len,.int .i64 rate,.int .i64 ch,.bool lp,.int .i64 f,.int .i64 t,.int .i64 sums,.int .i64 first])
 have Hb:=Lib.hid (show Below w.heap.size w w1 by rw [<-hw1]; exact aL w _)
 have x1:=fun (z:GW w1)=>(show z.1.cell? ⟨w.heap.size,1,none⟩=some (.int .i64 len) from (z.2.cell (p:=⟨w.heap.size,1,none⟩) Hx.out.lt).trans (Hx.out.cell 1))
 have x3:=fun (z:GW w1)=>(show z.1.cell? ⟨w.heap.size,3,none⟩=some (.int .i64 ch) from (z.2.cell (p:=⟨w.heap.size,3,none⟩) Hx.out.lt).trans (Hx.out.cell 3))
 go_enter Tryz.func84,Tryz.ntmps84
 go_wp2_with fail
 clear hw1
 refine aR (by kernel_rfl) (by kernel_rfl) ?_
 repeat (go_big_quiet_step ((go_at_call 90; exact cR (HC.out _))))
 refine wpQuiet_nil ?_
 intro w5 hw'
 have B5:=Lib.hid (aK hw')
 clear hw' x1 x3
 go_wp2
 go_ret
 exact ⟨by rw [HF.out]; rfl,aC Hb.out B5.out⟩
theorem IS (n:Int) (w:World) (h0:0<=n) (h:n<=1000000000000):Calls Tryz.prog 173 #[.int .i64 n,.int .i64 16] w fun e w'=>e=.returned (.int .i64 (upZ n 16))/\w=w':=by
 go_enter Tryz.func173,Tryz.ntmps173
 go_wp2
 go_ret
 exact ⟨cE (by unfold upZ; omega),rfl⟩
theorem IT (n:Int) (w:World) (h0:0<=n) (h:n<=1000000000000):Calls Tryz.prog 173 #[.int .i64 n,.int .i64 64] w fun e w'=>e=.returned (.int .i64 (upZ n 64))/\w=w':=by
 go_enter Tryz.func173,Tryz.ntmps173
 go_wp2
 go_ret
 exact ⟨cE (by unfold upZ; omega),rfl⟩
def bL (size:Int) (L:List MetaV):Nat->Int
 | 0=>16+(L.length:Int)*64+4
 | m+1=>match L[m]? with
  | some x=>upZ (bL size L m+4*bC x) 16+size*bC x
  | none=>bL size L m
theorem fU {size:Int} {L:List MetaV} {m:Nat} {x:MetaV} (h:L[m]? = some x):bL size L (m+1)=upZ (bL size L m+4*bC x) 16+size*bC x:=by
 show (match L[m]? with | some x=>_ | none=>_)=_
 rw [h]
def plc (size:Int) (L:List MetaV) (i:Nat) (x:MetaV):MetaV:={ x with sums:=bL size L i,first:=upZ (bL size L i+4*bC x) 16 }
def dA (size:Int) (L:List MetaV):Nat->List MetaV
 | 0=>L
 | m+1=>match L[m]? with
  | some x=>(dA size L m).set m (plc size L m x)
  | none=>dA size L m
theorem uU {size:Int} {L:List MetaV} {m:Nat} {x:MetaV} (h:L[m]? = some x):dA size L (m+1)=(dA size L m).set m (plc size L m x):=by
 show (match L[m]? with | some x=>_ | none=>_)=_
 rw [h]
theorem lJ (size:Int) (L:List MetaV):∀ m,(dA size L m).length=L.length
 | 0=>rfl
 | m+1=>by
  have ih:=lJ size L m
  unfold dA
  split
  ·rw [List.length_set,ih]
  ·exact ih
theorem gV {size:Int} {L:List MetaV} {i:Nat} {x:MetaV} (h:L[i]? = some x):∀ m,(dA size L m)[i]? = if i < m then some (plc size L i x) else some x
 | 0=>by rw [if_neg (by omega)]; exact h
 | m+1=>by
  have ih:=gV (size:=size) h m
  have hi:=(List.getElem?_eq_some_iff.1 h).1
  cases hx:L[m]? with
  | none =>
   have hm:=List.getElem?_eq_none_iff.1 hx
   have e:dA size L (m+1)=dA size L m:=by
    show (match L[m]? with | some x=>_ | none=>_)=_
    rw [hx]
   rw [e,ih,if_pos (by omega),if_pos (by omega)]
  | some y =>
   rw [uU hx,List.getElem?_set,lJ]
   by_cases hmi:m=i
   ·subst hmi
    rw [h] at hx
    injection hx with hx
    subst hx
    rw [if_pos rfl,if_pos hi,if_pos (by omega)]
   ·rw [if_neg hmi,ih]
    by_cases h2:i < m
    ·rw [if_pos h2,if_pos (by omega)]
    ·rw [if_neg h2,if_neg (by omega)]
theorem lR (L:List MetaV):(aZ L).length=L.length*9:=by
 unfold aZ
 rw [DK 9 (L.map MetaV.cells) (fun cs hcs=>by obtain ⟨z,_,rfl⟩:=List.mem_map.1 hcs; rfl),List.length_map]
end
section
open Go.RowKit Go.Lib
theorem kN {L:List MetaV} {m j:Nat} {x y:MetaV} {v:Value} (h:L[m]? = some x) (hj:j < 9) (hy:y.cells=x.cells.set j v):aZ (L.set m y)=(aZ L).set (m*9+j) v:=by
 have hm:=(List.getElem?_eq_some_iff.1 h).1
 refine List.ext_getElem? fun i=>?_
 rw [List.getElem?_set,lR]
 rcases Nat.lt_or_ge i (L.length*9) with hi | hi
 ·have hq:i / 9 < L.length:=by omega
  have hj2:i % 9 < 9:=Nat.mod_lt _ (by decide)
  have hd:i / 9*9+i % 9=i:=by omega
  by_cases hqm:i / 9=m
  ·have h1:(L.set m y)[m]? = some y:=by rw [List.getElem?_set,if_pos rfl,if_pos hm]
   have h2:=gU _ h1 (i % 9) hj2
   have h3:=gU L h (i % 9) hj2
   rw [<-hqm,hd] at h2 h3
   rw [hqm] at h2
   rw [h2,h3,hy,List.getElem?_set]
   by_cases h8:m*9+j=i
   ·rw [if_pos h8,if_pos (show j=i % 9 by omega),if_pos (show j < x.cells.length from hj),if_pos (show m*9+j < L.length*9 by omega)]
   ·rw [if_neg h8,if_neg (by omega)]
  ·obtain ⟨z,hz⟩:∃ z,L[i / 9]? = some z:=⟨_,List.getElem?_eq_getElem hq⟩
   have h1:(L.set m y)[i / 9]? = some z:=by rw [List.getElem?_set,if_neg (fun e=>hqm e.symm)]; exact hz
   have h2:=gU _ h1 (i % 9) hj2
   have h3:=gU L hz (i % 9) hj2
   rw [hd] at h2 h3
   rw [h2,h3,if_neg (by omega)]
 ·rw [if_neg (by omega),List.getElem?_eq_none (by rw [lR,List.length_set]; exact hi),List.getElem?_eq_none (by rw [lR]; exact hi)]
theorem qH {w:World} {base:Nat} {e:TypeId} {size n c:Nat} {A:Option Addr} {xs:List Value} (h:w.ownsRow base e size (.slice A n c) n xs) (hn:0 < n):∃ g,A=some ⟨g,0,none⟩/\base<=g/\g < w.heap.size:=by
 rcases h.2 with ⟨_,h0⟩ | ⟨g,cap,cur,hv,hb,hh,_⟩
 ·omega
 ·injection hv with h1
  subst h1
  refine ⟨g,rfl,hb,?_⟩
  rcases Nat.lt_or_ge g w.heap.size with h2 | h2
  ·exact h2
  ·rw [Array.getElem?_eq_none h2] at hh; cases hh
def J9 (x:MetaV):Prop:=(0<=x.length/\x.length<=150)/\0<=x.channels/\x.channels<=2
theorem lF {x:MetaV} (h:J9 x):0<=bC x/\bC x<=20:=by
 obtain ⟨⟨h1,h2⟩,h3,h4⟩:=h
 unfold bC
 have hc:0<=dL x.length/\dL x.length<=10:=by unfold dL; split <;> omega
 generalize dL x.length=c at *
 rcases (show x.channels=0\/x.channels=1\/x.channels=2 by omega) with e | e | e <;> rw [e] <;> omega
theorem QV {size F:Int} (h1:24<=size) (h2:size<=96) (h3:0<=F) (h4:F<=20):0<=size*F/\size*F<=1920 :=
 ⟨Int.mul_nonneg (by omega) h3,Int.le_trans (Int.mul_le_mul_of_nonneg_right h2 h3) (by omega)⟩
theorem vQ {size:Int} {L:List MetaV} (h1:24<=size) (h2:size<=96) (hL:∀ x ∈ L,J9 x):∀ m:Nat,0<=bL size L m/\bL size L m<=20+64*(L.length:Int)+2100*(m:Int)
 | 0=>by unfold bL; omega
 | m+1=>by
  have ih:=vQ h1 h2 hL m
  cases hx:L[m]? with
  | none =>
   have e:bL size L (m+1)=bL size L m:=by
    show (match L[m]? with | some x=>_ | none=>_)=_
    rw [hx]
   rw [e]
   push_cast; omega
  | some x =>
   rw [fU hx]
   have hF:=lF (hL x (List.mem_of_getElem? hx))
   have hm:=QV h1 h2 hF.1 hF.2
   generalize size*bC x=P at *
   generalize bC x=F at *
   generalize bL size L m=a at *
   unfold upZ
   push_cast
   omega
theorem mD {B:Nat} {a b c:World} (h1:Below B a b) (h2:Below b.heap.size b c) (hB:B<=a.heap.size:=by assumption):Below B a c:=h1.trans (h2.mono (Nat.le_trans hB h1.size))
theorem aAe (size:Int) (n cap base:Nat) (L:List MetaV) (A:Option Addr) (w:World) (hn:L.length=n) (hn8:n<=8) (hL:∀ x ∈ L,J9 x) (hs1:24<=size) (hs2:size<=96)
  (hown:w.ownsRow base 37 9 (.slice A n cap) n (aZ L)) (hbase:base<=w.heap.size) :
  Calls Tryz.prog 127 #[.slice A n cap,.int .i64 size] w fun e w'=>e=.returned (.int .i64 (upZ (bL size L n) 64))/\w'.ownsRow base 37 9 (.slice A n cap) n (aZ (dA size L n))/\Below base w w':=by
 have HBd:=hid (fun m=>vQ (size:=size) hs1 hs2 hL m)
 have H0:=hid (show bL size L 0=16+(L.length:Int)*64+4 from rfl)
 have HM0:=hid (show dA size L 0=L from rfl)
 rw [hn] at HBd H0
 have Hn:=hid hn
 have HL:=hid hL
 have Hown:=hid hown
 have HUp:=hid (fun a W (h:0<=a/\a<=100000)=>IS a W h.1 (by omega))
 have HU64:=hid (fun a W (h:0<=a/\a<=100000)=>IT a W h.1 (by omega))
 have HDir:=hid (fun W=>lU (n:Int) W (by omega) (by omega))
 have hb0:=HBd.out 0
 rw [H0.out] at hb0
 clear hn hL hown
 go_enter Tryz.func127,Tryz.ntmps127
 go_wp2_with (go_at_call 131; refine (HDir.out _).mono ?_; rintro e w2 ⟨rfl,rfl⟩)
 go_loopw [5,12] (fun at_ i wr=>∃ m:Nat,m<=n/\i=.int .i64 m/\at_=.int .i64 (bL size L m)/\wr.ownsRow base 37 9 (.slice A n cap) n (aZ (dA size L m))/\Below base w wr) (fun _ i _=>n - (intOf i).toNat)
 case atStart=>exact ⟨0,by omega,rfl,by rw [H0.out],Hown.out,Below.refl _ _⟩
 case round =>
  obtain ⟨m,hm,rfl,rfl,ho,hbel⟩:=hrel
  have Ho:=hid ho
  have Hbel:=hid hbel
  clear ho hbel
  by_cases hlt:m < n
  ·have t1:(m:Int) < (n:Int):=by omega
   have t2:(0:Int)<=(m:Int):=by omega
   obtain ⟨x,hx⟩:=aE (k:=m) Hn.out hlt
   have hFx:=lF (HL.out x (List.mem_of_getElem? hx))
   have hfx:=HL.out x (List.mem_of_getElem? hx)
   have hbd:=HBd.out m
   have HAt:=hid (fU (size:=size) hx)
   have HMx:=hid (uU (size:=size) hx)
   have hxm:(dA size L m)[m]? = some x:=by rw [gV hx m,if_neg (by omega)]
   obtain ⟨g,rfl,hgb,hgl⟩:=qH Ho.out (by omega)
   have hPl:=(show plc size L m x={ x with sums:=bL size L m,first:=upZ (bL size L m+4*bC x) 16 } from rfl)
   have hmu:=QV hs1 hs2 hFx.1 hFx.2
   obtain ⟨a,ha⟩:∃ a,bL size L m=a:=⟨_,rfl⟩
   rw [ha] at hPl hbd HAt ⊢
   rw [hPl] at HMx
   generalize dA size L m=LM at *
   have hlm:m < LM.length:=(List.getElem?_eq_some_iff.1 hxm).1
   obtain ⟨fi,hfi⟩:∃ fi,upZ (a+4*bC x) 16=fi:=⟨_,rfl⟩
   have HFi:=hid hfi
   rw [hfi] at HMx HAt
   have hfib:0<=fi/\fi<=100000:=by rw [<-hfi]; unfold upZ; omega
   have hs1':=kN (y:={ x with sums:=a }) (v:=.int .i64 a) hxm (show 7 < 9 by decide) rfl
   have hx1:(LM.set m { x with sums:=a })[m]? = some { x with sums:=a }:=by rw [List.getElem?_set,if_pos rfl,if_pos hlm]
   have hs2':=kN (y:={ x with sums:=a,first:=fi }) (v:=.int .i64 fi) hx1 (show 8 < 9 by decide) rfl
   rw [List.set_set] at hs2'
   obtain ⟨hst,hgr⟩:=Ho.out.stored (m*9+7) (.int .i64 a)
   rw [<-hs1'] at hst
   obtain ⟨b',off',hA',_,hcl⟩:=gI (Row.of_own Ho.out) hxm
   injection hA' with hA'
   injection hA' with e1 e2
   subst e1 e2
   have c7:wr.cell? ⟨g,m*9+7,none⟩=some (.int .i64 x.sums):=by
    have:=hcl 7 _ rfl
    rwa [Nat.zero_add] at this
   have z7:=Ho.out.frozenAt (m*9+7)
   obtain ⟨w1,hw1⟩:∃ w1,wr.setCell ⟨g,m*9+7,none⟩ (.int .i64 a)=w1:=⟨_,rfl⟩
   rw [hw1] at hst hgr
   have O1:=hid hst
   have E1:=hid (Hbel.out.grown hgr (by have:=Hbel.out.size; omega) (fun k hk=>by injection hk with hk; omega))
   obtain ⟨b',off',hA',_,hcl1⟩:=gI (Row.of_own hst) hx1
   injection hA' with hA'
   injection hA' with e1 e2
   subst e1 e2
   have HFr:=hid (fun (y:MetaV) W (hy:y.length=x.length/\y.channels=x.channels)=>(show Calls Tryz.prog 84 #[.agg y.cells.toArray] W (fun e w'=>e=.returned (.int .i64 (bC x))/\Below W.heap.size W w') from by
    have h:=rL y W (by rw [hy.1]; have:=hfx.1; omega) (by rw [hy.2]; have:=hfx.2; omega)
    have e:bC y=bC x:=by unfold bC; rw [hy.1,hy.2]
    rwa [e] at h))
   obtain ⟨nm,len,rate,ch,lp,f,t,sums,first⟩:=x
   have HFr1:=hid (fun W=>HFr.out ⟨nm,len,rate,ch,lp,f,t,a,first⟩ W ⟨rfl,rfl⟩)
   have HFr2:=hid (fun W=>HFr.out ⟨nm,len,rate,ch,lp,f,t,a,fi⟩ W ⟨rfl,rfl⟩)
   have HK:=hid (fun j v (hv:(MetaV.cells ⟨nm,len,rate,ch,lp,f,t,a,first⟩)[j]? = some v)=>(show w1.cell? ⟨g,m*9+j,none⟩=some v from by have:=hcl1 j v hv; rwa [Nat.zero_add] at this))
   have HFm:=hid (show (Tryz.prog.info? 37).map (·.size)=some 9 by kernel_rfl)
   generalize bC ⟨nm,len,rate,ch,lp,f,t,sums,first⟩=F at *
   have HsE:=hid hs2'
   have HUp1:=hid (fun W=>HUp.out (a+4*F) W (by omega))
   rw [hfi] at HUp1
   have HLl:=hid hlm
   clear hst hgr hcl hcl1 hs1' hs2' hx hxm hx1 hfx hPl ha hfi HFr hlm
   go_wp2_with (first | (refine aN rfl 37 (.tmp 23) rfl g (m*9) rfl (MetaV.cells ⟨nm,len,rate,ch,lp,f,t,a,first⟩) _ HK.out Tryz.underlying37 rfl HFm.out ?_) | (go_at_call 84; fail))
   refine (HFr1.out w1).mono ?_
   rintro e w2 ⟨rfl,hb2⟩
   have O2:=hid (cS O1.out hb2)
   have E2:=hid (mD E1.out hb2)
   clear hb2 hw1 c7 z7
   have hx1:(LM.set m (⟨nm,len,rate,ch,lp,f,t,a,first⟩:MetaV))[m]? = some ⟨nm,len,rate,ch,lp,f,t,a,first⟩:=by rw [List.getElem?_set,if_pos rfl,if_pos (by have:=HLl.out; omega)]
   obtain ⟨b',off',hA',_,hcl2⟩:=gI (Row.of_own O2.out) hx1
   injection hA' with hA'
   injection hA' with e1 e2
   subst e1 e2
   have c8:w2.cell? ⟨g,m*9+8,none⟩=some (.int .i64 first):=by
    have:=hcl2 8 _ rfl
    rwa [Nat.zero_add] at this
   have z8:=O2.out.frozenAt (m*9+8)
   obtain ⟨hst,hgr⟩:=O2.out.stored (m*9+8) (.int .i64 fi)
   obtain ⟨w3,hw3⟩:∃ w3,w2.setCell ⟨g,m*9+8,none⟩ (.int .i64 fi)=w3:=⟨_,rfl⟩
   rw [<-HsE.out,hw3] at hst
   rw [hw3] at hgr
   have O3:=hid hst
   have E3:=hid (E2.out.grown hgr (by have:=E2.out.size; omega) (fun k hk=>by injection hk with hk; omega))
   have hx2:(LM.set m (⟨nm,len,rate,ch,lp,f,t,a,fi⟩:MetaV))[m]? = some ⟨nm,len,rate,ch,lp,f,t,a,fi⟩:=by rw [List.getElem?_set,if_pos rfl,if_pos (by have:=HLl.out; omega)]
   obtain ⟨b',off',hA',hbl3,hcl3⟩:=gI (Row.of_own hst) hx2
   injection hA' with hA'
   injection hA' with e1 e2
   subst e1 e2
   have HK3:=hid (fun (z:GW w3) j v (hv:(MetaV.cells ⟨nm,len,rate,ch,lp,f,t,a,fi⟩)[j]? = some v)=>(show z.1.cell? ⟨g,m*9+j,none⟩=some v from by
    have h:=(z.2.cell (p:=⟨g,0+m*9+j,none⟩) hbl3).trans (hcl3 j v hv)
    rwa [Nat.zero_add] at h))
   have x8:=fun (z:GW w3)=>HK3.out z 8 _ rfl
   have hwm:IntKind.i64.wrap (size*F)=size*F:=IntWalk.i64_in _ (by omega)
   have hws:IntKind.i64.wrap (fi+size*F)=fi+size*F:=IntWalk.i64_in _ (by omega)
   clear hst hgr hcl2 hcl3 hx1 hx2 hbl3
   go_wp2_with (go_at_call 173; refine (HUp1.out _).mono ?_; rintro e w5 ⟨rfl,rfl⟩)
   clear hw3 c8 z8
   refine aR (by kernel_rfl) (by kernel_rfl) ?_
   repeat (first | (go_big_quiet_want; refine bA 37 (.tmp 42) rfl g (m*9) rfl (MetaV.cells ⟨nm,len,rate,ch,lp,f,t,a,fi⟩) _ (by rintro _ ⟨z,rfl⟩; exact HK3.out z) Tryz.underlying37 rfl HFm.out ?_; go_simp; go_big_quiet_on) | go_big_quiet_step ((go_at_call 84; exact bZ (HFr2.out _))))
   refine wpQuiet_nil ?_
   intro w6 hw'
   have B6:=hid (aK hw')
   clear hw' x8 HK3
   have O6:=hid (cS O3.out B6.out)
   have E6:=hid (mD E3.out B6.out)
   go_wp2
   go_roundw
   case rel=>exact ⟨m+1,by omega,by go_num,by rw [HAt.out],by rw [HMx.out]; exact O6.out,E6.out⟩
   case measure=>simp [intOf]; omega
  ·have hmn:m=n:=by omega
   have hbd:=HBd.out m
   subst hmn
   have t1:¬ ((m:Int) < (m:Int)):=by omega
   have HU:=hid (fun W=>HU64.out (bL size L m) W (by omega))
   go_wp2_with (go_at_call 173; refine (HU.out _).mono ?_; rintro e w5 ⟨rfl,rfl⟩)
   go_ret
   exact ⟨rfl,Ho.out,Hbel.out⟩
end
section
open Go.RowKit Go.Lib
def aM (s:SampV):MetaV:=⟨s.name,dV s.rows,s.rate,s.rows.length,s.lp,s.f,s.t,0,0⟩
def cK (size:Nat) (SS:List SampV) (PM:List MetaV):Nat->List (Nat × List Nat)
 | 0=>[]
 | m+1=>cK size SS PM m ++ match SS[m]?,PM[m]? with
  | some s,some x=>eU x.first.toNat x.sums.toNat size s.rows s.rows.length
  | _,_=>[]
theorem AE {size:Nat} {SS:List SampV} {PM:List MetaV} {m:Nat} {s:SampV} {x:MetaV} (h1:SS[m]? = some s) (h2:PM[m]? = some x):cK size SS PM (m+1)=cK size SS PM m ++ eU x.first.toNat x.sums.toNat size s.rows s.rows.length:=by
 show cK size SS PM m ++ (match SS[m]?,PM[m]? with | some s,some x=>_ | _,_=>_)=_
 rw [h1,h2]
theorem C0 (n:Nat):dL (n:Int)=(aV n:Int):=by
 unfold dL aV
 split <;> omega
structure Fine (s:SampV):Prop where
 good:aAQ s
 name:s.name.size<=32
 rate:0<=s.rate
 pos:1<=s.rows.length
 f:0<=s.f
 t:0<=s.t
 same:∀ r ∈ s.rows,r.length=dV s.rows
theorem aBI {rows:List (List Int)} (h:1<=rows.length):∃ r ∈ rows,r.length=dV rows:=by
 cases rows with
 | nil=>simp at h
 | cons r rs=>exact ⟨r,by simp,rfl⟩
theorem tN {s:SampV} (h:s.check=0) (hs:s.small):Fine s:=by
 have hg:=GS h hs
 have hr:=sA h
 unfold SampV.check jE at h
 unfold MetaV.right at hr
 simp only [Bool.and_eq_true,Bool.or_eq_true,decide_eq_true_eq] at hr
 obtain ⟨⟨⟨⟨⟨⟨h1,h2⟩,h3⟩,h4⟩,h5⟩,h6⟩,h7⟩:=hr
 have hnm:s.name.size<=32:=by
  unfold dK at h1
  simp only [Bool.and_eq_true,decide_eq_true_eq] at h1
  exact h1.1.2
 have hf:0<=s.f/\0<=s.t:=by
  unfold kM at h7
  split at h7 <;> simp only [Bool.and_eq_true,decide_eq_true_eq] at h7 <;> omega
 refine ⟨hg,hnm,by omega,by omega,hf.1,hf.2,?_⟩
 rw [if_neg (by simp [h1]),if_neg (by omega),if_neg (by omega),if_neg (by simp [h7])] at h
 cases h8:s.rows.all (tR (dV s.rows))
 ·rw [if_pos h8] at h; omega
 ·rw [List.all_eq_true] at h8
  intro r hr
  have:=h8 r hr
  unfold tR at this
  simpa using this
theorem uT {s:SampV} (h:Fine s):J9 (aM s):=by
 obtain ⟨r,hr,hrl⟩:=aBI h.pos
 have h1:=(h.good.2 r hr).1
 have h2:=h.good.1
 refine ⟨⟨by show (0:Int)<=(dV s.rows:Int); omega,by show (dV s.rows:Int)<=150; omega⟩,by show (0:Int)<=(s.rows.length:Int); omega,by show (s.rows.length:Int)<=2; omega⟩
theorem zQ (s:SampV):bC (aM s)=((aV (dV s.rows)*s.rows.length:Nat):Int):=by
 show dL (dV s.rows:Int)*(s.rows.length:Int)=_
 rw [C0]
 push_cast
 rfl
theorem sF {n b:Int} (h:0 < b) (hb:b=16\/b=64):n<=upZ n b:=by
 unfold upZ
 rcases hb with rfl | rfl <;> omega
theorem YH {size:Int} {L:List MetaV} (h1:24<=size) (hL:∀ x ∈ L,J9 x) (m:Nat):bL size L m<=bL size L (m+1):=by
 cases hx:L[m]? with
 | none =>
  have e:bL size L (m+1)=bL size L m:=by
   show (match L[m]? with | some x=>_ | none=>_)=_
   rw [hx]
  rw [e]; exact Int.le_refl _
 | some x =>
  rw [fU hx]
  have hF:=lF (hL x (List.mem_of_getElem? hx))
  have h3:0<=size*bC x:=Int.mul_nonneg (by omega) hF.1
  have h4:=sF (n:=bL size L m+4*bC x) (b:=16) (by omega) (.inl rfl)
  omega
theorem sH {size:Int} {L:List MetaV} (h1:24<=size) (hL:∀ x ∈ L,J9 x) {m n:Nat} (h:m<=n):bL size L m<=bL size L n:=by
 induction n with
 | zero =>
  have:m=0:=by omega
  subst this; exact Int.le_refl _
 | succ n ih =>
  by_cases hm:m=n+1
  ·subst hm; exact Int.le_refl _
  ·exact Int.le_trans (ih (by omega)) (YH h1 hL n)
structure Places (size N:Nat) (s:SampV) (x:MetaV) (first sums:Nat):Prop where
 name:x.name=s.name
 ch:x.channels=s.rows.length
 good:GoodM x
 eqf:x.first=first
 eqs:x.sums=sums
 fit:∀ i k,i < aV (dV s.rows)->k < s.rows.length->first+(i*s.rows.length+k)*size+size<=N/\sums+4*(i*s.rows.length+k)+4<=N
theorem JU {size N:Nat} {SS:List SampV} {m:Nat} {s:SampV} (h1:24<=size) (h2:size<=96) (hf:∀ s ∈ SS,Fine s) (hs:SS[m]? = some s) (hN:(N:Int)=upZ (bL size (SS.map aM) SS.length) 64) :
  ∃ x first sums,(dA size (SS.map aM) SS.length)[m]? = some x/\Places size N s x first sums:=by
 have hL:∀ x ∈ SS.map aM,J9 x:=fun x hx=>by
  obtain ⟨s,hs,rfl⟩:=List.mem_map.1 hx
  exact uT (hf s hs)
 have hm:=(List.getElem?_eq_some_iff.1 hs).1
 have hfs:=hf s (List.mem_of_getElem? hs)
 have hx:(SS.map aM)[m]? = some (aM s):=by rw [List.getElem?_map,hs]; rfl
 have ha:=vQ (size:=(size:Int)) (by omega) (by omega) hL m
 have hF:=lF (hL _ (List.mem_of_getElem? hx))
 have hsu:=fU (size:=(size:Int)) hx
 have hmo:=sH (size:=(size:Int)) (by omega) hL (show m+1<=SS.length by omega)
 have hu:=sF (n:=bL (size:Int) (SS.map aM) SS.length) (b:=64) (by omega) (.inr rfl)
 rw [<-hN] at hu
 obtain ⟨sums,hsums⟩:=Int.eq_ofNat_of_zero_le ha.1
 have hfi0:0<=upZ (bL size (SS.map aM) m+4*bC (aM s)) 16:=by
  have:=sF (n:=bL (size:Int) (SS.map aM) m+4*bC (aM s)) (b:=16) (by omega) (.inl rfl)
  omega
 obtain ⟨first,hfirst⟩:=Int.eq_ofNat_of_zero_le hfi0
 refine ⟨plc size (SS.map aM) m (aM s),first,sums,by rw [gV hx,if_pos hm],rfl,rfl,?_,hfirst,hsums,fun i k hi hk=>?_⟩
 ·have h3:=hfs.good.1
  exact ⟨hfs.name,by show (0:Int)<=(dV s.rows:Int); omega,hfs.rate,by show (0:Int)<=(s.rows.length:Int); omega,by show (s.rows.length:Int)<=255; omega,hfs.f,hfs.t,by show 0<=bL size (SS.map aM) m; exact ha.1,hfi0⟩
 ·have hge:=sF (n:=bL (size:Int) (SS.map aM) m+4*bC (aM s)) (b:=16) (by omega) (.inl rfl)
  rw [hsu] at hmo
  rw [hfirst] at hge hmo
  rw [hsums] at hge
  rw [zQ] at hge hmo
  generalize aV (dV s.rows)=cnt at *
  generalize s.rows.length=R at *
  have hq:i*R+k+1<=cnt*R:=by
   have:=Nat.mul_le_mul_right R (show i+1<=cnt by omega)
   rw [Nat.succ_mul] at this
   omega
  have hqs:(i*R+k)*size+size<=size*(cnt*R):=by
   have:=Nat.mul_le_mul_right size hq
   rw [Nat.succ_mul,Nat.mul_comm (cnt*R) size] at this
   exact this
  have e1:(size:Int)*((cnt*R:Nat):Int)=((size*(cnt*R):Nat):Int):=by push_cast; rfl
  rw [e1] at hmo
  generalize size*(cnt*R)=P at *
  generalize cnt*R=F at *
  generalize (i*R+k)*size=q1 at *
  generalize i*R+k=q at *
  omega
def bU (size:Nat) (SS:List SampV):Nat:=(upZ (bL size (SS.map aM) SS.length) 64).toNat
def bG (size:Nat) (SS:List SampV):List Nat:=bD (lays (List.replicate (bU size SS) 0) (cK size SS (dA size (SS.map aM) SS.length) SS.length)) (dA size (SS.map aM) SS.length) size
theorem nZ {size N:Nat} {SS:List SampV} (h1:24<=size) (h2:size<=96) (hf:∀ s ∈ SS,Fine s) (hN:(N:Int)=upZ (bL size (SS.map aM) SS.length) 64):∀ m,nP N (cK size SS (dA size (SS.map aM) SS.length) m)
 | 0=>fun p hp=>by simp [cK] at hp
 | m+1=>by
  have ih:=nZ h1 h2 hf hN m
  cases hs:SS[m]? with
  | none =>
   have e:cK size SS (dA size (SS.map aM) SS.length) (m+1)=cK size SS (dA size (SS.map aM) SS.length) m ++ []:=by
    show cK size SS _ m ++ (match SS[m]?,(dA size (SS.map aM) SS.length)[m]? with | some s,some x=>_ | _,_=>_)=_
    rw [hs]
   rw [e,List.append_nil]; exact ih
  | some s =>
   obtain ⟨x,first,sums,hx,hp⟩:=JU h1 h2 hf hs hN
   rw [AE hs hx,hp.eqf,hp.eqs]
   have hfs:=hf s (List.mem_of_getElem? hs)
   intro p hq
   rcases List.mem_append.1 hq with h | h
   ·exact ih p h
   ·refine uS s.rows.length (fun j d i y hj hd hi hy=>?_) p h
    have hdm:=List.mem_of_getElem? hd
    have hR:=eS (hfs.good.2 d hdm).2 (size:=(size:Int)) (by omega) (by omega) y (List.mem_of_getElem? hy)
    exact ⟨eD hR.1 hR.2,hp.fit i j (by rw [<-hfs.same d hdm]; exact hi) hj⟩
end
section
open Go.RowKit Go.Lib
theorem QJ {w:World} {base:Nat} {e:TypeId} {size n c:Nat} {A:Option Addr} {xs:List Value} (h:w.ownsRow base e size (.slice A n c) n xs):∀ ad,A=some ad->ad.block < w.heap.size:=by
 rcases h.2 with ⟨h1,_⟩ | ⟨g,cap,cur,h1,hb,hh,_⟩
 ·injection h1 with h1
  subst h1
  exact nofun
 ·injection h1 with h1
  subst h1
  intro ad h
  injection h with h
  subst h
  show g < _
  rcases Nat.lt_or_ge g w.heap.size with h2 | h2
  ·exact h2
  ·rw [Array.getElem?_eq_none h2] at hh; cases hh
theorem XY (size:Int) (A:Option Addr) (n cap:Nat) (w:World) (h:size < 24\/96 < size):Calls Tryz.prog 73 #[.int .i64 size,.slice A n cap] w fun e w'=>e=.returned (.tuple #[.slice none 0 0,.int .i64 12])/\Below w.heap.size w w':=by
 have HNo:=hid (fun W=>TM size W h)
 clear h
 go_enter Tryz.func73,Tryz.ntmps73
 go_wp2_with (go_at_call 116; refine (HNo.out _).mono ?_; rintro e w2 ⟨rfl,rfl⟩)
 refine bodyPost_ret (results_tmp2 Tryz.results73 _ _ _) rfl ?_
 exact ⟨rfl,Below.refl _ _⟩
theorem aAX (size E:Int) (L:List (HSamp × SampV)) (A:Option Addr) (cap:Nat) (w:World) (h1:24<=size) (h2:size<=96) (hl:L.length<=8) (hs:SampsAt w w.heap.size A L) (hE:dD (L.map (·.2))=E) (hne:E ≠ 0) :
  Calls Tryz.prog 73 #[.int .i64 size,.slice A L.length cap] w fun e w'=>e=.returned (.tuple #[.slice none 0 0,.int .i64 E])/\Below w.heap.size w w':=by
 have HNew:=hid (fun W=>zA size W h1 h2)
 have HQ:=hid (fun W (hW:Below w.heap.size w W)=>(show Calls Tryz.prog 125 #[.slice A L.length cap] W (fun e w'=>e=.returned (.int .i64 E)/\Below W.heap.size W w') from by
  rw [<-hE]
  exact vM L A cap W (by omega) (hs.later hW)))
 generalize L.length=n at *
 have t1:(E != 0)=true:=by rw [bne_iff_ne]; exact hne
 have t2:(E == 0)=false:=beq_eq_false_iff_ne.2 hne
 clear hs hE hne
 go_enter Tryz.func73,Tryz.ntmps73
 go_wp2_with (go_at_call 116; fail)
 refine (HNew.out _).mono ?_
 rintro e w1 ⟨gc,rfl,_,_,hb1⟩
 have E1:=hid hb1
 clear hb1
 go_wp2_with (go_at_call 125; fail)
 refine (HQ.out _ E1.out).mono ?_
 rintro e w2 ⟨rfl,hb2⟩
 go_wp2
 refine bodyPost_ret (results_tmp2 Tryz.results73 _ _ _) rfl ?_
 exact ⟨rfl,aC E1.out hb2⟩
theorem yE:∃ i,Tryz.prog.info? 37=some i/\(∃ z,i.zero=some z/\z.cells.size=9)/\i.size=9/\i.bytes=80:=by
 have h:(Tryz.prog.info? 37).map (fun i=>(i.zero.map (fun z=>z.cells.size),i.size,i.bytes))=some (some 9,9,80):=by kernel_rfl
 cases hi:Tryz.prog.info? 37 with
 | none=>rw [hi] at h; cases h
 | some i =>
  rw [hi] at h
  simp at h
  obtain ⟨⟨z,h1,h2⟩,h3,h4⟩:=h
  exact ⟨i,rfl,⟨z,h1,h2⟩,h3,h4⟩
theorem nB (L:List MetaV) (x:MetaV):aZ (L ++ [x])=aZ L ++ x.cells:=by simp [aZ]
theorem rX (x:MetaV):∀ u ∈ x.cells,u.oneCell'=true:=by
 intro u hu
 simp only [MetaV.cells,List.mem_cons,List.not_mem_nil,or_false] at hu
 rcases hu with rfl | rfl | rfl | rfl | rfl | rfl | rfl | rfl | rfl <;> rfl
theorem aCu (size:Nat) (L:List (HSamp × SampV)) (A:Option Addr) (cap:Nat) (w:World) (h1:24<=size) (h2:size<=96) (hl:L.length<=8) (hn:A=none->cap=0) (hs:SampsAt w w.heap.size A L) (hsm:∀ p ∈ L,p.2.small) (hE:dD (L.map (·.2))=0) :
  Calls Tryz.prog 73 #[.int .i64 size,.slice A L.length cap] w fun e w'=>∃ g,e=.returned (.tuple #[.slice (some ⟨g,0,none⟩) (bU size (dF (L.map (·.2)))) (bU size (dF (L.map (·.2)))),.int .i64 0])/\w.heap.size<=g/\BytesAt w' g (bG size (dF (L.map (·.2))))/\Below w.heap.size w w':=by
 obtain ⟨i0,hi,⟨z0,hz0,hz0s⟩,hi1,hi2⟩:=yE
 obtain ⟨iB,hiB,hzB0,hzB1,hzB2⟩:=info_parts rS
 have HNew:=hid (fun W=>zA (size:Int) W (by omega) (by omega))
 have HQ:=hid (fun W (hW:Below w.heap.size w W)=>(show Calls Tryz.prog 125 #[.slice A L.length cap] W (fun e w'=>e=.returned (.int .i64 0)/\Below W.heap.size W w') from by
  have:=vM L A cap W (by omega) (hs.later hW)
  rwa [hE] at this))
 have HSo:=hid (fun W (hW:Below w.heap.size w W)=>ML L A cap W (by omega) hn (hs.later hW))
 have hchk:=IX hE
 have hfine:∀ s ∈ dF (L.map (·.2)),Fine s:=fun s hs=>by
  have hm:=(nJ _).subset hs
  obtain ⟨p,hp,rfl⟩:=List.mem_map.1 hm
  exact tN (hchk _ hm) (hsm p hp)
 have hsl:(dF (L.map (·.2))).length=L.length:=by rw [(nJ _).length_eq,List.length_map]
 obtain ⟨n,hln⟩:∃ n,L.length=n:=⟨_,rfl⟩
 rw [hln] at hsl hl HQ HSo ⊢
 obtain ⟨SS,hSS⟩:∃ SS,dF (L.map (·.2))=SS:=⟨_,rfl⟩
 rw [hSS] at hsl hfine HSo ⊢
 clear hs hE hchk hsm hn hln hSS
 have hLM:(SS.map aM).length=n:=by rw [List.length_map,hsl]
 have hfew:∀ x ∈ SS.map aM,J9 x:=fun x hx=>by
  obtain ⟨s,hs,rfl⟩:=List.mem_map.1 hx
  exact uT (hfine s hs)
 have hbN:=vQ (size:=(size:Int)) (by omega) (by omega) hfew n
 rw [hLM] at hbN
 have h0N:=sH (size:=(size:Int)) (by omega) hfew (Nat.zero_le n)
 have e0:bL (size:Int) (SS.map aM) 0=16+(n:Int)*64+4:=by show 16+((SS.map aM).length:Int)*64+4=_; rw [hLM]
 rw [e0] at h0N
 have hu:=sF (n:=bL (size:Int) (SS.map aM) n) (b:=64) (by omega) (.inr rfl)
 have hN0:0<=upZ (bL (size:Int) (SS.map aM) n) 64/\upZ (bL (size:Int) (SS.map aM) n) 64<=30000:=by
  refine ⟨by omega,?_⟩
  unfold upZ
  omega
 obtain ⟨N,hN⟩:=Int.eq_ofNat_of_zero_le hN0.1
 have hPL:bU size SS=N:=by unfold bU; rw [hsl,hN]; rfl
 have HPl:=hid (fun B c (Ad:Option Addr) W (ho:W.ownsRow B 37 9 (.slice Ad n c) n (aZ (SS.map aM))) (hB:B<=W.heap.size)=>aAe (size:Int) n c B (SS.map aM) Ad W hLM hl hfew (by omega) (by omega) ho hB)
 rw [hN] at HPl
 have hNn:(N:Int)=upZ (bL size (SS.map aM) SS.length) 64:=by rw [hsl,hN]
 have HPz:=hid (show bG size SS=bD (lays (List.replicate N 0) (cK size SS (dA size (SS.map aM) n) n)) (dA size (SS.map aM) n) size by unfold bG; rw [hPL,hsl])
 have HPlace:=hid (fun (m:Nat) (s:SampV) (h:SS[m]? = some s)=>(show ∃ x first sums,(dA size (SS.map aM) n)[m]? = some x/\Places size N s x first sums from by
  have:=JU (N:=N) (by omega) h2 hfine h hNn
  rwa [hsl] at this))
 have HFit:=hid (fun m=>(show nP N (cK size SS (dA size (SS.map aM) n) m) from by
  have:=nZ (N:=N) (by omega) h2 hfine hNn m
  rwa [hsl] at this))
 have hPM:(dA size (SS.map aM) n).length=n:=by rw [lJ,hLM]
 have HPK:=hid (fun (m:Nat) (s:SampV) (x:MetaV) (ha:SS[m]? = some s) (hb:(dA size (SS.map aM) n)[m]? = some x)=>AE (size:=size) ha hb)
 have HTk:=hid (fun (k:Nat) (s:SampV) (h:SS[k]? = some s)=>(show (SS.map aM).take (k+1)=(SS.map aM).take k ++ [aM s] from by
  have hx:(SS.map aM)[k]? = some (aM s):=by rw [List.getElem?_map,h]; rfl
  obtain ⟨hk,he⟩:=List.getElem?_eq_some_iff.1 hx
  rw [List.take_succ_eq_append_getElem hk,he]))
 have HTn:=hid (show (SS.map aM).take n=SS.map aM from List.take_of_length_le (by rw [hLM]; exact Nat.le_refl _))
 rw [hPL]
 generalize dA (size:Int) (SS.map aM) n=PM at *
 generalize SS.map aM=LM at *
 have HPM:=hid hPM
 have Hfine:=hid (fun (k:Nat) (s:SampV) (h:SS[k]? = some s)=>hfine s (List.mem_of_getElem? h))
 have hNb:N<=30000:=by omega
 have hN20:20+n*64<=N:=by omega
 have Hsl:=hid hsl
 clear hPL hN hN0 hu h0N e0 hbN hfew hLM hfine hNn hPM hsl
 go_enter Tryz.func73,Tryz.ntmps73
 go_wp2_with (go_at_call 116; fail)
 refine (HNew.out _).mono ?_
 rintro e w1 ⟨gc,rfl,_,hgc,hb1⟩
 have E1:=hid hb1
 have Hg1:=hid hgc
 clear hb1 hgc
 go_wp2_with (go_at_call 125; fail)
 refine (HQ.out _ E1.out).mono ?_
 rintro e w2 ⟨rfl,hb2⟩
 have E2:=hid (aC E1.out hb2)
 have Hg2:=hid (Hg1.out.later hb2)
 clear hb2
 go_wp2_with (go_at_call 126; fail)
 refine (HSo.out _ E2.out).mono ?_
 rintro e w3 ⟨A3,c3,M,rfl,hM,_,_,_,hs3,hb3⟩
 have hMl:M.length=n:=by rw [<-Hsl.out,<-hM,List.length_map]
 rw [hMl]
 have E3:=hid (aC E2.out hb3)
 have Hg3:=hid (Hg2.out.later hb3)
 have HM:=hid (fun (i:Nat) (p:HSamp × SampV) (h:M[i]? = some p)=>(show SS[i]? = some p.2 from by rw [<-hM,List.getElem?_map,h]; rfl))
 have HMl:=hid hMl
 have Hs3:=hid hs3
 clear hM hMl hs3 hb3 HSo HQ HNew E1 E2 Hg1 Hg2
 go_wp2_with fail
 go_loopw [9,34] (fun o v wr=>∃ (k:Nat) (A':Option Addr) (c':Nat),k<=n/\v=.int .i64 k/\o=.slice A' k c'/\wr.ownsRow w3.heap.size 37 9 (.slice A' k c') k (aZ (LM.take k))/\Below w3.heap.size w3 wr) (fun _ v _=>n - (intOf v).toNat)
 case atStart=>exact ⟨0,none,0,by omega,rfl,rfl,World.ownsRow_nil _ _ _ _,Below.refl _ _⟩
 case round =>
  obtain ⟨k,A',c',hk,rfl,rfl,hown,hbel⟩:=hrel
  have Hown:=hid hown
  have Hbel:=hid hbel
  have Hge:=hid (bJ hown)
  clear hown hbel
  by_cases hlk:k < n
  ·have t1:(k:Int) < (n:Int):=by omega
   have t2:(0:Int)<=(k:Int):=by omega
   obtain ⟨p,hp⟩:=aE (k:=k) HMl.out hlk
   have hp2:=HM.out k p hp
   obtain ⟨b,off,rfl,hb,hc⟩:=BK Hs3.out.row hp
   have hft:=(Hs3.out.fits p (List.mem_of_getElem? hp)).below Hbel.out
   obtain ⟨⟨nm,rate,lp,f,t,a,len,cp⟩,s⟩:=p
   obtain ⟨⟨e1,e2,e3,e4,e5,e6⟩,_,_,vs,h4,h5⟩:=hft
   simp only [HSamp.cells] at hc h4 h5 e1 e2 e3 e4 e5 e6 hp2
   have c0:=(Hbel.out.cell (p:=⟨b,off+k*6+0,none⟩) hb).trans (hc 0 _ rfl)
   have c1:=(Hbel.out.cell (p:=⟨b,off+k*6+1,none⟩) hb).trans (hc 1 _ rfl)
   have c2:=(Hbel.out.cell (p:=⟨b,off+k*6+2,none⟩) hb).trans (hc 2 _ rfl)
   have c3:=(Hbel.out.cell (p:=⟨b,off+k*6+3,none⟩) hb).trans (hc 3 _ rfl)
   have c4:=(Hbel.out.cell (p:=⟨b,off+k*6+4,none⟩) hb).trans (hc 4 _ rfl)
   have c5:=(Hbel.out.cell (p:=⟨b,off+k*6+5,none⟩) hb).trans (hc 5 _ rfl)
   rw [Nat.add_zero] at c0
   have HMt:=hid (fun W (hW:Below wr.heap.size wr W)=>(show Calls Tryz.prog 68 #[.agg #[.string nm,.int .i64 rate,.bool lp,.int .i64 f,.int .i64 t,.slice a len cp]] W (fun e w'=>e=.returned (.agg (aM s).cells.toArray)/\Below W.heap.size W w') from by
    have h4':Row wr w3.heap.size a vs:=h4
    have h5':RowsAt wr w3.heap.size vs s.rows:=h5
    have:=aAT nm rate lp f t a cp vs s.rows W len e6.symm ((h4'.more Hbel.out.size).later hW) ((h5'.more Hbel.out.size).later hW)
    rw [e1,e2,e3,e4,e5,e6] at this ⊢
    exact this))
   have HT:=hid (HTk.out k s hp2)
   have HMs:=hid (show aZ (LM.take (k+1))=aZ (LM.take k) ++ (aM s).cells by rw [HT.out,nB])
   have Hmo:=hid (rX (aM s))
   have hm9:(aM s).cells.length=9:=rfl
   generalize (aM s).cells=mc at *
   have Hm9:=hid hm9
   have Hz9:=hid (show mc.toArray.size=9 by rw [List.size_toArray,hm9])
   clear hc hp hb h4 h5 e1 e2 e3 e4 e5 e6 hp2 hm9
   go_wp2_with (go_at_call 68; fail)
   refine (HMt.out _ (aL _ _)).mono ?_
   rintro e w4 ⟨rfl,hb4⟩
   have F4:=hid (aC (aL wr (.cells #[.string nm,.int .i64 rate,.bool lp,.int .i64 f,.int .i64 t,.slice a len cp] 138)) hb4)
   have O4:=cS Hown.out F4.out
   have hz4:=F4.out.size
   have hzw:=Hbel.out.size
   clear c0 c1 c2 c3 c4 c5 hb4 HMt
   go_wp2_with (first | (refine jC rfl 26 37 (.tmp 40) rfl i0 z0 9 Tryz.underlying26 hi hz0 hi1 (by omega) (by omega) mc.toArray rfl Hz9.out ?_) | (at_builtin; refine c9 _ rfl (.tmp 38) (.tmp 41) 26 rfl w3.heap.size 37 i0 z0 9 80 Tryz.underlying26 hi hz0 hi1 hi2 hz0s (by omega) (.slice A' k c') k (aZ (LM.take k)) rfl (O4.alloc _) (w4.heap.size+1) (some ⟨w4.heap.size,0,none⟩) 1 1 mc rfl (by rw [Hm9.out]) (Row.new w4 _ mc) Hmo.out (by omega) (by omega) (by simp; omega) ?_; intro A2 c2 w5 hown5 hgr5 hat5 hcc5))
   go_roundw
   case rel =>
    have hb5:Below w3.heap.size w3 w5:=((mD Hbel.out F4.out (Nat.le_refl _)).alloc (by omega) (.cells mc.toArray 37)).grown hgr5 (by simp; omega) (fun g h=>Hge.out g h)
    exact ⟨k+1,A2,c2,by omega,by go_num,rfl,by rw [HMs.out]; exact hown5,hb5⟩
   case measure=>simp [intOf]; omega
  ·have hkn:k=n:=by omega
   subst hkn
   have t1:¬ ((k:Int) < (k:Int)):=by omega
   have hown:=Hown.out
   rw [HTn.out] at hown
   have HPl2:=hid (HPl.out w3.heap.size c' A' wr hown Hbel.out.size)
   clear hown
   go_wp2_with (go_at_call 127; fail)
   refine HPl2.out.mono ?_
   rintro e w5 ⟨rfl,hown5,hb5⟩
   have t2:¬ ((4194304:Int) < (N:Int)):=by omega
   have t3:¬ ((N:Int) < 0):=by omega
   have R5:=hid (Row.of_own hown5)
   have HA5:=hid (QJ hown5)
   have E5:=hid (show Below w3.heap.size w3 w5 from Hbel.out.trans hb5)
   obtain ⟨mc,hmc⟩:∃ mc,madeCells #[Value.int .u8 0] N=mc:=⟨_,rfl⟩
   have Hms:=hid (show mc=(u8s (List.replicate N 0)).toArray from by
    have h:=toList_madeCells_one (Value.int .u8 0) N
    rw [hmc] at h
    have:u8s (List.replicate N 0)=List.replicate N (.int .u8 0):=by simp [u8s]
    rw [this,<-h])
   clear hown5 hb5 HPl HPl2
   go_wp2_with (refine wpList_make_row w5 rfl (.tmp 49) (.tmp 49) 30 rfl 5 iB (.int .u8 0) Tryz.underlying30 hiB hzB0 hzB1 rfl .i64 .i64 N rfl rfl (by rw [hzB2]; omega) (by omega) ?_; rw [hmc])
   obtain ⟨wB,hwB⟩:∃ wB,w5.alloc (.cells mc 5)=wB:=⟨_,rfl⟩
   rw [hwB]
   have HyB:=hid (show BytesAt wB w5.heap.size (List.replicate N 0) by
    rw [<-hwB,Hms.out]
    exact Blk.new w5 5 (u8s (List.replicate N 0)))
   have E5B:=hid (show Below w5.heap.size w5 wB by rw [<-hwB]; exact aL w5 _)
   have RB:=hid (show Row wB w5.heap.size A' (aZ PM) from R5.out.below E5B.out)
   have EB:=hid (show Below w3.heap.size w3 wB from mD E5.out E5B.out (Nat.le_refl _))
   have H35:=hid (show w3.heap.size<=w5.heap.size from E5.out.size)
   have HwB:=hid (show w5.heap.size<=wB.heap.size from E5B.out.size)
   have hwg:=E3.out.size
   obtain ⟨gB,hgB⟩:∃ gB,w5.heap.size=gB:=⟨_,rfl⟩
   rw [hgB] at HyB RB H35 HwB HA5 ⊢
   have HgcB:=hid (show CoderAt wB gc (size:Int) from aF Hg3.out EB.out)
   have Hgc3:=hid (show gc < w3.heap.size from by
    rcases Nat.lt_or_ge gc w3.heap.size with h | h
    ·exact h
    ·have h2:=Hg3.out
     unfold CoderAt at h2
     rw [Array.getElem?_eq_none h] at h2
     cases h2)
   have hgg:gc ≠ gB:=by have:=Hgc3.out; have:=H35.out; omega
   clear hwB hgB hmc Hms R5 Hown Hbel E5 E5B Hge
   go_wp2_with fail
   go_loopw [53] (fun v wr=>∃ m:Nat,m<=k/\v=.int .i64 m/\BytesAt wr gB (lays (List.replicate N 0) (cK size SS PM m))/\wB.grownBy wr (some gB)) (fun v _=>k - (intOf v).toNat)
   case atStart=>exact ⟨0,by omega,rfl,HyB.out,World.grownBy.refl _ _⟩
   case round =>
    obtain ⟨m,hm,rfl,hby,hgr⟩:=hrel
    have Hby:=hid hby
    have Hgr:=hid hgr
    clear hby hgr
    have HwS:=hid (show gB<=wr.heap.size from Nat.le_of_lt Hby.out.lt)
    by_cases hlm:m < k
    ·have t4:(m:Int) < (k:Int):=by omega
     have t5:(0:Int)<=(m:Int):=by omega
     obtain ⟨p,hp⟩:=aE (k:=m) HMl.out hlm
     have hp2:=HM.out m p hp
     obtain ⟨x,first,sums,hx,hpl⟩:=HPlace.out m p.2 hp2
     have HKs:=hid (HPK.out m p.2 x hp2 hx)
     have hfi:=Hfine.out m p.2 hp2
     obtain ⟨b,off,rfl,hb,hc⟩:=BK Hs3.out.row hp
     have hft:=(Hs3.out.fits p (List.mem_of_getElem? hp)).below EB.out
     obtain ⟨bd,od,hAd,hbd,hcd⟩:=gI RB.out hx
     subst hAd
     have HXd:=hid (fun (W:World) (hW:wB.grownBy W (some gB)) j v (hv:x.cells[j]? = some v)=>(show W.cell? ⟨bd,od+m*9+j,none⟩=some v from (hW.cell_far ⟨bd,od+m*9+j,none⟩ (Nat.lt_of_lt_of_le hbd HwB.out) (fun e=>by injection e with e; simp only at e; omega)).trans (hcd j v hv)))
     obtain ⟨⟨nm,rate,lp,f,t,a,len,cp⟩,s⟩:=p
     simp only at hp2 hpl HKs hfi hft
     have HC:=hid (fun j v (hv:([.string nm,.int .i64 rate,.bool lp,.int .i64 f,.int .i64 t,.slice a len cp]:List Value)[j]? = some v)=>(show wr.cell? ⟨b,off+m*6+j,none⟩=some v from
      (Hgr.out.cell_far ⟨b,off+m*6+j,none⟩ (Nat.lt_of_lt_of_le hb EB.out.size) (fun e=>by injection e with e; simp only at e; have:=H35.out; omega)).trans ((EB.out.cell (p:=⟨b,off+m*6+j,none⟩) hb).trans (hc j v hv))))
     have c0:=HC.out 0 _ rfl
     have c1:=HC.out 1 _ rfl
     have c2:=HC.out 2 _ rfl
     have c3':=HC.out 3 _ rfl
     have c4:=HC.out 4 _ rfl
     have c5:=HC.out 5 _ rfl
     rw [Nat.add_zero] at c0
     have HLay:=hid (fun (W:World) (hy:BytesAt W gB (lays (List.replicate N 0) (cK size SS PM m))) (hW:wB.grownBy W (some gB))=>(show Calls Tryz.prog 128 #[.slice (some ⟨gB,0,none⟩) N N,.agg x.cells.toArray,.agg #[.string nm,.int .i64 rate,.bool lp,.int .i64 f,.int .i64 t,.slice a len cp],.pointer (some ⟨gc,0,none⟩)] W (WN W gB (lays (List.replicate N 0) (cK size SS PM (m+1)))) from by
      obtain ⟨⟨q1,q2,q3,q4,q5,q6⟩,hcap,hcap2,vs,hv1,hv2⟩:=hft
      obtain ⟨xn,xl,xr,xc,xlp,xf,xt,xs,xfi⟩:=x
      obtain ⟨y1,y2,y3,y4,y5,y6⟩:=hpl
      simp only at y1 y2 y4 y5
      subst y2 y4 y5
      rw [HKs.out,ED]
      have hlen:(lays (List.replicate N 0) (cK size SS PM m)).length=N:=nA (by simp) (HFit.out m)
      refine aC3 (lays (List.replicate N 0) (cK size SS PM m)) gB N N gc size (aV (dV s.rows)) first sums w3.heap.size xn xl xr xlp xf xt ⟨nm,rate,lp,f,t,a,len,cp⟩ s W hy hlen (Nat.le_refl _) (by omega) (HgcB.out.grown hW hgg) hgg (by omega) h2 ?_ (Nat.le_trans EB.out.size hW.size) H35.out hfi.good (fun r hr=>by rw [hfi.same r hr]) y6
      refine ⟨⟨q1,q2,q3,q4,q5,q6⟩,hcap,hcap2,vs,hv1.under EB.out.size H35.out hW,hv2.1,fun i v xs' hv hx'=>?_⟩
      obtain ⟨a',c'',r1,r2,r3,r4⟩:=hv2.2 i v xs' hv hx'
      exact ⟨a',c'',r1,r2,r3,r4.under EB.out.size H35.out hW⟩))
     have HFm:=hid (show (Tryz.prog.info? 37).map (·.size)=some x.cells.length by show _=some 9; kernel_rfl)
     have HFs:=hid (show (Tryz.prog.info? 138).map (·.size)=some 6 by kernel_rfl)
     generalize x.cells=xc at *
     clear hc hp hb hft hbd hcd hp2 hx hpl hfi HC HKs
     go_wp2_with fail
     clear c0 c1 c2 c3' c4 c5
     obtain ⟨wS,hwS⟩:∃ wS,wr.alloc (.cells #[.string nm,.int .i64 rate,.bool lp,.int .i64 f,.int .i64 t,.slice a len cp] 138)=wS:=⟨_,rfl⟩
     rw [hwS]
     have HxS:=hid (show Blk wS wr.heap.size 138 [.string nm,.int .i64 rate,.bool lp,.int .i64 f,.int .i64 t,.slice a len cp] by rw [<-hwS]; exact Blk.new wr _ [.string nm,.int .i64 rate,.bool lp,.int .i64 f,.int .i64 t,.slice a len cp])
     have HyS:=hid (show BytesAt wS gB (lays (List.replicate N 0) (cK size SS PM m)) by rw [<-hwS]; exact Hby.out.alloc _)
     have HgS:=hid (show wB.grownBy wS (some gB) by rw [<-hwS]; exact grownBy_allocR Hgr.out _)
     obtain ⟨gS,hgS⟩:∃ gS,wr.heap.size=gS:=⟨_,rfl⟩
     rw [hgS] at HxS ⊢
     clear hwS hgS
     have HXz:=hid (fun (z:GW wS)=>HXd.out z.1 (grownBy_below HgS.out z.2))
     have xS:=fun (z:GW wS)=>(z.2.block gS HxS.out.lt).trans HxS.out
     refine aI 7 (by kernel_rfl) (by kernel_rfl) ?_
     simp only [List.take_succ_cons,List.take_zero,List.drop_succ_cons,List.drop_zero]
     repeat (first | (go_big_quiet_want; refine bA 37 (.tmp 61) rfl bd (od+m*9) rfl xc _ (by rintro _ ⟨z,rfl⟩; exact HXz.out z) Tryz.underlying37 rfl HFm.out ?_; go_simp; go_big_quiet_on) | (go_big_quiet_want; refine bO 138 (.tmp 15) rfl gS rfl _ #[.string nm,.int .i64 rate,.bool lp,.int .i64 f,.int .i64 t,.slice a len cp] _ _ (by rintro _ ⟨z,rfl⟩; exact xS z) Tryz.underlying138 rfl HFs.out ?_; go_simp; go_big_quiet_on) | go_big_quiet_step (fail))
     refine wpQuiet_nil ?_
     intro w6 hw'
     have B6:=hid (aK hw')
     clear hw' xS HXz
     go_wp2_with (go_at_call 128; fail)
     refine (HLay.out w6 (HyS.out.below B6.out HyS.out.lt) (grownBy_below HgS.out B6.out)).mono ?_
     rintro e w7 ⟨rfl,hy7,hg7⟩
     have Hy7:=hid hy7
     have Hg7:=hid (grownBy_trans (grownBy_below HgS.out B6.out) hg7)
     clear hy7 hg7
     go_wp2
     go_roundw
     case rel=>exact ⟨m+1,by omega,by go_num,Hy7.out,Hg7.out⟩
     case measure=>simp [intOf]; omega
    ·have hmk:m=k:=by omega
     subst hmk
     have t4:¬ ((m:Int) < (m:Int)):=by omega
     have HGM:∀ x ∈ PM,GoodM x:=fun x hx=>by
      obtain ⟨i,hi2,rfl⟩:=List.getElem_of_mem hx
      have hs:i < SS.length:=by rw [Hsl.out,<-HPM.out]; exact hi2
      obtain ⟨y,first,sums,hy,hpl⟩:=HPlace.out i SS[i] (List.getElem?_eq_getElem hs)
      rw [List.getElem?_eq_getElem hi2] at hy
      injection hy with hy
      rw [hy]; exact hpl.good
     have hlen:(lays (List.replicate N 0) (cK size SS PM m)).length=N:=nA (by simp) (HFit.out m)
     have HHd:=hid (show Calls Tryz.prog 129 #[.slice (some ⟨gB,0,none⟩) N N,.slice A' m c',.int .i64 size] wr (gN wr gB (bG size SS)) from by
      rw [HPz.out,<-HPM.out]
      have hr:Row wr wr.heap.size A' (aZ PM):=(RB.out.under HwB.out (Nat.le_refl _) Hgr.out).more HwS.out
      have:=aBv (lays (List.replicate N 0) (cK size SS PM m)) gB N N PM A' c' size wr Hby.out hlen (Nat.le_refl _) (by rw [HPM.out]; omega) (by omega) (by rw [HPM.out]; omega) (by omega) HGM hr (fun ad ha=>by have:=HA5.out ad ha; omega)
      rw [HPM.out] at this ⊢
      exact this)
     clear HGM hlen
     go_wp2_with (go_at_call 129; fail)
     refine HHd.out.mono ?_
     rintro e w9 ⟨rfl,hy9,hg9⟩
     have Hy9:=hid hy9
     have Hg9:=hid (grownBy_trans Hgr.out hg9)
     clear hy9 hg9
     go_wp2
     refine bodyPost_ret (results_tmp2 Tryz.results73 _ _ _) rfl ?_
     have hle:w.heap.size<=gB:=by have:=E3.out.size; have:=H35.out; omega
     exact ⟨gB,rfl,hle,Hy9.out,(aC E3.out EB.out).grown Hg9.out (by have:=HwB.out; omega) (fun k hk=>by injection hk with hk; omega)⟩
end
section
open Go.RowKit Go.Lib
def aDo (W:World) (t:TypeId) (size n:Nat) (cs:List Value) (e:Ending) (w':World):Prop :=
 ∃ A c,e=.returned (.slice A n c)/\n<=c/\c<=9223372036854775807/\(A=none->c=0)/\w'.ownsRow W.heap.size t size (.slice A n c) n cs/\Below W.heap.size W w'
theorem XI {W:World} {B:Nat} {cs:List Value} (h:Row W B none cs):cs=[]:=by
 cases cs with
 | nil=>rfl
 | cons z r=>obtain ⟨b,off,h,_⟩:=h 0 z rfl; cases h
theorem TJ (xs:List Nat) (A:Option Addr) (n cap:Nat) (w:World) (hx:xs.length=n) (hl:n<=1000000000) (hn:A=none->cap=0) (hr:Row w w.heap.size A (u8s xs)) :
  Calls Tryz.prog 91 #[.slice A n cap] w (aDo w 5 1 n (u8s xs)):=by
 obtain ⟨i0,hi,hz0,hz1,hz2⟩:=info_parts rS
 have hq:=fun (W:World) (a:Option Addr) (n c:Nat)=>Lib.run_eql_slice_nil (P:=Tryz.prog) W 30 5 a n c 0 0 Tryz.underlying30
 rcases A with _ | ad
 ·have h0:=XI hr
  have h1:xs=[]:=by
   cases xs with
   | nil=>rfl
   | cons z r=>simp [u8s] at h0
  subst h1
  obtain rfl:n=0:=hx.symm
  obtain rfl:=hn rfl
  go_enter Tryz.func91,Tryz.ntmps91
  go_wp2
  go_ret
  exact ⟨none,0,rfl,Nat.le_refl _,by omega,fun _=>rfl,World.ownsRow_nil _ _ _ _,Below.refl _ _⟩
 ·clear hn
  have Hr:=Lib.hid hr
  have HL:=Lib.hid (show (u8s xs).length=n by rw [jA,hx])
  have HO1:=Lib.hid (qS xs)
  generalize u8s xs=cs at *
  clear hr hx
  go_enter Tryz.func91,Tryz.ntmps91
  go_wp2_with (at_builtin; refine c9 _ rfl (.tmp 5) (.tmp 6) 30 rfl w.heap.size 5 i0 _ 1 1 Tryz.underlying30 hi hz0 hz1 hz2 rfl (by omega) _ 0 [] rfl (mP w _ _) w.heap.size (some ad) n cap cs rfl (by rw [HL.out]; omega) (Hr.out.below (aL _ _)) HO1.out (by omega) (by omega) (by simp) ?_; intro A' cc w2 hown2 hgrow hat hcc)
  go_ret
  rw [Nat.zero_add] at hown2 hcc
  rw [List.nil_append] at hown2
  obtain ⟨A3,c3,h3,_,hn3⟩:=iL hown2
  injection h3 with e1 _ e3
  subst e1 e3
  exact ⟨A',cc,rfl,hcc,iY hown2,fun h=>(hn3 h).2,hown2,(aL _ _).grown hgrow (by simp) (bJ (mP w 5 1))⟩
theorem ZQ (L:List MetaV):∀ u ∈ aZ L,u.oneCell'=true:=by
 intro u hu
 unfold aZ at hu
 obtain ⟨cs,hcs,hu⟩:=List.mem_flatten.1 hu
 obtain ⟨z,_,rfl⟩:=List.mem_map.1 hcs
 exact rX z u hu
theorem TK (L:List MetaV) (A:Option Addr) (n cap:Nat) (w:World) (hx:L.length=n) (hl:n<=1000000) (hn:A=none->cap=0) (hr:Row w w.heap.size A (aZ L)) :
  Calls Tryz.prog 79 #[.slice A n cap] w (aDo w 37 9 n (aZ L)):=by
 obtain ⟨i0,hi,⟨z0,hz0,hz0s⟩,hz1,hz2⟩:=yE
 have hq:=fun (W:World) (a:Option Addr) (n c:Nat)=>Lib.run_eql_slice_nil (P:=Tryz.prog) W 26 37 a n c 0 0 Tryz.underlying26
 rcases A with _ | ad
 ·have h0:=XI hr
  have h1:L=[]:=by
   cases L with
   | nil=>rfl
   | cons z r=>simp [aZ,MetaV.cells] at h0
  subst h1
  obtain rfl:n=0:=hx.symm
  obtain rfl:=hn rfl
  go_enter Tryz.func79,Tryz.ntmps79
  go_wp2
  go_ret
  exact ⟨none,0,rfl,Nat.le_refl _,by omega,fun _=>rfl,World.ownsRow_nil _ _ _ _,Below.refl _ _⟩
 ·clear hn
  have Hr:=Lib.hid hr
  have HL:=Lib.hid (show (aZ L).length=n*9 by rw [lR,hx])
  have HO1:=Lib.hid (ZQ L)
  generalize aZ L=cs at *
  clear hr hx
  go_enter Tryz.func79,Tryz.ntmps79
  go_wp2_with (at_builtin; refine c9 _ rfl (.tmp 5) (.tmp 6) 26 rfl w.heap.size 37 i0 _ 9 80 Tryz.underlying26 hi hz0 hz1 hz2 hz0s (by omega) _ 0 [] rfl (mP w _ _) w.heap.size (some ad) n cap cs rfl (by rw [HL.out]) (Hr.out.below (aL _ _)) HO1.out (by omega) (by omega) (by simp) ?_; intro A' cc w2 hown2 hgrow hat hcc)
  go_ret
  rw [Nat.zero_add] at hown2 hcc
  rw [List.nil_append] at hown2
  obtain ⟨A3,c3,h3,_,hn3⟩:=iL hown2
  injection h3 with e1 _ e3
  subst e1 e3
  exact ⟨A',cc,rfl,hcc,iY hown2,fun h=>(hn3 h).2,hown2,(aL _ _).grown hgrow (by simp) (bJ (mP w 37 9))⟩
end
section
open Go.RowKit Go.Lib
structure GenM (x:MetaV):Prop where
 len:0<=x.length/\x.length<=1048576
 ch:0<=x.channels/\x.channels<=2
 fr:0<=bC x/\bC x<=131072
theorem aCT {x:MetaV} (h1:0<=x.length/\x.length<=1048576) (h2:0<=x.channels/\x.channels<=2):GenM x:=by
 refine ⟨h1,h2,?_⟩
 unfold bC
 have hc:0<=dL x.length/\dL x.length<=65536:=by unfold dL; split <;> omega
 generalize dL x.length=c at *
 rcases (show x.channels=0\/x.channels=1\/x.channels=2 by omega) with e | e | e <;> rw [e] <;> omega
theorem qB {x:MetaV} (h:x.right=true):GenM x:=by
 unfold MetaV.right at h
 simp only [Bool.and_eq_true,Bool.or_eq_true,decide_eq_true_eq] at h
 obtain ⟨⟨⟨⟨⟨⟨h1,h2⟩,h3⟩,h4⟩,h5⟩,h6⟩,h7⟩:=h
 exact aCT (by omega) (by omega)
theorem J4 {size F:Int} (h1:24<=size) (h2:size<=96) (h3:0<=F) (h4:F<=131072):0<=size*F/\size*F<=12582912 :=
 ⟨Int.mul_nonneg (by omega) h3,Int.le_trans (Int.mul_le_mul_of_nonneg_right h2 h3) (by omega)⟩
theorem xU {size:Int} {L:List MetaV} (h1:24<=size) (h2:size<=96) (hL:∀ x ∈ L,GenM x):∀ m:Nat,m<=L.length->0<=bL size L m/\bL size L m<=20+64*(L.length:Int)+13200000*(m:Int)
 | 0,_=>by unfold bL; omega
 | m+1,hm=>by
  have ih:=xU h1 h2 hL m (by omega)
  obtain ⟨x,hx⟩:∃ x,L[m]? = some x:=⟨_,List.getElem?_eq_getElem (by omega)⟩
  rw [fU hx]
  have hF:=(hL x (List.mem_of_getElem? hx)).fr
  have hmu:=J4 h1 h2 hF.1 hF.2
  generalize size*bC x=P at *
  generalize bC x=F at *
  generalize bL size L m=a at *
  unfold upZ
  push_cast
  omega
theorem IN {size:Int} {L:List MetaV}:∀ m,L.length<=m->bL size L m=bL size L L.length
 | 0,h=>by rw [show L.length=0 by omega]
 | m+1,h=>by
  by_cases he:L.length=m+1
  ·rw [he]
  ·have e:bL size L (m+1)=bL size L m:=by
    show (match L[m]? with | some x=>_ | none=>_)=_
    rw [List.getElem?_eq_none (by omega)]
   rw [e,IN m (by omega)]
theorem DS {size:Int} {L:List MetaV} (h1:24<=size) (h2:size<=96) (hL:∀ x ∈ L,GenM x) (h64:L.length<=64) (m:Nat):0<=bL size L m/\bL size L m<=900000000:=by
 by_cases hm:m<=L.length
 ·have:=xU h1 h2 hL m hm
  omega
 ·rw [IN m (by omega)]
  have:=xU h1 h2 hL L.length (Nat.le_refl _)
  omega
theorem aAf (size:Int) (n cap base:Nat) (L:List MetaV) (A:Option Addr) (w:World) (hn:L.length=n) (hn8:n<=64) (hL:∀ x ∈ L,GenM x) (hs1:24<=size) (hs2:size<=96)
  (hown:w.ownsRow base 37 9 (.slice A n cap) n (aZ L)) (hbase:base<=w.heap.size) :
  Calls Tryz.prog 127 #[.slice A n cap,.int .i64 size] w fun e w'=>e=.returned (.int .i64 (upZ (bL size L n) 64))/\w'.ownsRow base 37 9 (.slice A n cap) n (aZ (dA size L n))/\Below base w w':=by
 have HBd:=hid (fun m=>DS (size:=size) hs1 hs2 hL (by rw [hn]; exact hn8) m)
 have H0:=hid (show bL size L 0=16+(L.length:Int)*64+4 from rfl)
 have HM0:=hid (show dA size L 0=L from rfl)
 rw [hn] at H0
 have Hn:=hid hn
 have HL:=hid hL
 have Hown:=hid hown
 have HUp:=hid (fun a W (h:0<=a/\a<=1000000000)=>IS a W h.1 (by omega))
 have HU64:=hid (fun a W (h:0<=a/\a<=1000000000)=>IT a W h.1 (by omega))
 have HDir:=hid (fun W=>lU (n:Int) W (by omega) (by omega))
 have hb0:=HBd.out 0
 rw [H0.out] at hb0
 clear hn hL hown
 go_enter Tryz.func127,Tryz.ntmps127
 go_wp2_with (go_at_call 131; refine (HDir.out _).mono ?_; rintro e w2 ⟨rfl,rfl⟩)
 go_loopw [5,12] (fun at_ i wr=>∃ m:Nat,m<=n/\i=.int .i64 m/\at_=.int .i64 (bL size L m)/\wr.ownsRow base 37 9 (.slice A n cap) n (aZ (dA size L m))/\Below base w wr) (fun _ i _=>n - (intOf i).toNat)
 case atStart=>exact ⟨0,by omega,rfl,by rw [H0.out],Hown.out,Below.refl _ _⟩
 case round =>
  obtain ⟨m,hm,rfl,rfl,ho,hbel⟩:=hrel
  have Ho:=hid ho
  have Hbel:=hid hbel
  clear ho hbel
  by_cases hlt:m < n
  ·have t1:(m:Int) < (n:Int):=by omega
   have t2:(0:Int)<=(m:Int):=by omega
   obtain ⟨x,hx⟩:=aE (k:=m) Hn.out hlt
   have hFx:=(HL.out x (List.mem_of_getElem? hx)).fr
   have hfx:=HL.out x (List.mem_of_getElem? hx)
   have hbd:=HBd.out m
   have HAt:=hid (fU (size:=size) hx)
   have HMx:=hid (uU (size:=size) hx)
   have hxm:(dA size L m)[m]? = some x:=by rw [gV hx m,if_neg (by omega)]
   obtain ⟨g,rfl,hgb,hgl⟩:=qH Ho.out (by omega)
   have hPl:=(show plc size L m x={ x with sums:=bL size L m,first:=upZ (bL size L m+4*bC x) 16 } from rfl)
   have hmu:=J4 hs1 hs2 hFx.1 hFx.2
   obtain ⟨a,ha⟩:∃ a,bL size L m=a:=⟨_,rfl⟩
   rw [ha] at hPl hbd HAt ⊢
   rw [hPl] at HMx
   generalize dA size L m=LM at *
   have hlm:m < LM.length:=(List.getElem?_eq_some_iff.1 hxm).1
   obtain ⟨fi,hfi⟩:∃ fi,upZ (a+4*bC x) 16=fi:=⟨_,rfl⟩
   have HFi:=hid hfi
   rw [hfi] at HMx HAt
   have hfib:0<=fi/\fi<=1000000000:=by rw [<-hfi]; unfold upZ; omega
   have hs1':=kN (y:={ x with sums:=a }) (v:=.int .i64 a) hxm (show 7 < 9 by decide) rfl
   have hx1:(LM.set m { x with sums:=a })[m]? = some { x with sums:=a }:=by rw [List.getElem?_set,if_pos rfl,if_pos hlm]
   have hs2':=kN (y:={ x with sums:=a,first:=fi }) (v:=.int .i64 fi) hx1 (show 8 < 9 by decide) rfl
   rw [List.set_set] at hs2'
   obtain ⟨hst,hgr⟩:=Ho.out.stored (m*9+7) (.int .i64 a)
   rw [<-hs1'] at hst
   obtain ⟨b',off',hA',_,hcl⟩:=gI (Row.of_own Ho.out) hxm
   injection hA' with hA'
   injection hA' with e1 e2
   subst e1 e2
   have c7:wr.cell? ⟨g,m*9+7,none⟩=some (.int .i64 x.sums):=by
    have:=hcl 7 _ rfl
    rwa [Nat.zero_add] at this
   have z7:=Ho.out.frozenAt (m*9+7)
   obtain ⟨w1,hw1⟩:∃ w1,wr.setCell ⟨g,m*9+7,none⟩ (.int .i64 a)=w1:=⟨_,rfl⟩
   rw [hw1] at hst hgr
   have O1:=hid hst
   have E1:=hid (Hbel.out.grown hgr (by have:=Hbel.out.size; omega) (fun k hk=>by injection hk with hk; omega))
   obtain ⟨b',off',hA',_,hcl1⟩:=gI (Row.of_own hst) hx1
   injection hA' with hA'
   injection hA' with e1 e2
   subst e1 e2
   have HFr:=hid (fun (y:MetaV) W (hy:y.length=x.length/\y.channels=x.channels)=>(show Calls Tryz.prog 84 #[.agg y.cells.toArray] W (fun e w'=>e=.returned (.int .i64 (bC x))/\Below W.heap.size W w') from by
    have h:=rL y W (by rw [hy.1]; have:=hfx.len; omega) (by rw [hy.2]; have:=hfx.ch; omega)
    have e:bC y=bC x:=by unfold bC; rw [hy.1,hy.2]
    rwa [e] at h))
   obtain ⟨nm,len,rate,ch,lp,f,t,sums,first⟩:=x
   have HFr1:=hid (fun W=>HFr.out ⟨nm,len,rate,ch,lp,f,t,a,first⟩ W ⟨rfl,rfl⟩)
   have HFr2:=hid (fun W=>HFr.out ⟨nm,len,rate,ch,lp,f,t,a,fi⟩ W ⟨rfl,rfl⟩)
   have HK:=hid (fun j v (hv:(MetaV.cells ⟨nm,len,rate,ch,lp,f,t,a,first⟩)[j]? = some v)=>(show w1.cell? ⟨g,m*9+j,none⟩=some v from by have:=hcl1 j v hv; rwa [Nat.zero_add] at this))
   have HFm:=hid (show (Tryz.prog.info? 37).map (·.size)=some 9 by kernel_rfl)
   generalize bC ⟨nm,len,rate,ch,lp,f,t,sums,first⟩=F at *
   have HsE:=hid hs2'
   have HUp1:=hid (fun W=>HUp.out (a+4*F) W (by omega))
   rw [hfi] at HUp1
   have HLl:=hid hlm
   clear hst hgr hcl hcl1 hs1' hs2' hx hxm hx1 hfx hPl ha hfi HFr hlm
   go_wp2_with (first | (refine aN rfl 37 (.tmp 23) rfl g (m*9) rfl (MetaV.cells ⟨nm,len,rate,ch,lp,f,t,a,first⟩) _ HK.out Tryz.underlying37 rfl HFm.out ?_) | (go_at_call 84; fail))
   refine (HFr1.out w1).mono ?_
   rintro e w2 ⟨rfl,hb2⟩
   have O2:=hid (cS O1.out hb2)
   have E2:=hid (mD E1.out hb2)
   clear hb2 hw1 c7 z7
   have hx1:(LM.set m (⟨nm,len,rate,ch,lp,f,t,a,first⟩:MetaV))[m]? = some ⟨nm,len,rate,ch,lp,f,t,a,first⟩:=by rw [List.getElem?_set,if_pos rfl,if_pos (by have:=HLl.out; omega)]
   obtain ⟨b',off',hA',_,hcl2⟩:=gI (Row.of_own O2.out) hx1
   injection hA' with hA'
   injection hA' with e1 e2
   subst e1 e2
   have c8:w2.cell? ⟨g,m*9+8,none⟩=some (.int .i64 first):=by
    have:=hcl2 8 _ rfl
    rwa [Nat.zero_add] at this
   have z8:=O2.out.frozenAt (m*9+8)
   obtain ⟨hst,hgr⟩:=O2.out.stored (m*9+8) (.int .i64 fi)
   obtain ⟨w3,hw3⟩:∃ w3,w2.setCell ⟨g,m*9+8,none⟩ (.int .i64 fi)=w3:=⟨_,rfl⟩
   rw [<-HsE.out,hw3] at hst
   rw [hw3] at hgr
   have O3:=hid hst
   have E3:=hid (E2.out.grown hgr (by have:=E2.out.size; omega) (fun k hk=>by injection hk with hk; omega))
   have hx2:(LM.set m (⟨nm,len,rate,ch,lp,f,t,a,fi⟩:MetaV))[m]? = some ⟨nm,len,rate,ch,lp,f,t,a,fi⟩:=by rw [List.getElem?_set,if_pos rfl,if_pos (by have:=HLl.out; omega)]
   obtain ⟨b',off',hA',hbl3,hcl3⟩:=gI (Row.of_own hst) hx2
   injection hA' with hA'
   injection hA' with e1 e2
   subst e1 e2
   have HK3:=hid (fun (z:GW w3) j v (hv:(MetaV.cells ⟨nm,len,rate,ch,lp,f,t,a,fi⟩)[j]? = some v)=>(show z.1.cell? ⟨g,m*9+j,none⟩=some v from by
    have h:=(z.2.cell (p:=⟨g,0+m*9+j,none⟩) hbl3).trans (hcl3 j v hv)
    rwa [Nat.zero_add] at h))
   have x8:=fun (z:GW w3)=>HK3.out z 8 _ rfl
   have hwm:IntKind.i64.wrap (size*F)=size*F:=IntWalk.i64_in _ (by omega)
   have hws:IntKind.i64.wrap (fi+size*F)=fi+size*F:=IntWalk.i64_in _ (by omega)
   clear hst hgr hcl2 hcl3 hx1 hx2 hbl3
   go_wp2_with (go_at_call 173; refine (HUp1.out _).mono ?_; rintro e w5 ⟨rfl,rfl⟩)
   clear hw3 c8 z8
   refine aR (by kernel_rfl) (by kernel_rfl) ?_
   repeat (first | (go_big_quiet_want; refine bA 37 (.tmp 42) rfl g (m*9) rfl (MetaV.cells ⟨nm,len,rate,ch,lp,f,t,a,fi⟩) _ (by rintro _ ⟨z,rfl⟩; exact HK3.out z) Tryz.underlying37 rfl HFm.out ?_; go_simp; go_big_quiet_on) | go_big_quiet_step ((go_at_call 84; exact bZ (HFr2.out _))))
   refine wpQuiet_nil ?_
   intro w6 hw'
   have B6:=hid (aK hw')
   clear hw' x8 HK3
   have O6:=hid (cS O3.out B6.out)
   have E6:=hid (mD E3.out B6.out)
   go_wp2
   go_roundw
   case rel=>exact ⟨m+1,by omega,by go_num,by rw [HAt.out],by rw [HMx.out]; exact O6.out,E6.out⟩
   case measure=>simp [intOf]; omega
  ·have hmn:m=n:=by omega
   have hbd:=HBd.out m
   subst hmn
   have t1:¬ ((m:Int) < (m:Int)):=by omega
   have HU:=hid (fun W=>HU64.out (bL size L m) W (by omega))
   go_wp2_with (go_at_call 173; refine (HU.out _).mono ?_; rintro e w5 ⟨rfl,rfl⟩)
   go_ret
   exact ⟨rfl,Ho.out,Hbel.out⟩
end
end Go.Proofs.YtnbbfblaipjcmaaGreatDoor
