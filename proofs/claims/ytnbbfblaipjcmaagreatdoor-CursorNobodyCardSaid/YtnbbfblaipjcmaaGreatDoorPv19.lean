/- FitE, FitG, FitH, FitJ, CA. Conditions: as each theorem states. -/
import Derived.Deep.DeepFit
import Derived.Test.YtnbbfblaipjcmaaGreatDoorPv14
import Derived.Test.YtnbbfblaipjcmaaGreatDoorPv01
set_option maxRecDepth 100000
set_option maxHeartbeats 8000000
namespace Go.Proofs.YtnbbfblaipjcmaaGreatDoor
section
open Go.Lib (hid)
open Go.RowKit
theorem aU {P:Program} {fn:Func} {p q:Tmp} {ty:TypeId} (h:fn.results=#[.cell p ty,.tmp q]) (tmps:Array Value) (w:World) (g:Nat) (t:TypeId) (cs:Array Value) (fr:Nat × Nat) (d:TypeDesc) (v:Value)
  (hp:tmps.getD p undef=.pointer (some ⟨g,0,none⟩)) (hq:tmps.getD q undef=v) (hg:w.heap[g]? = some (.cells cs t fr))
  (hu:P.underlying ty=some d) (hd:(match d with | .struct _ | .array _ _=>true | _=>false)=true) (hi:(P.info? ty).map (·.size)=some cs.size) :
  (results fn tmps).run P w=.ok (.tuple #[.agg cs,v]) w:=by
 have hp':tmps[p]?.getD undef=.pointer (some ⟨g,0,none⟩):=by simpa using hp
 have hq':tmps[q]?.getD undef=v:=by simpa using hq
 simp [results,h,hp',hq',asAddr,run_loadVar_row w g t ty cs fr d hg hu hd hi]
theorem ZD {s:List Int} (hs:ScB s) (hsum:Q8 s=92) (wd m:List Int):cM wd s m 4 < 0:=by
 rcases Int.lt_or_le (cM wd s m 4) 0 with h | h
 ·exact h
 ·have h1:=o9 wd s m 4 h
  have h2:=mO wd s m 4
  generalize cM wd s m 4=x at *
  obtain ⟨k,rfl⟩:=Int.eq_ofNat_of_zero_le h
  rw [Int.toNat_natCast] at h1
  have h3:k < 4:=by omega
  unfold Q8 at hsum
  have a0:=hs.2 0 (by omega)
  have a1:=hs.2 1 (by omega)
  have a2:=hs.2 2 (by omega)
  have a3:=hs.2 3 (by omega)
  match k,h3,h1 with
  | 0,_,h1 | 1,_,h1 | 2,_,h1 | 3,_,h1=>omega
theorem sD {b g s:List Int} {ts:List ToneV} (hg:g.length=4) (hs:s.length=4):(dB b g s ts).Len:=⟨hg,hs,gM _ _,FH _ _⟩
theorem aAC {b s:List Int} (hb:b.length=16) (h:BigB b) (hs:ScB s):∀ k,k < 16->-4611686018427387904<=bgt (eL b s) k/\bgt (eL b s) k<=4611686018427387904:=by
 intro k hk
 unfold eL
 rw [if_pos hs.ok,oE _ _ hk,if_pos hk]
 obtain ⟨x,hx⟩:=aE hb hk
 rw [aD hx]
 have:=h k x hx
 exact LJ this.1 this.2 _
theorem vH {b g s:List Int} {ts:List ToneV} (hb:b.length=16) (ht:TonesOk b ts) (hs:ScB s):∀ (k:Nat) (x:Int),(dB b g s ts).width[k]? = some x->0<=x/\x<=1000:=by
 intro k x hx
 have hk:k < 4:=by
  have h1:=(List.getElem?_eq_some_iff.1 hx).1
  rwa [show (dB b g s ts).width.length=4 from gM _ _] at h1
 have h1:=qV (eL (cY b ts) s) hk
 rw [aD (show (jS (eL (cY b ts) s))[k]? = some x from hx)] at h1
 have h2:=vK (eL (cY b ts) s) 64 (fun j hj=>by
  have:=aAC (by rw [rZ,hb]) ht.out hs j hj
  exact j8 (k:=63) (by omega) (by omega)) k 16 (by omega)
 omega
theorem aBM {b:List Int} (h:BigB b):Mid (l8 b):=by
 intro k x hx
 have hk:k < 4:=by
  have h1:=(List.getElem?_eq_some_iff.1 hx).1
  rwa [show (l8 b).length=4 by simp [l8]] at h1
 have e:(l8 b)[k]? = some ((cB (cW ((b.drop (k*4)).take 4)):Nat):Int):=aJ _ hk
 rw [e] at hx
 injection hx with hx
 have:=vS h (l:=(b.drop (k*4)).take 4) iP
 have h2:cB (cW ((b.drop (k*4)).take 4))<=64:=j8 (k:=63) (by omega) (by omega)
 omega
theorem PW (b:List Int):(l8 b).length=4:=by simp [l8]
theorem RH {b:List Int} (hb:b.length=16) (hr:BigB b) (tones:Bool):TonesOk b (cG b tones):=by
 cases tones
 ·exact ⟨by simp [cG],fun m _=>by simp [cG,cY]; exact hr,fun t ht=>by simp [cG] at ht⟩
 ·exact ⟨by have:=Y6 b; simp only [cG,if_true]; omega,fun m _=>by simp only [cG,if_true]; exact aDb hr hb m,fun t ht=>aBm hr hb t (by simpa [cG] using ht)⟩
def SK (W:World) (tones:Bool) (f:FrameV) (n:Nat) (e:Ending) (w':World):Prop :=
 ∃ A c,e=.returned (.tuple #[.agg (aY f (.slice A f.tones.length c)),.int .i64 n])/\f.tones.length<=c/\c<=9223372036854775807/\(f.tones=[]\/∃ g,A=some ⟨g,0,none⟩/\W.heap.size<=g)/\(tones=false->A=none/\c=0)/\Row w' w'.heap.size A (aW f.tones)/\Below W.heap.size W w'
def bK:Array Value:=#[.int .i64 0,.int .i64 0,.int .i64 0,.int .i64 0,.slice none 0 0,.int .i64 0,.int .i64 0,.int .i64 0,.int .i64 0,.int .i64 0,.int .i64 0,.int .i64 0,.int .i64 0,.int .i64 0,.int .i64 0,.int .i64 0,.int .i64 0,.int .i64 0,.int .i64 0,.int .i64 0,.int .i64 0,.int .i64 0,.int .i64 0,.int .i64 0,.int .i64 0,.int .i64 0,.int .i64 0,.int .i64 0,.int .i64 0]
theorem V9 (b g s:List Int) (ts:List ToneV):(dB b g s ts).tones=ts:=rfl
theorem lQ {ts:List ToneV} {A:Option Addr} {B g:Nat} {w:World} (hf:ts=[]\/∃ g,A=some ⟨g,0,none⟩/\B<=g) (hg:g < B) (cs:Array Value) (h:Row w w.heap.size A (aW ts)):Row (w.setRow g cs) (w.setRow g cs).heap.size A (aW ts):=by
 rcases hf with rfl | ⟨g',rfl,hB⟩
 ·exact Row.none_ _ _ _
 ·intro i v hv
  obtain ⟨b,off,hA,hb,hc⟩:=h i v hv
  injection hA with hA
  injection hA with e1 e2
  subst e1 e2
  refine ⟨g',0,rfl,by rw [size_setRow]; exact hb,?_⟩
  rw [World.cell?_of_block (w:=w) (setRow_other w g g' cs (by omega))]; exact hc
theorem CD (b g:List Int) (room:Int) (tones:Bool) (w:World) (hb:b.length=16) (hr:BigB b) (hg:g.length=4) :
  Calls Tryz.prog 241 #[aT b,aT g,.int .i64 room,.bool tones] w (SK w tones (jQ b g room tones).1 (jQ b g room tones).2):=by
 have ht:=RH hb hr tones
 obtain ⟨ts,hts⟩:∃ ts,cG b tones=ts:=⟨_,rfl⟩
 have hS:jQ b g room tones=dO b g room ts (l8 (cY b ts)) 92 dC 0:=by unfold jQ; rw [hts]
 rw [hS]
 rw [hts] at ht
 have HF:=hid (fun W=>MG b W hb hr)
 have HTS:=hid (show tones=true->mW b=ts by intro h; rw [<-hts,h]; simp [cG])
 have HT0:=hid (show tones=false->ts=[] by intro h; rw [<-hts,h]; simp [cG])
 have hob:(cY b ts).length=16:=by rw [rZ,hb]
 have HO:=hid (fun A cap W hr=>AL b ts A cap W hb (by have:=ht.len; omega) hr ht.big ht.each)
 have HM:=hid (fun W=>aAS (cY b ts) W hob ht.out)
 have HTo:=hid (fun s A cap W (hs:ScB s) hr=>aCh b g s ts A cap W hb hg hs ht hr)
 have HBi:=hid (fun s A cap W (hs:ScB s)=>aAL (dB b g s ts) A cap W (sD hg hs.1) ht.len (vH hb ht hs))
 have HNx:=hid (fun s tv W (hs:ScB s)=>aBQ (dB b g s ts) tv (l8 (cY b ts)) W (sD hg hs.1) (PW _) hs (fun k x hx=>(vH (g:=g) hb ht hs k x hx).1) (aBM ht.out))
 have HLn:=hid (fun (s:List Int) (hs:s.length=4)=>sD (b:=b) (ts:=ts) hg hs)
 have htl:=ht.len
 have hmv:((l8 (cY b ts)).map (Value.int .i64)).toArray.size=4:=by simp [PW]
 have hm1:=e9 (l8 (cY b ts))
 have hbz:(b.map (Value.int .i64)).toArray.size=16:=by simp [hb]
 have hgz:(g.map (Value.int .i64)).toArray.size=4:=by simp [hg]
 simp only [V9] at HBi
 generalize l8 (cY b ts)=mk at *
 unfold aT at *
 generalize ((cY b ts).map (Value.int .i64)).toArray=ov at *
 generalize (mk.map (Value.int .i64)).toArray=mv at *
 generalize (b.map (Value.int .i64)).toArray=bv at *
 generalize (g.map (Value.int .i64)).toArray=gv at *
 have HFb:=hid (show (Tryz.prog.info? 48).map (·.size)=some bv.size by rw [hbz]; exact bS)
 have HFg:=hid (show (Tryz.prog.info? 45).map (·.size)=some gv.size by rw [hgz]; exact bY)
 have HFm:=hid (show (Tryz.prog.info? 45).map (·.size)=some mv.size by rw [hmv]; exact bY)
 have Hmz:=hid hmv
 have Hm1:=hid hm1
 have H3:=hid (zU w (.cells bv 48) (.cells gv 45) (.cells bK 50))
 have Htl:=hid htl
 clear hS hts ht hob htl hmv hm1 hbz hgz hb hr hg
 go_enter Tryz.func241,Tryz.ntmps241
 go_upto_if 16 with fail
 go_cut [10] (fun v wx=>∃ A c,v=.slice A ts.length c/\ts.length<=c/\c<=9223372036854775807/\(ts=[]\/∃ g,A=some ⟨g,0,none⟩/\w.heap.size+3<=g)/\(tones=false->A=none/\c=0)/\Row wx wx.heap.size A (aW ts)/\wx.heap[w.heap.size]? = some (.cells bv 48 (0,0))/\wx.heap[w.heap.size+1]? = some (.cells gv 45 (0,0))/\wx.heap[w.heap.size+1+1]? = some (.cells bK 50 (0,0))/\Below w.heap.size w wx)
 case first =>
  cases tones
  ·have h0:=HT0.out rfl
   subst h0
   go_wp2
   go_meet
   exact ⟨none,0,rfl,by simp,by omega,.inl trivial,fun _=>⟨rfl,rfl⟩,Row.none_ _ _ _,H3.out.1,H3.out.2.1,H3.out.2.2.1,H3.out.2.2.2.2⟩
  ·have h0:=HTS.out rfl
   rw [h0] at HF
   go_wp2_with (first | (go_at_call 261; fail) | (refine aB rfl 48 (.tmp 4) rfl w.heap.size rfl _ bv _ _ H3.out.1 Tryz.underlying48 rfl HFb.out ?_))
   refine (HF.out _).mono ?_
   rintro e w1 ⟨A,c,rfl,hlc,hc63,hfr,hrow,hb1⟩
   have hfr2:ts=[]\/∃ g,A=some ⟨g,0,none⟩/\w.heap.size+3<=g:=by
    rcases hfr with h | ⟨g,h1,h2⟩
    ·exact .inl h
    ·exact .inr ⟨g,h1,Nat.le_trans (Nat.le_of_eq H3.out.2.2.2.1.symm) h2⟩
   have Hrow:=hid hrow
   have Hb1:=hid hb1
   clear hrow hb1 h0
   go_wp2
   go_meet
   exact ⟨A,c,rfl,hlc,hc63,hfr2,(by intro h; cases h),Hrow.out,aF H3.out.1 Hb1.out,aF H3.out.2.1 Hb1.out,aF H3.out.2.2.1 Hb1.out,kC H3.out.2.2.2.2 (Nat.le_refl _) Hb1.out⟩
 case rest =>
  obtain ⟨A,c,rfl,hlc,hc63,hfr,hnil,hrow,h0,h1,h2,hbel⟩:=hcut
  have HNil:=hid hnil
  clear hnil
  have Hfr:=hid hfr
  clear hfr
  have Hrow:=hid hrow
  have Hbel:=hid hbel
  have G0:=hid h0
  have G1:=hid h1
  have G2:=hid h2
  have hz2:=hlt h2
  clear hrow hbel h0 h1 h2 H3 HF HTS HT0
  go_wp2_with (first | (go_at_call 263; fail) | (refine aB rfl 48 (.tmp 4) rfl w.heap.size rfl _ bv _ _ G0.out Tryz.underlying48 rfl HFb.out ?_))
  refine (HO.out A c _ Hrow.out).mono ?_
  rintro e w2 ⟨rfl,hb2⟩
  have Hb2:=hid hb2
  clear hb2
  go_wp2_with (go_at_call 262; fail)
  refine (HM.out _).mono ?_
  rintro e w3 ⟨rfl,hb3⟩
  have Hb3:=hid (aC Hb2.out hb3)
  clear hb3 Hb2
  go_wp2_with (refine aA rfl 45 (.tmp 11) (.tmp 22) rfl w3.heap.size rfl _ _ mv rfl (heap_alloc_new w3 _) HFm.out (by rw [Hmz.out]; rfl) Hm1.out ?_; rw [World.setRow_alloc_new])
  have H2:=hid (wF w3 (.cells mv 45) (.cells (dC.map (Value.int .i64)).toArray 242))
  have hz3:=Nat.le_trans hz2 Hb3.out.size
  have K0:=hid (aF G0.out Hb3.out)
  have K1:=hid (aF G1.out Hb3.out)
  have K2:=hid (aF G2.out Hb3.out)
  have Krow:=hid (Hrow.out.later Hb3.out)
  have KB:=hid (kC Hbel.out (by omega) Hb3.out)
  clear G0 G1 G2 Hrow Hbel
  go_loopw [13] (fun v wr=>∃ (s:List Int) (n fuel:Nat),ScB s/\Q8 s=n/\fuel+n=92/\dO b g room ts mk fuel s n=dO b g room ts mk 92 dC 0/\v=.int .i64 n /\
   wr.heap[w3.heap.size]? = some (.cells mv 45 (0,0))/\Blk wr (w3.heap.size+1) 242 (s.map (Value.int .i64))/\Below w3.heap.size w3 wr) (fun v _=>93 - (intOf v).toNat)
  case atStart=>exact ⟨dC,0,92,ScB.zero,rfl,rfl,rfl,rfl,H2.out.1,H2.out.2.1,H2.out.2.2.2⟩
  case round =>
   obtain ⟨s,n,fuel,hs,hsum,hfuel,hsr,rfl,hm,hsc,hbr⟩:=hrel
   have Hsr:=hid hsr
   have Hs:=hid hs
   have Hsum:=hid hsum
   have R0:=hid (aF K0.out hbr)
   have R1:=hid (aF K1.out hbr)
   have R2:=hid (aF K2.out hbr)
   have Rm:=hid hm
   have Rs:=hid hsc
   have Rb:=hid hbr
   have hn92:n<=92:=by omega
   have hzr:=hlt hm
   have hzs:=hsc.lt
   have hscz:(s.map (Value.int .i64)).toArray.size=4:=by simp [hs.1]
   have Rs2:=hid (show wr.heap[w3.heap.size+1]? = some (.cells (s.map (Value.int .i64)).toArray 242 (0,0)) from hsc)
   have HTd:=hid (HTo.out s A c wr hs (Krow.out.later hbr))
   have HBt:=hid (fun W=>HBi.out s A c W hs)
   have HNt:=hid (fun W=>HNx.out s (.slice A ts.length c) W hs)
   have hFl:=HLn.out s hs.1
   have hfz:=fJ hFl (.slice A ts.length c)
   have hf1:=lE (dB b g s ts) (tv:=.slice A ts.length c) rfl
   rw [show (FrameV.cells (dB b g s ts) (.slice A ts.length c)).toArray=aY (dB b g s ts) (.slice A ts.length c) from rfl] at HTd
   have HFc:=hid (show (Tryz.prog.info? 242).map (·.size)=some (s.map (Value.int .i64)).toArray.size by rw [hscz]; exact m9)
   obtain ⟨sv,hsv⟩:∃ sv,(s.map (Value.int .i64)).toArray=sv:=⟨_,rfl⟩
   rw [hsv] at Rs2 HTd HFc
   obtain ⟨fc,hfc⟩:∃ fc,aY (dB b g s ts) (.slice A ts.length c)=fc:=⟨_,rfl⟩
   rw [hfc] at HTd HBt HNt hfz hf1
   have HFf:=hid (show (Tryz.prog.info? 50).map (·.size)=some fc.size by rw [hfz]; exact bX)
   have Hfz:=hid hfz
   have Hf1:=hid hf1
   have Hfc:=hid hfc
   obtain ⟨Z,hZ⟩:∃ Z,fT (dB b g s ts)=Z:=⟨_,rfl⟩
   obtain ⟨X,hX⟩:∃ X,cM (dB b g s ts).width s mk 4=X:=⟨_,rfl⟩
   rw [hZ] at HBt
   rw [show (dB b g s ts).scale=s from rfl,hX] at HNt
   have hXb:=mO (dB b g s ts).width s mk 4
   have hXo:=o9 (dB b g s ts).width s mk 4
   rw [hX] at hXb hXo
   have hend:(Z<=room\/X < 0)->dO b g room ts mk fuel s n=(dB b g s ts,n):=by
    intro h
    cases fuel with
    | zero=>rfl
    | succ fuel =>
     unfold dO
     simp only
     rw [if_pos (by rw [hZ,hX]; exact h)]
   have hgo:¬ (Z<=room\/X < 0)->∃ m,fuel=m+1/\dO b g room ts mk fuel s n=dO b g room ts mk m (s.set X.toNat (bgt s X.toNat+1)) (n+1):=by
    intro h
    cases fuel with
    | zero =>
     have:=ZD hs (by omega) (dB b g s ts).width mk
     rw [hX] at this
     exact absurd (Or.inr this) h
    | succ fuel =>
     refine ⟨fuel,rfl,?_⟩
     conv=>lhs; unfold dO
     simp only
     rw [if_neg (by rw [hZ,hX]; exact h),hX]
   rw [hsr] at hend hgo
   have Hend:=hid hend
   have Hgo:=hid hgo
   clear hs hsum hsr hm hsc hbr hscz hfz hf1 hsv hfc hFl hZ hX hend hgo
   go_wp2_with (first | (go_at_call 264; fail) | (refine aB rfl 48 (.tmp 4) rfl w.heap.size rfl _ bv _ _ R0.out Tryz.underlying48 rfl HFb.out ?_) | (refine aB rfl 45 (.tmp 5) rfl (w.heap.size+1) rfl _ gv _ _ R1.out Tryz.underlying45 rfl HFg.out ?_) | (refine aB rfl 242 (.tmp 12) rfl (w3.heap.size+1) rfl _ sv _ _ Rs2.out Tryz.underlying242 rfl HFc.out ?_))
   refine HTd.out.mono ?_
   rintro e w4 ⟨rfl,hb4⟩
   have Hb4:=hid hb4
   clear hb4
   go_wp2_with (first | (go_at_call 265; fail) | (refine aA rfl 50 (.tmp 14) (.tmp 29) rfl w4.heap.size rfl _ _ fc rfl (heap_alloc_new w4 _) HFf.out (by rw [Hfz.out]; rfl) Hf1.out ?_; rw [World.setRow_alloc_new]) | (refine aB rfl 50 (.tmp 14) rfl w4.heap.size rfl _ fc _ _ (heap_alloc_new w4 _) Tryz.underlying50 rfl HFf.out ?_))
   refine (HBt.out _).mono ?_
   rintro e w6 ⟨rfl,hb6⟩
   have hb46:=aC (aL w4 (.cells fc 50)) hb6
   have Hb6:=hid (aC Hb4.out hb46)
   have HFr:=hid (aF (heap_alloc_new w4 (.cells fc 50)) hb6)
   have Q2:=hid (aF R2.out Hb6.out)
   have Qm:=hid (aF Rm.out Hb6.out)
   have Qs:=hid (Rs.out.below Hb6.out hzs)
   have Qb:=hid (kC Rb.out (Nat.le_refl _) Hb6.out)
   have Qrow:=hid (Krow.out.later Qb.out)
   have hz4:=Hb4.out.size
   have hz6:=hb46.size
   clear hb6 hb46 R0 R1 R2 Rm Rs Rb Rs2 Hb6
   by_cases hbits:Z<=room
   ·have he:=Hend.out (.inl hbits)
    have He:=hid he
    clear he hXo
    go_wp2_with (first | (refine aB rfl 50 (.tmp 14) rfl w4.heap.size rfl _ fc _ _ HFr.out Tryz.underlying50 rfl HFf.out ?_) | (refine aA rfl 50 (.tmp 8) (.tmp 34) rfl (w.heap.size+1+1) rfl _ _ fc rfl Q2.out HFf.out (by rw [Hfz.out]; rfl) Hf1.out ?_))
    refine bodyPost_ret (v:=.tuple #[.agg fc,.int .i64 n]) (aU Tryz.results241 _ _ (w.heap.size+1+1) 50 fc (0,0) _ _ rfl rfl (bB w6 _ _ _ fc Q2.out) Tryz.underlying50 rfl HFf.out) rfl ?_
    rw [He.out]
    refine ⟨A,c,by rw [<-Hfc.out]; rfl,hlc,hc63,?_,HNil.out,lQ Hfr.out (by omega) fc Qrow.out,aO (kC KB.out (by omega) Qb.out) _ (by omega) _⟩
    rcases Hfr.out with h | ⟨g,h1,h2⟩
    ·exact .inl h
    ·exact .inr ⟨g,h1,by omega⟩
   ·go_wp2_with (first | (go_at_call 266; fail) | (refine aB rfl 50 (.tmp 14) rfl w4.heap.size rfl _ fc _ _ HFr.out Tryz.underlying50 rfl HFf.out ?_) | (refine aB rfl 45 (.tmp 11) rfl w3.heap.size rfl _ mv _ _ Qm.out Tryz.underlying45 rfl HFm.out ?_))
    refine (HNt.out _).mono ?_
    rintro e w7 ⟨rfl,hb7⟩
    have HFr7:=hid (aF HFr.out hb7)
    have Q27:=hid (aF Q2.out hb7)
    have Qm7:=hid (aF Qm.out hb7)
    have Qs7:=hid (Qs.out.below hb7 Qs.out.lt)
    have Qb7:=hid (kC Qb.out (Nat.le_refl _) hb7)
    have Qrow7:=hid (Krow.out.later Qb7.out)
    have hz7:=hb7.size
    clear hb7 HFr Q2 Qm Qs Qb Qrow
    by_cases hX:X < 0
    ·have He:=hid (Hend.out (.inr hX))
     clear hXo
     go_wp2_with (first | (refine aB rfl 50 (.tmp 14) rfl w4.heap.size rfl _ fc _ _ HFr7.out Tryz.underlying50 rfl HFf.out ?_) | (refine aA rfl 50 (.tmp 8) (.tmp 41) rfl (w.heap.size+1+1) rfl _ _ fc rfl Q27.out HFf.out (by rw [Hfz.out]; rfl) Hf1.out ?_))
     refine bodyPost_ret (v:=.tuple #[.agg fc,.int .i64 n]) (aU Tryz.results241 _ _ (w.heap.size+1+1) 50 fc (0,0) _ _ rfl rfl (bB w7 _ _ _ fc Q27.out) Tryz.underlying50 rfl HFf.out) rfl ?_
     rw [He.out]
     refine ⟨A,c,by rw [<-Hfc.out]; rfl,hlc,hc63,?_,HNil.out,lQ Hfr.out (by omega) fc Qrow7.out,aO (kC KB.out (by omega) Qb7.out) _ (by omega) _⟩
     rcases Hfr.out with h | ⟨g,h1,h2⟩
     ·exact .inl h
     ·exact .inr ⟨g,h1,by omega⟩
    ·obtain ⟨k,hk⟩:=Int.eq_ofNat_of_zero_le (show 0<=X by omega)
     subst hk
     have hk4:k < 4:=by omega
     obtain ⟨m,hm1,hm2⟩:=Hgo.out (by omega)
     have ho:=hXo (by omega)
     rw [Int.toNat_natCast] at hm2 ho
     have hs:=Hs.out
     obtain ⟨S,hS⟩:=aE (k:=k) hs.1 hk4
     rw [aD hS] at ho hm2
     have hsb:=hs.2 k hk4
     rw [aD hS] at hsb
     have hss:=Q9 hs hk4 (S+1)
     rw [aD hS] at hss
     have hsi:=hs.inc hk4 (by rw [aD hS]; exact ho.2)
     rw [aD hS] at hsi
     have Hsi:=hid hsi
     have Hss:=hid hss
     have Hm2:=hid hm2
     have hk4i:(k:Int) < 4:=by omega
     have ce:w7.cell? ⟨w3.heap.size+1,k,none⟩=some (.int .i64 S):=by rw [Qs7.out.cell,List.getElem?_map,hS]; rfl
     have fz:=Qs7.out.frozen k
     have hwr:IntKind.i64.wrap (S+1)=S+1:=IntWalk.i64_in _ (by omega)
     clear hXo ho hs hss hsi hm2 hS
     go_wp2
     go_roundw
     case rel =>
      refine ⟨s.set k (S+1),n+1,m,Hsi.out,by have:=Hss.out; have:=Hsum.out; omega,by omega,Hm2.out.symm,by go_num,(Below.heap_setCell w7 _ _ _ (by simp)).trans Qm7.out,?_,Qb7.out.setCell (by simp) _⟩
      rw [List.map_set]
      exact Qs7.out.set_ k _
     case measure=>simp [intOf]; omega
end
section
def kA (b:List Int) (t:ToneV):List Int:=if 0<=t.idx/\t.idx < 16 then b.set t.idx.toNat (bgt b t.idx.toNat+t.val) else b
def tF (b:List Int) (ts:List ToneV):List Int:=ts.foldl kA b
theorem yX (b:List Int) (t:ToneV):(kA b t).length=b.length:=by unfold kA; split <;> simp
theorem aA1 (b:List Int):∀ (ts:List ToneV),(tF b ts).length=b.length:=by
 intro ts
 unfold tF
 induction ts generalizing b with
 | nil=>rfl
 | cons t r ih=>rw [List.foldl_cons,ih,yX]
theorem YC (b:List Int) {ts:List ToneV} {m:Nat} {t:ToneV} (h:ts[m]? = some t):tF b (ts.take (m+1))=kA (tF b (ts.take m)) t:=by
 obtain ⟨hm,rfl⟩:=List.getElem?_eq_some_iff.1 h
 unfold tF
 rw [List.take_succ_eq_append_getElem hm,List.foldl_append]
 rfl
def rC (v:Int):Int:=if v < -2147483648 then -2147483648 else if 2147483648 < v then 2147483648 else v
theorem aBJ (v:Int):-2147483648<=rC v/\rC v<=2147483648:=by
 unfold rC
 repeat' split
 all_goals omega
def dZ (b:List Int) (m:Nat):List Int:=(List.range 16).map fun k=>if k < m then rC (bgt b k) else bgt b k
theorem KU {b:List Int} (hb:b.length=16):dZ b 0=b:=by
 rw [eN hb]; unfold dZ
 apply List.map_congr_left
 intro k hk
 have:=List.mem_range.1 hk
 rw [if_neg (by omega),<-eN hb]
theorem KT (b:List Int) {m:Nat} (hm:m < 16):(dZ b m).set m (rC (bgt b m))=dZ b (m+1):=by
 refine dE _ (fun k=>if k < m+1 then rC (bgt b k) else bgt b k) hm ?_ (fun i hi=>?_)
 ·rw [if_pos (by omega)]
 ·by_cases h:i < m
  ·rw [if_pos h,if_pos (by omega)]
  ·rw [if_neg h,if_neg (by omega)]
theorem y9 (b:List Int) (m:Nat):(dZ b m).length=16:=by simp [dZ]
theorem NS (b:List Int) {m k:Nat} (hk:k < 16) (hm:m<=k) {x:Int} (hx:b[k]? = some x):(dZ b m)[k]? = some x:=by
 unfold dZ
 rw [aJ _ hk,if_neg (by omega),aD hx]
theorem NR (b:List Int) {m k:Nat} (hk:k < 16):bgt (dZ b m) k=if k < m then rC (bgt b k) else bgt b k:=aD (aJ _ hk)
def cD (f:FrameV):List Int:=dZ (tF (iF f.q f.scale) f.tones) 16
theorem i7 (f:FrameV):(cD f).length=16:=y9 _ _
theorem QX (f:FrameV) {k:Nat} (hk:k < 16):-2147483648<=bgt (cD f) k/\bgt (cD f) k<=2147483648:=by
 unfold cD
 rw [NR _ hk,if_pos hk]
 exact aBJ _
def BdB (B:Int) (b:List Int):Prop:=∀ k,k < 16->-B<=bgt b k/\bgt b k<=B
theorem BdB.get {B:Int} {b:List Int} (h:BdB B b) (hb:b.length=16) {k:Nat} {x:Int} (hx:b[k]? = some x):-B<=x/\x<=B:=by
 have hk:k < 16:=by have:=(List.getElem?_eq_some_iff.1 hx).1; omega
 have:=h k hk
 rwa [aD hx] at this
theorem WR:∀ (ts:List ToneV) (b:List Int) (B:Int),b.length=16->BdB B b->(∀ t ∈ ts,-8388608<=t.val/\t.val<=8388608)->BdB (B+8388608*(ts.length:Int)) (tF b ts)
 | [],b,B,_,h,_=>by
  intro k hk
  have:=h k hk
  simp only [tF,List.foldl_nil,List.length_nil]
  omega
 | t :: r,b,B,hb,h,ht=>by
  have h1:BdB (B+8388608) (kA b t):=by
   intro k hk
   have h2:=ht t (by simp)
   have h3:=h k hk
   unfold kA
   split
   ·rename_i hi
    rw [iU _ _ _ _ (by omega)]
    split
    ·rename_i e
     rw [e]
     omega
    ·omega
   ·omega
  have:=WR r (kA b t) (B+8388608) (by rw [yX,hb]) h1 (fun x hx=>ht x (by simp [hx]))
  intro k hk
  have h2:=this k hk
  rw [List.length_cons]
  show _<=bgt (tF (kA b t) r) k/\bgt (tF (kA b t) r) k<=_
  omega
theorem RightF.qbd {f:FrameV} (h:RightF f) {k:Nat} (hk:k < 16):-8388608<=bgt f.q k/\bgt f.q k < 8388608:=by
 have h1:=h.q k hk
 have h2:=h.width (k / 4) (by omega)
 exact pO (k:=23) (by omega)
theorem aDT {n:Nat} (h:n<=23):(1:Int)<=2 ^ n/\(2:Int) ^ n<=8388608:=by
 rw [show (2:Int) ^ n=((2 ^ n:Nat):Int) by rw [Int.natCast_pow]; rfl]
 have h1:=Nat.pow_le_pow_right (n:=2) (by decide) h
 have h2:=Nat.two_pow_pos n
 omega
theorem aDC {x y X Y:Int} (h1:-X<=x) (h2:x<=X) (h3:0<=y) (h4:y<=Y):-(X*Y)<=x*y/\x*y<=X*Y:=by
 have hX:0<=X:=by omega
 have a:=Int.mul_le_mul_of_nonneg_right h2 h3
 have b:=Int.mul_le_mul_of_nonneg_right h1 h3
 have c:=Int.mul_le_mul_of_nonneg_left h4 hX
 rw [Int.neg_mul] at b
 omega
theorem RightF.values {f:FrameV} (h:RightF f):BdB 70368744177664 (iF f.q f.scale):=by
 intro k hk
 unfold iF
 rw [if_pos h.scale.ok,qT _ _ hk,if_pos hk]
 have h1:=h.qbd hk
 have h2:=h.scale.2 (k / 4) (by omega)
 have h3:=aDT (n:=(bgt f.scale (k / 4)).toNat) (by omega)
 exact aDC (X:=8388608) (Y:=8388608) h1.1 (by omega) (by omega) h3.2
theorem RightF.added {f:FrameV} (h:RightF f) (m:Nat):BdB 70368769343488 (tF (iF f.q f.scale) (f.tones.take m)):=by
 have h1:=WR (f.tones.take m) (iF f.q f.scale) 70368744177664 (AP _ _) h.values (fun t ht=>by have:=h.tidx t (List.mem_of_mem_take ht); omega)
 intro k hk
 have h2:=h1 k hk
 have h3:=h.tlen
 have h4:(f.tones.take m).length<=2:=by rw [List.length_take]; omega
 omega
def fG (b:List Int):FrameV:=dB b dC dC []
theorem aA8 (b:List Int) (hb:b.length=16) (hr:BigB b):fT (fG b)<=1073741824:=by
 have ht:TonesOk b []:=RH hb hr false
 have hw:=vH (g:=dC) hb ht ScB.zero
 have hl:(fG b).width.length=4:=gM _ _
 have h:∀ k,k < 4->bgt (fG b).width k<=1000:=by
  intro k hk
  obtain ⟨x,hx⟩:=aE hl hk
  rw [aD hx]
  exact (hw k x hx).2
 have:=h 0 (by omega)
 have:=h 1 (by omega)
 have:=h 2 (by omega)
 have:=h 3 (by omega)
 unfold fT
 have e:(fG b).tones.length=0:=rfl
 rw [e]
 omega
theorem LZ (b:List Int) (hb:b.length=16) (hr:BigB b):jQ b dC 1073741824 false=(fG b,0):=by
 have h:=aA8 b hb hr
 show dO b dC 1073741824 [] (l8 (cY b [])) (91+1) dC 0=_
 unfold dO
 simp only
 rw [if_pos (.inl h)]
 rfl
theorem OG {b:List Int} (hb:b.length=16):eL b dC=b:=by
 unfold eL
 rw [if_pos ScB.zero.ok]
 refine Eq.trans ?_ (eN hb).symm
 unfold cF
 apply List.map_congr_left
 intro k hk
 have h16:=List.mem_range.1 hk
 rw [if_pos h16]
 have:bgt dC (k / 4)=0:=by
  have h4:k / 4 < 4:=by omega
  generalize k / 4=j at *
  match j,h4 with
  | 0,_ | 1,_ | 2,_ | 3,_=>rfl
 rw [this]; rfl
theorem K6 {b:List Int} (hb:b.length=16):iF b dC=b:=by
 unfold iF
 rw [if_pos ScB.zero.ok]
 refine Eq.trans ?_ (eN hb).symm
 unfold bH
 apply List.map_congr_left
 intro k hk
 have h16:=List.mem_range.1 hk
 rw [if_pos h16]
 have:bgt dC (k / 4)=0:=by
  have h4:k / 4 < 4:=by omega
  generalize k / 4=j at *
  match j,h4 with
  | 0,_ | 1,_ | 2,_ | 3,_=>rfl
 rw [this]; show bgt b k*2 ^ 0=_; omega
theorem aCO {b:List Int} (hb:b.length=16):(fG b).q=b:=OG hb
theorem UD {b:List Int} (hb:b.length=16) (h:BdB 2147483648 b):cD (fG b)=b:=by
 unfold cD
 rw [aCO hb,show (fG b).scale=dC from rfl,show (fG b).tones=[] from rfl,K6 hb]
 show dZ b 16=b
 refine Eq.trans ?_ (eN hb).symm
 unfold dZ
 apply List.map_congr_left
 intro k hk
 have h16:=List.mem_range.1 hk
 rw [if_pos h16]
 have:=h k h16
 unfold rC
 rw [if_neg (by omega),if_neg (by omega)]
end
section
open Go.RowKit
def pJ (x:Int):Bool:=decide (cB (eA x)<=24)
end
section
open Go.Lib (hid)
open Go.RowKit
theorem dS {w:World} {g:Nat} {f:FrameV} {tv:Value} (h:f.Len) (hg:w.heap[g]? = some (.cells (aY f tv) 50 (0,0))) :
  (∀ j v,(f.gains.map (Value.int .i64))[j]? = some v->w.cell? ⟨g,0+j,none⟩=some v)/\w.cell? ⟨g,4,none⟩=some tv/\(∀ j v,(f.scale.map (Value.int .i64))[j]? = some v->w.cell? ⟨g,5+j,none⟩=some v) /\
  (∀ j v,(f.width.map (Value.int .i64))[j]? = some v->w.cell? ⟨g,9+j,none⟩=some v)/\∀ j v,(f.q.map (Value.int .i64))[j]? = some v->w.cell? ⟨g,13+j,none⟩=some v:=by
 have hc:∀ j,w.cell? ⟨g,j,none⟩=(aY f tv)[j]?:=fun j=>cell_of_row w g j _ _ _ hg
 exact ⟨fun j v hv=>(hc _).trans (zM h tv hv),(hc 4).trans (wC h tv),fun j v hv=>(hc _).trans (wA h tv hv),fun j v hv=>(hc _).trans (p8 h tv hv),fun j v hv=>(hc _).trans (aBp h tv hv)⟩
theorem RightF.len {f:FrameV} (h:RightF f):f.Len:=⟨h.gains.1,h.scale.1,h.wlen,h.qlen⟩
theorem KI (f:FrameV) (A:Option Addr) (c:Nat) (w:World) (h:RightF f) (hr:Row w w.heap.size A (aW f.tones)) :
  Calls Tryz.prog 160 #[.agg (aY f (.slice A f.tones.length c))] w fun e w'=>e=.returned (aT (cD f))/\Below w.heap.size w w':=by
 have hV:=hid (fun W=>SO f.q f.scale W h.qlen h.scale.1 (fun k x hx=>by
  have hk:k < 16:=by have:=(List.getElem?_eq_some_iff.1 hx).1; have:=h.qlen; omega
  have:=h.qbd hk
  rw [aD hx] at this
  omega) h.scale.ok)
 have hve:bH f.q f.scale 16=iF f.q f.scale:=by unfold iF; rw [if_pos h.scale.ok]
 rw [hve] at hV
 have HL:=h.len
 have Had:=hid (fun m=>h.added m)
 have Hti:=hid h.tidx
 have hfz:=fJ HL (.slice A f.tones.length c)
 have htl:=h.tlen
 have HPa:=hid (fun (W:World) (g:Nat) hg=>dS (w:=W) (g:=g) HL (tv:=.slice A f.tones.length c) hg)
 have hql:(f.q.map (Value.int .i64)).length=16:=by simp [HL.q]
 have hsl:(f.scale.map (Value.int .i64)).length=4:=by simp [HL.s]
 have HSp:=hid (show cD f=dZ (tF (iF f.q f.scale) f.tones) 16 from rfl)
 rw [HSp.out]
 have hvl:=AP f.q f.scale
 have hvone:=e9 (iF f.q f.scale)
 have hVb:=h.values
 clear HSp hve h
 obtain ⟨gg,ts,sc,wd,q⟩:=f
 simp only at *
 have Hr:=hid hr
 generalize hn:ts.length=n at *
 generalize iF q sc=V at *
 generalize aY ⟨gg,ts,sc,wd,q⟩ (.slice A n c)=fc at *
 have Hn:=hid hn
 unfold aT at hV ⊢
 generalize hqv:q.map (Value.int .i64)=qv at *
 generalize hsv:sc.map (Value.int .i64)=sv at *
 have HFq:=hid (show (Tryz.prog.info? 48).map (·.size)=some qv.length by rw [hql]; exact bS)
 have HFs:=hid (show (Tryz.prog.info? 45).map (·.size)=some sv.length by rw [hsl]; exact bY)
 have HFx:=hid (fun (x:List Int) (hx:x.length=16)=>(show (Tryz.prog.info? 48).map (·.size)=some (x.map (Value.int .i64)).toArray.size by rw [List.size_toArray,List.length_map,hx]; exact bS))
 have H2:=hid (wF w (.cells fc 50) (.cells (List.replicate 16 (Value.int .i64 0)).toArray 48))
 have P:=HPa.out _ _ H2.out.1
 have P1:=hid P.2.2.1
 have P2:=hid P.2.2.2.2
 have P3:=P.2.1
 have Hvl:=hid hvl
 have Hvone:=hid hvone
 have HVb:=hid hVb
 clear P hr hn hqv hsv hql hsl hvl hvone HPa hVb hfz HL
 go_enter Tryz.func160,Tryz.ntmps160
 go_wp2_with (first | (go_at_call 189; fail) | (refine aN rfl 48 (.tmp 8) rfl w.heap.size 13 rfl qv _ P2.out Tryz.underlying48 rfl HFq.out ?_) | (refine aN rfl 45 (.tmp 10) rfl w.heap.size 5 rfl sv _ P1.out Tryz.underlying45 rfl HFs.out ?_))
 refine (hV.out _).mono ?_
 rintro e w1 ⟨rfl,hb1⟩
 have K0:=hid (aF H2.out.1 hb1)
 have K1:=hid (aF H2.out.2.1 hb1)
 have KB:=hid (kC H2.out.2.2.2 (Nat.le_refl _) hb1)
 have hz:=Nat.le_trans (Nat.le_of_eq H2.out.2.2.1.symm) hb1.size
 have p4:=(hb1.cell (p:=⟨w.heap.size,4,none⟩) (hlt H2.out.1)).trans P3
 have p4':=bP p4 (.cells (V.map (Value.int .i64)).toArray 48)
 have HN:=hid (Blk.new w1 48 (V.map (Value.int .i64)))
 have K1':=hid (aF K1.out (aL w1 (.cells (V.map (Value.int .i64)).toArray 48)))
 have KB':=hid (kC KB.out (by omega) (aL w1 (.cells (V.map (Value.int .i64)).toArray 48)))
 have HVF:=hid (HFx.out V Hvl.out)
 have HVs:=hid (show (V.map (Value.int .i64)).toArray.size=16 by simp [Hvl.out])
 obtain ⟨va,hva⟩:∃ va,(V.map (Value.int .i64)).toArray=va:=⟨_,rfl⟩
 rw [hva] at HVF HVs Hvone p4' K1' KB' ⊢
 have HNa:=hid (show Blk (w1.alloc (.cells va 48)) w1.heap.size 48 (V.map (Value.int .i64)) by rw [<-hva]; exact HN.out)
 clear hb1 P1 P2 P3 p4 K0 K1 KB H2 HN hva
 go_wp2_with (first | (refine aA rfl 48 (.tmp 3) (.tmp 12) rfl w1.heap.size rfl _ _ va rfl (heap_alloc_new w1 _) HVF.out (by rw [HVs.out]; rfl) Hvone.out ?_; rw [World.setRow_alloc_new]))
 go_loopw [16] (fun i wr=>∃ (m:Nat),m<=n/\i=.int .i64 m/\Blk wr w1.heap.size 48 ((tF V (ts.take m)).map (Value.int .i64))/\Blk wr (w.heap.size+1) 48 (List.replicate 16 (.int .i64 0))/\Below w.heap.size w wr) (fun i _=>n - (intOf i).toNat)
 case atStart=>exact ⟨0,by omega,rfl,HNa.out,K1'.out,KB'.out⟩
 case round =>
  obtain ⟨m,hm,rfl,hB,hZ,hbel⟩:=hrel
  have HB:=hid hB
  have HZ:=hid hZ
  have Hbel:=hid hbel
  have hcl:=aA1 V (ts.take m)
  rw [Hvl.out] at hcl
  have hcb:=Had.out m
  have HO:=hid (fun (t:ToneV) (h:ts[m]? = some t)=>YC V h)
  have HLl:=hid (show m=n->tF V (ts.take m)=tF V ts from fun h=>by rw [List.take_of_length_le (by rw [Hn.out]; omega)])
  generalize tF V (ts.take m)=cur at *
  have Hcl:=hid hcl
  have Hcb:=hid hcb
  clear hB hZ hbel hcl hcb p4' HNa K1' KB'
  by_cases hlt:m < n
  ·obtain ⟨t,ht⟩:=aE (k:=m) Hn.out hlt
   have HS:=hid (HO.out t ht)
   have htv:=Hti.out t (List.mem_of_getElem? ht)
   obtain ⟨g,off,hA,hg,k0,k1⟩:=nL Hr.out ht
   have c0:=(Hbel.out.cell (p:=⟨g,off+m*2,none⟩) hg).trans k0
   have c1:=(Hbel.out.cell (p:=⟨g,off+m*2+1,none⟩) hg).trans k1
   subst hA
   obtain ⟨ix,vl⟩:=t
   obtain ⟨v1,v2,v3,v4⟩:=htv
   simp only at c0 c1 v1 v2 v3 v4
   clear ht k0 k1
   obtain ⟨j,rfl⟩:=Int.eq_ofNat_of_zero_le v1
   have hj:j < 16:=by omega
   obtain ⟨x,hx⟩:=aE (k:=j) Hcl.out hj
   have hxb:=Hcb.out.get Hcl.out hx
   have HS2:=hid (show kA cur ⟨(j:Int),vl⟩=cur.set j (x+vl) by
    unfold kA; simp only; rw [if_pos ⟨v1,v2⟩,Int.toNat_natCast,aD hx])
   have hwr:IntKind.i64.wrap (x+vl)=x+vl:=IntWalk.i64_in _ (by omega)
   have hcx:(cur.map (Value.int .i64)).toArray[j]? = some (.int .i64 x):=eP hx
   clear hx
   have t1:(0:Int)<=(j:Int):=v1
   have t2:(j:Int) < 16:=v2
   have hB1:=(HB.out.alloc (.cells #[.int .i64 (j:Int),.int .i64 vl] 169))
   have hN1:=Blk.new wr 169 [.int .i64 (j:Int),.int .i64 vl]
   have HB1:=hid hB1
   have HN1:=hid hN1
   have hx5:=dW hB1
   have hy5:=jY hN1
   clear hB1 hN1
   go_wp2_with fail
   refine aI 8 (by kernel_rfl) (by kernel_rfl) ?_
   simp only [List.take_succ_cons,List.take_zero,List.drop_succ_cons,List.drop_zero]
   repeat (go_big_quiet_step (fail))
   refine wpQuiet_nil ?_
   intro w5 hw'
   have hb5:=aK hw'
   have hB5:=HB1.out.below hb5 (by have:=HB.out.lt; simp; omega)
   have hZ5:=(HZ.out.alloc (.cells #[.int .i64 (j:Int),.int .i64 vl] 169)).below hb5 (by have:=HZ.out.lt; simp; omega)
   have HB5:=hid hB5
   have HZ5:=hid hZ5
   have Hb5:=hid (Hbel.out.trans (((aL wr _).trans (hb5.mono (by simp))).mono Hbel.out.size))
   have ce:w5.cell? ⟨w1.heap.size,j,none⟩=some (.int .i64 x):=by rw [hB5.cell]; simpa using hcx
   have fz:=hB5.frozen j
   clear hw' hb5 hx5 hy5 hB5 hZ5
   go_wp2
   go_roundw
   case rel =>
    refine ⟨m+1,by omega,by go_num,?_,HZ5.out.far (by simp; omega) _,Hb5.out.setCell (by simp; omega) _⟩
    rw [HS.out,HS2.out,List.map_set]
    exact HB5.out.set_ j _
   case measure=>simp [intOf]; omega
  ·have hmn:m=n:=by omega
   have hce:=HLl.out hmn
   have hcur:=hid hce
   have hH:=hid (show wr.heap[w1.heap.size]? = some (.cells (cur.map (Value.int .i64)).toArray 48 (0,0)) from HB.out)
   have hsz:(cur.map (Value.int .i64)).toArray.size=16:=by simp [Hcl.out]
   have HC:=hid (fun (k:Nat) (x:Int) (h:cur[k]? = some x)=>eP h)
   have HBl:=hid HB.out
   obtain ⟨cs,hcs⟩:∃ cs,(cur.map (Value.int .i64)).toArray=cs:=⟨_,rfl⟩
   rw [hcs] at hH hsz HC
   have HF:=hid (show (Tryz.prog.info? 48).map (·.size)=some cs.size by rw [hsz]; exact bS)
   clear hce hsz HO HLl hcs HB
   go_wp2_with (first | (refine aB rfl 48 (.tmp 3) rfl w1.heap.size rfl _ cs _ _ hH.out Tryz.underlying48 rfl HF.out ?_))
   go_loopw [38] (fun i wt=>∃ (m:Nat),m<=16/\i=.int .i64 m/\Blk wt w1.heap.size 48 ((dZ cur m).map (Value.int .i64))/\Blk wt (w.heap.size+1) 48 (List.replicate 16 (.int .i64 0))/\Below w.heap.size w wt) (fun i _=>16 - (intOf i).toNat)
   case atStart=>exact ⟨0,by omega,rfl,by rw [KU Hcl.out]; exact HBl.out,HZ.out,Hbel.out⟩
   case round =>
    obtain ⟨k,hk,rfl,hB,hZ,hbel⟩:=hrel
    have HB:=hid hB
    have HZ:=hid hZ
    have Hbel:=hid hbel
    clear hH HBl
    by_cases hlt:k < 16
    ·obtain ⟨x,hx⟩:=aE (k:=k) Hcl.out hlt
     have t1:(k:Int) < 16:=by omega
     have hix:=bR (P:=Tryz.prog) Tryz.underlying48 hlt (fun W=>by kernel_rfl) (fun W=>by kernel_rfl) (HC.out _ _ hx)
     have HCl:=hid (show ∀ W,Calls Tryz.prog 152 #[.int .i64 x,.int .i64 (-2147483648),.int .i64 2147483648] W fun e w'=>e=.returned (.int .i64 (rC x))/\W=w' from fun W=>(xH x (-2147483648) 2147483648 W).mono fun e w' ⟨he,hw⟩=>⟨he.trans (cE (by unfold rP rC; (repeat' split) <;> omega)),hw⟩)
     have HSt:=hid (show (dZ cur k).set k (rC x)=dZ cur (k+1) by rw [<-KT cur hlt,aD hx])
     have hc2:((dZ cur k).map (Value.int .i64))[k]? = some (.int .i64 x):=by rw [List.getElem?_map,NS cur hlt (Nat.le_refl k) hx]; rfl
     have ce:wr.cell? ⟨w1.heap.size,k,none⟩=some (.int .i64 x):=by rw [hB.cell]; exact hc2
     have fz:=hB.frozen k
     generalize rC x=lx at *
     clear hx hB hZ hbel
     go_wp2_with (go_at_call 152; refine (HCl.out _).mono ?_; rintro e w5 ⟨rfl,rfl⟩)
     go_roundw
     case rel =>
      refine ⟨k+1,by omega,by go_num,?_,HZ.out.far (by simp; omega) _,Hbel.out.setCell (by simp; omega) _⟩
      rw [<-HSt.out,List.map_set]
      exact HB.out.set_ k _
     case measure=>simp [intOf]; omega
    ·have hk16:k=16:=by omega
     subst hk16
     have t1:¬ (((16:Nat):Int) < 16):=by omega
     have hH:=hid (show wr.heap[w1.heap.size]? = some (.cells ((dZ cur 16).map (Value.int .i64)).toArray 48 (0,0)) from HB.out)
     have hH2:=hid (show wr.heap[w.heap.size+1]? = some (.cells (List.replicate 16 (Value.int .i64 0)).toArray 48 (0,0)) from HZ.out)
     have H1:=hid (e9 (dZ cur 16))
     have hsz2:((dZ cur 16).map (Value.int .i64)).toArray.size=16:=by simp [y9]
     obtain ⟨xs,hxs⟩:∃ xs,((dZ cur 16).map (Value.int .i64)).toArray=xs:=⟨_,rfl⟩
     rw [hxs] at hH H1 hsz2
     have HE:=hid hxs
     clear hxs
     have HF2:=hid (show (Tryz.prog.info? 48).map (·.size)=some xs.size by rw [hsz2]; exact bS)
     have Hsz:=hid hsz2
     clear hsz2 hB hZ
     go_wp2_with (first | (refine aB rfl 48 (.tmp 3) rfl w1.heap.size rfl _ xs _ _ hH.out Tryz.underlying48 rfl HF2.out ?_) | (refine aA rfl 48 (.tmp 2) (.tmp 47) rfl (w.heap.size+1) rfl _ _ xs rfl hH2.out HF2.out (by rw [Hsz.out]; simp) H1.out ?_))
     refine bodyPost_ret (v:=.agg xs) (results_cell_row Tryz.results160 _ _ (w.heap.size+1) 48 xs (0,0) _ rfl (bB wr _ _ _ xs hH2.out) Tryz.underlying48 rfl HF2.out) rfl ?_
     exact ⟨by rw [<-HE.out,hcur.out],aO Hbel.out _ (by omega) _⟩
end
section
def pL (v:Int) (k:Nat):Nat:=(v % 2 ^ k).toNat
theorem XM (v:Int) (k:Nat):pL v k < 2 ^ k:=by
 unfold pL
 have hp:(0:Int) < 2 ^ k:=Int.pow_pos (by decide)
 have h1:=Int.emod_nonneg v (b:=2 ^ k) (by omega)
 have h2:=Int.emod_lt_of_pos v hp
 have e:((2 ^ k:Nat):Int)=2 ^ k:=by rw [Int.natCast_pow]; rfl
 omega
def jF (l:List Int):List Nat:=(l.map fun g=>cI g.toNat 2).flatten
def RE (t:ToneV):List Nat:=cI t.idx.toNat 4 ++ cI (pL t.val 24) 24
def gZ (l:List ToneV):List Nat:=(l.map RE).flatten
def NF (s w:List Int) (i:Nat):List Nat:=cI (bgt s i).toNat 5 ++ cI (bgt w i).toNat 5
def kB (s w:List Int) (m:Nat):List Nat:=((List.range m).map (NF s w)).flatten
def Q5 (w q:List Int) (i:Nat):List Nat:=cI (pL (bgt q i) (bgt w (i / 4)).toNat) (bgt w (i / 4)).toNat
def kR (w q:List Int) (m:Nat):List Nat:=((List.range m).map (Q5 w q)).flatten
def tO:List Nat:=cI 1 2
def zT (f:FrameV):List Nat:=tO ++ jF f.gains
def qZ (f:FrameV):List Nat:=zT f ++ cI f.tones.length 2
def rA (f:FrameV):List Nat:=qZ f ++ gZ f.tones
def rB (f:FrameV):List Nat:=rA f ++ kB f.scale f.width 4
def jW (f:FrameV):List Nat:=rB f ++ kR f.width f.q 16
theorem zS {l:List Int} {m:Nat} {x:Int} (h:l[m]? = some x):jF (l.take (m+1))=jF (l.take m) ++ cI x.toNat 2:=by
 obtain ⟨hm,rfl⟩:=List.getElem?_eq_some_iff.1 h
 unfold jF
 rw [List.take_succ_eq_append_getElem hm,List.map_append,List.flatten_append]
 simp only [List.map_cons,List.map_nil,List.flatten_cons,List.flatten_nil,List.append_nil]
theorem AM {l:List ToneV} {m:Nat} {t:ToneV} (h:l[m]? = some t):gZ (l.take (m+1))=gZ (l.take m) ++ RE t:=by
 obtain ⟨hm,rfl⟩:=List.getElem?_eq_some_iff.1 h
 unfold gZ
 rw [List.take_succ_eq_append_getElem hm,List.map_append,List.flatten_append]
 simp only [List.map_cons,List.map_nil,List.flatten_cons,List.flatten_nil,List.append_nil]
theorem nQ (s w:List Int) (m:Nat):kB s w (m+1)=kB s w m ++ NF s w m:=by unfold kB; rw [List.range_succ]; simp
theorem oD (w q:List Int) (m:Nat):kR w q (m+1)=kR w q m ++ Q5 w q m:=by unfold kR; rw [List.range_succ]; simp
theorem qA:∀ (l:List Int),(jF l).length=2*l.length
 | []=>rfl
 | x :: r=>by
  have:=qA r
  unfold jF at this ⊢
  rw [List.map_cons,List.flatten_cons,List.length_append,this,cC,List.length_cons]; omega
theorem qR:∀ (l:List ToneV),(gZ l).length=28*l.length
 | []=>rfl
 | x :: r=>by
  have:=qR r
  unfold gZ at this ⊢
  rw [List.map_cons,List.flatten_cons,List.length_append,this]
  unfold RE
  rw [List.length_append,cC,cC,List.length_cons]; omega
theorem pU (s w:List Int):∀ m,(kB s w m).length=10*m
 | 0=>rfl
 | m+1=>by
  rw [nQ,List.length_append,pU s w m]
  unfold NF
  rw [List.length_append,cC,cC]; omega
def jK (w:List Int):Nat->Nat
 | 0=>0
 | m+1=>jK w m+(bgt w (m / 4)).toNat
theorem nK (w q:List Int):∀ m,(kR w q m).length=jK w m
 | 0=>rfl
 | m+1=>by
  rw [oD,List.length_append,nK w q m]
  unfold Q5
  rw [cC]; rfl
theorem uD (w:List Int) (m:Nat):jK w (m+1)=jK w m+(bgt w (m / 4)).toNat:=rfl
theorem AQ (w:List Int):jK w 16=4*((bgt w 0).toNat+(bgt w 1).toNat+(bgt w 2).toNat+(bgt w 3).toNat):=by
 simp [jK]
 omega
theorem uC (w:List Int):∀ r m,jK w m<=jK w (m+r)
 | 0,_=>Nat.le_refl _
 | r+1,m=>by
  have:=uC w r m
  rw [<-Nat.add_assoc,uD]
  omega
theorem xV {f:FrameV} (h:RightF f):(zT f).length=10:=by
 unfold zT tO
 rw [List.length_append,qA,cC,h.gains.1]
theorem xW {f:FrameV} (h:RightF f):(qZ f).length=12:=by
 unfold qZ
 rw [List.length_append,xV h,cC]
theorem xX {f:FrameV} (h:RightF f):(rA f).length=12+28*f.tones.length:=by
 unfold rA
 rw [List.length_append,xW h,qR]
theorem oZ {f:FrameV} (h:RightF f):(rB f).length=52+28*f.tones.length:=by
 unfold rB
 rw [List.length_append,xX h,pU]; omega
theorem uP {f:FrameV} (h:RightF f):((jW f).length:Int)=fT f:=by
 unfold jW
 rw [List.length_append,oZ h,nK,AQ]
 have:=h.width 0 (by omega)
 have:=h.width 1 (by omega)
 have:=h.width 2 (by omega)
 have:=h.width 3 (by omega)
 unfold fT
 omega
theorem OO {f:FrameV} (h:RightF f):fT f<=492:=by
 have:=h.width 0 (by omega)
 have:=h.width 1 (by omega)
 have:=h.width 2 (by omega)
 have:=h.width 3 (by omega)
 have:=h.tlen
 unfold fT
 omega
theorem Bin.flatten {l:List (List Nat)} (h:∀ x ∈ l,Bin x):Bin l.flatten:=fun b hb=>by
 obtain ⟨x,hx,hbx⟩:=List.mem_flatten.1 hb
 exact h x hx b hbx
theorem DL (f:FrameV):Bin (jW f):=by
 unfold jW rB rA qZ zT tO
 refine ((((((iG _ _).append ?_).append (iG _ _)).append ?_).append ?_).append ?_)
 ·exact Bin.flatten fun x hx=>by obtain ⟨g,_,rfl⟩:=List.mem_map.1 hx; exact iG _ _
 ·exact Bin.flatten fun x hx=>by obtain ⟨g,_,rfl⟩:=List.mem_map.1 hx; exact (iG _ _).append (iG _ _)
 ·exact Bin.flatten fun x hx=>by obtain ⟨g,_,rfl⟩:=List.mem_map.1 hx; exact (iG _ _).append (iG _ _)
 ·exact Bin.flatten fun x hx=>by obtain ⟨g,_,rfl⟩:=List.mem_map.1 hx; exact iG _ _
theorem aDi {v:Int} {k:Nat} (h1:0<=v) (h2:v < 2 ^ k):(pL v k:Int)=v:=by
 unfold pL
 rw [Int.emod_eq_of_lt h1 h2]; omega
theorem aCi {v:Int} {k:Nat} (h1:-(2 ^ k)<=v) (h2:v < 0):(pL v k:Int)=v+2 ^ k:=by
 unfold pL
 have:v % 2 ^ k=v+2 ^ k:=by
  rw [<-Int.add_emod_right]
  exact Int.emod_eq_of_lt (by omega) (by omega)
 rw [this]; omega
end
end Go.Proofs.YtnbbfblaipjcmaaGreatDoor
