/- ParI, ParJ, ParK, ParL, ParM, ParN, ParO, ParQ2, ParR, ParT. Conditions: as each theorem states. -/
import Derived.Test.YtnbbfblaipjcmaaGreatDoorPv41
import Derived.Test.YtnbbfblaipjcmaaGreatDoorPv47
import Derived.Test.YtnbbfblaipjcmaaGreatDoorPv43
import Derived.Test.YtnbbfblaipjcmaaGreatDoorPv38
set_option maxRecDepth 100000
set_option maxHeartbeats 16000000
namespace Go.Proofs.YtnbbfblaipjcmaaGreatDoor
section
open Go.RowKit Go.Lib
def F0:MetaV:=⟨⟨#[]⟩,0,0,0,false,0,0,0,0⟩
def NoBank (w:World) (v:Value):Prop:=v=.pointer none\/∃ g,v=.pointer (some ⟨g,0,none⟩)/\Blk w g 159 [.slice none 0 0,.int .i64 0,.slice none 0 0]
theorem NoBank.later {w w':World} {v:Value} (h:NoBank w v) (hb:Below w.heap.size w w'):NoBank w' v:=by
 rcases h with h | ⟨g,h1,h2⟩
 ·exact .inl h
 ·exact .inr ⟨g,h1,h2.below hb h2.lt⟩
theorem aC9 (v:Value) (w:World) (h:NoBank w v):Calls Tryz.prog 78 #[v] w fun e w'=>e=.returned (.bool true)/\w=w':=by
 rcases h with rfl | ⟨g,rfl,h⟩
 ·go_enter Tryz.func78,Tryz.ntmps78
  go_wp2
  go_ret
  exact ⟨rfl,rfl⟩
 ·have c1:=aG h 1
  go_enter Tryz.func78,Tryz.ntmps78
  go_wp2
  go_ret
  exact ⟨rfl,rfl⟩
theorem XC {w:World} {g size:Nat} {bs:List Nat} {D:List MetaV} (h:BankAt w g bs size D) (hs:0 < size):Calls Tryz.prog 78 #[.pointer (some ⟨g,0,none⟩)] w fun e w'=>e=.returned (.bool false)/\w=w':=by
 obtain ⟨Ai,ci,Ad,cd,h1,_⟩:=h.at_
 have c1:=aG (show Blk w g 159 [.slice Ai bs.length ci,.int .i64 size,.slice Ad D.length cd] from h1) 1
 have t1:((size:Int) == 0)=false:=beq_eq_false_iff_ne.2 (by omega)
 clear h1 h
 go_enter Tryz.func78,Tryz.ntmps78
 go_wp2
 go_ret
 exact ⟨rfl,rfl⟩
def fK (D:List MetaV) (i:Int):MetaV:=if i < 0\/(D.length:Int)<=i then F0 else D.getD i.toNat F0
def jJ (D:List MetaV) (i:Int):Int:=if i < 0\/(D.length:Int)<=i then 7 else 0
theorem aAK (v:Value) (i:Int) (w:World) (h:NoBank w v):Calls Tryz.prog 31 #[v,.int .i64 i] w fun e w'=>e=.returned (.tuple #[.agg F0.cells.toArray,.int .i64 16])/\Below w.heap.size w w':=by
 have HMf:=hid (show (Tryz.prog.info? 37).map (·.size)=some 9 by kernel_rfl)
 have HO1:=hid (o5 F0)
 have HNo:=hid (aC9 v (w.alloc (.cells #[.string ⟨#[]⟩,.int .i64 0,.int .i64 0,.int .i64 0,.bool false,.int .i64 0,.int .i64 0,.int .i64 0,.int .i64 0] 37)) (h.later (aL w _)))
 clear h
 go_enter Tryz.func31,Tryz.ntmps31
 go_wp2_with (first | (go_at_call 78; refine HNo.out.mono ?_; rintro e w2 ⟨rfl,rfl⟩) | (refine aA rfl 37 (.tmp 4) (.tmp 9) rfl w.heap.size rfl _ _ #[.string ⟨#[]⟩,.int .i64 0,.int .i64 0,.int .i64 0,.bool false,.int .i64 0,.int .i64 0,.int .i64 0,.int .i64 0] rfl (heap_alloc_new w _) HMf.out rfl HO1.out ?_; rw [World.setRow_alloc_new]))
 refine bodyPost_ret (v:=.tuple #[.agg #[.string ⟨#[]⟩,.int .i64 0,.int .i64 0,.int .i64 0,.bool false,.int .i64 0,.int .i64 0,.int .i64 0,.int .i64 0],.int .i64 16]) (aU Tryz.results31 _ _ w.heap.size 37 _ (0,0) _ _ rfl rfl (heap_alloc_new w _) Tryz.underlying37 rfl HMf.out) rfl ?_
 exact ⟨rfl,aL w _⟩
theorem ID (g size:Nat) (bs:List Nat) (D:List MetaV) (i:Int) (w:World) (h:BankAt w g bs size D) (hs:0 < size) (_:D.length<=1000000) :
  Calls Tryz.prog 31 #[.pointer (some ⟨g,0,none⟩),.int .i64 i] w fun e w'=>e=.returned (.tuple #[.agg (fK D i).cells.toArray,.int .i64 (jJ D i)])/\Below w.heap.size w w':=by
 have HMf:=hid (show (Tryz.prog.info? 37).map (·.size)=some 9 by kernel_rfl)
 obtain ⟨w1,hw1⟩:∃ w1,w.alloc (.cells #[.string ⟨#[]⟩,.int .i64 0,.int .i64 0,.int .i64 0,.bool false,.int .i64 0,.int .i64 0,.int .i64 0,.int .i64 0] 37)=w1:=⟨_,rfl⟩
 have B1:=hid (show Below w.heap.size w w1 by rw [<-hw1]; exact aL w _)
 have L1:=hid (show w1.heap[w.heap.size]? = some (.cells #[.string ⟨#[]⟩,.int .i64 0,.int .i64 0,.int .i64 0,.bool false,.int .i64 0,.int .i64 0,.int .i64 0,.int .i64 0] 37 (0,0)) by rw [<-hw1]; exact heap_alloc_new w _)
 have HNo:=hid (XC (h.later B1.out) hs)
 have hB1:=h.later B1.out
 obtain ⟨Ai,ci,Ad,cd,h1,_,h3,_⟩:=hB1.at_
 have c2:=aG (show Blk w1 g 159 [.slice Ai bs.length ci,.int .i64 size,.slice Ad D.length cd] from h1) 2
 have h3:=hid h3
 by_cases hi:i < 0\/(D.length:Int)<=i
 ·have HO1:=hid (o5 F0)
  have HI:=hid (show fK D i=F0 from if_pos hi)
  have HE:=hid (show jJ D i=7 from if_pos hi)
  obtain ⟨n,hn⟩:∃ n,D.length=n:=⟨_,rfl⟩
  rw [hn] at hi c2
  clear h1 hB1 h hn
  rcases Int.lt_or_le i 0 with q | q
  ·clear hi
   go_enter Tryz.func31,Tryz.ntmps31
   go_wp2_with (first | (go_at_call 78; refine HNo.out.mono ?_; rintro e w2 ⟨rfl,rfl⟩) | (refine aA rfl 37 (.tmp 4) (.tmp 22) rfl w.heap.size rfl _ _ #[.string ⟨#[]⟩,.int .i64 0,.int .i64 0,.int .i64 0,.bool false,.int .i64 0,.int .i64 0,.int .i64 0,.int .i64 0] rfl L1.out HMf.out rfl HO1.out ?_))
   refine bodyPost_ret (v:=.tuple #[.agg #[.string ⟨#[]⟩,.int .i64 0,.int .i64 0,.int .i64 0,.bool false,.int .i64 0,.int .i64 0,.int .i64 0,.int .i64 0],.int .i64 7]) (aU Tryz.results31 _ _ w.heap.size 37 _ (0,0) _ _ rfl rfl (bB w1 _ _ _ _ L1.out) Tryz.underlying37 rfl HMf.out) rfl ?_
   exact ⟨by rw [HI.out,HE.out]; rfl,below_setRow B1.out (Nat.le_refl _) _⟩
  ·have q0:¬ i < 0:=by omega
   have q1:(n:Int)<=i:=by omega
   clear hi q
   go_enter Tryz.func31,Tryz.ntmps31
   go_wp2_with (first | (go_at_call 78; refine HNo.out.mono ?_; rintro e w2 ⟨rfl,rfl⟩) | (refine aA rfl 37 (.tmp 4) (.tmp 22) rfl w.heap.size rfl _ _ #[.string ⟨#[]⟩,.int .i64 0,.int .i64 0,.int .i64 0,.bool false,.int .i64 0,.int .i64 0,.int .i64 0,.int .i64 0] rfl L1.out HMf.out rfl HO1.out ?_))
   refine bodyPost_ret (v:=.tuple #[.agg #[.string ⟨#[]⟩,.int .i64 0,.int .i64 0,.int .i64 0,.bool false,.int .i64 0,.int .i64 0,.int .i64 0,.int .i64 0],.int .i64 7]) (aU Tryz.results31 _ _ w.heap.size 37 _ (0,0) _ _ rfl rfl (bB w1 _ _ _ _ L1.out) Tryz.underlying37 rfl HMf.out) rfl ?_
   exact ⟨by rw [HI.out,HE.out]; rfl,below_setRow B1.out (Nat.le_refl _) _⟩
 ·obtain ⟨m,rfl⟩:=Int.eq_ofNat_of_zero_le (show 0<=i by omega)
  have hm:m < D.length:=by omega
  obtain ⟨x,hx⟩:∃ x,D[m]? = some x:=⟨_,List.getElem?_eq_getElem hm⟩
  have HI:=hid (show fK D m=x by
   unfold fK
   rw [if_neg hi,Int.toNat_natCast,List.getD_eq_getElem?_getD,hx]; rfl)
  have HE:=hid (show jJ D m=0 from if_neg hi)
  have HO1:=hid (o5 x)
  obtain ⟨b,o,rfl,hb,hc⟩:=gI h3.out hx
  have HX:=hid hc
  have HFl:=hid (show (Tryz.prog.info? 37).map (·.size)=some x.cells.length from HMf.out)
  have HFs:=hid (show (Tryz.prog.info? 37).map (·.size)=some x.cells.toArray.size from HMf.out)
  have HSz:=hid (show (9:Nat)=x.cells.toArray.size from rfl)
  obtain ⟨mc,hmc⟩:∃ mc,x.cells=mc:=⟨_,rfl⟩
  have HMc:=hid hmc
  rw [hmc] at HFl HFs HSz HX HO1
  obtain ⟨n,hn⟩:∃ n,D.length=n:=⟨_,rfl⟩
  rw [hn] at hm c2
  have q0:¬ (m:Int) < 0:=by omega
  have q1:¬ (n:Int)<=(m:Int):=by omega
  have q2:(m:Int) < (n:Int):=by omega
  have q3:(0:Int)<=(m:Int):=by omega
  clear h1 hB1 h hn hi hx hc hmc
  go_enter Tryz.func31,Tryz.ntmps31
  go_wp2_with (first | (go_at_call 78; refine HNo.out.mono ?_; rintro e w2 ⟨rfl,rfl⟩) | (refine aN rfl 37 (.tmp 28) rfl b (o+m*9) rfl mc _ HX.out Tryz.underlying37 rfl HFl.out ?_) | (refine aA rfl 37 (.tmp 4) (.tmp 29) rfl w.heap.size rfl _ _ mc.toArray rfl L1.out HFs.out HSz.out HO1.out ?_))
  refine bodyPost_ret (v:=.tuple #[.agg mc.toArray,.int .i64 0]) (aU Tryz.results31 _ _ w.heap.size 37 _ (0,0) _ _ rfl rfl (bB w1 _ _ _ _ L1.out) Tryz.underlying37 rfl HFs.out) rfl ?_
  exact ⟨by rw [HI.out,HE.out,HMc.out],below_setRow B1.out (Nat.le_refl _) _⟩
end
section
open Go.RowKit Go.Lib
def Byt (l:List Nat):Prop:=∀ x ∈ l,x < 256
theorem Z6 {L:List Nat} (h:Bin L):Byt (iM L):=fun x hx=>by
 unfold iM at hx
 obtain ⟨j,_,rfl⟩:=List.mem_map.1 hx
 exact IU h j
theorem DM (f:FrameV) (size:Nat):Byt (aP f size):=fun x hx=>by
 unfold aP at hx
 rcases List.mem_append.1 hx with h | h
 ·exact Z6 (DL f) x h
 ·obtain ⟨_,rfl⟩:=List.mem_replicate.1 h; omega
theorem pA (size v:Nat):Byt (cP size v):=fun x hx=>by
 unfold cP at hx
 obtain ⟨j,_,rfl⟩:=List.mem_map.1 hx
 exact Nat.mod_lt _ (by decide)
theorem JN (s:ByteArray):Byt (jD s):=fun x hx=>by
 unfold jD at hx
 obtain ⟨j,_,rfl⟩:=List.mem_map.1 hx
 exact j.toNat_lt
theorem JX {bs xs:List Nat} {o:Nat} (h:Byt bs) (hx:Byt xs):Byt (aS bs o xs):=fun x hm=>by
 unfold aS at hm
 rcases List.mem_append.1 hm with h1 | h1
 ·rcases List.mem_append.1 h1 with h2 | h2
  ·exact h x (List.mem_of_mem_take h2)
  ·exact hx x h2
 ·exact h x (List.mem_of_mem_drop h1)
def XO (l:List (Nat × List Nat)):Prop:=∀ p ∈ l,Byt p.2
theorem EE:∀ {l:List (Nat × List Nat)} {bs:List Nat},Byt bs->XO l->Byt (lays bs l)
 | [],_,h,_=>h
 | p :: r,bs,h,hl=>EE (l:=r) (JX h (hl p (by simp))) (fun q hq=>hl q (by simp [hq]))
theorem IV {first sums size ch k:Nat} {fs:List FrameV}:∀ i,XO (fV first sums size ch k fs i)
 | 0=>fun p hp=>by simp [fV] at hp
 | i+1=>fun p hp=>by
  unfold fV at hp
  rcases List.mem_append.1 hp with h | h
  ·exact IV i p h
  ·cases hx:fs[i]? with
   | none=>rw [hx] at h; simp at h
   | some x =>
    rw [hx] at h
    simp only [mY,List.mem_cons,List.not_mem_nil,or_false] at h
    rcases h with rfl | rfl
    ·exact DM _ _
    ·exact pA _ _
theorem JH {first sums size:Nat} {rows:List (List Int)}:∀ k,XO (eU first sums size rows k)
 | 0=>fun p hp=>by simp [eU] at hp
 | k+1=>fun p hp=>by
  unfold eU at hp
  rcases List.mem_append.1 hp with h | h
  ·exact JH k p h
  ·cases hx:rows[k]? with
   | none=>rw [hx] at h; simp at h
   | some d=>rw [hx] at h; exact IV _ p h
theorem ET {size:Nat} {SS:List SampV} {PM:List MetaV}:∀ m,XO (cK size SS PM m)
 | 0=>fun p hp=>by simp [cK] at hp
 | m+1=>fun p hp=>by
  unfold cK at hp
  rcases List.mem_append.1 hp with h | h
  ·exact ET m p h
  ·cases hs:SS[m]? with
   | none=>rw [hs] at h; simp at h
   | some s =>
    cases hx:PM[m]? with
    | none=>rw [hs,hx] at h; simp at h
    | some x=>rw [hs,hx] at h; exact JH _ p h
theorem T0 {o:Nat} {x:MetaV} (h:x.channels<=255):XO (dM o x):=fun p hp=>by
 have hc:Byt [x.channels.toNat]:=fun y hy=>by rw [List.mem_singleton] at hy; omega
 have h1:Byt [1]:=fun y hy=>by rw [List.mem_singleton] at hy; omega
 unfold dM at hp
 split at hp
 ·simp only [List.mem_append,List.mem_cons,List.not_mem_nil,or_false] at hp
  rcases hp with (rfl | rfl | rfl | rfl | rfl | rfl | rfl | rfl) | rfl
  all_goals first | exact JN _ | exact pA _ _ | exact hc | exact h1
 ·simp only [List.mem_append,List.mem_cons,List.not_mem_nil,or_false] at hp
  rcases hp with rfl | rfl | rfl | rfl | rfl | rfl | rfl | rfl
  all_goals first | exact JN _ | exact pA _ _ | exact hc | exact h1
theorem DI {L:List MetaV} (hL:∀ x ∈ L,x.channels<=255):∀ m,XO (cQ L m)
 | 0=>fun p hp=>by simp [cQ] at hp
 | m+1=>fun p hp=>by
  unfold cQ at hp
  rcases List.mem_append.1 hp with h | h
  ·exact DI hL m p h
  ·cases hx:L[m]? with
   | none=>rw [hx] at h; simp at h
   | some x=>rw [hx] at h; exact T0 (hL x (List.mem_of_getElem? hx)) p h
theorem MM {bs:List Nat} {L:List MetaV} {size:Nat} (hb:Byt bs) (hL:∀ x ∈ L,x.channels<=255) (hs:size<=255):Byt (bD bs L size):=by
 unfold bD
 refine JX (EE hb fun p hp=>?_) (pA _ _)
 rcases List.mem_append.1 hp with h | h
 ·unfold eT at h
  simp only [List.mem_cons,List.not_mem_nil,or_false] at h
  rcases h with rfl | rfl | rfl | rfl
  ·intro y hy; simp at hy; omega
  ·exact pA _ _
  ·exact pA _ _
  ·intro y hy; rw [List.mem_singleton] at hy; omega
 ·exact DI hL _ p h
theorem JQ {size:Nat} {SS:List SampV} (h:CanP size SS):Byt (bG size SS):=by
 rw [nG]
 refine MM (EE (fun x hx=>by obtain ⟨_,rfl⟩:=List.mem_replicate.1 hx; omega) (ET _)) (fun x hx=>(h.goodE x hx).1.ch.2) (by have:=h.hi; omega)
theorem vX {w:World} {g:Nat} {bs:List Nat} (h:BytesAt w g bs):Row w w.heap.size (some ⟨g,0,none⟩) (u8s bs):=fun i v hv=>by
 refine ⟨g,0,rfl,h.lt,?_⟩
 have:=aG h i
 rw [Nat.zero_add,this]
 exact hv
theorem KH {size:Nat} {SS:List SampV} (h:CanP size SS) (g:Nat) (w:World) (hb:BytesAt w g (bG size SS)) :
  Calls Tryz.prog 75 #[.slice (some ⟨g,0,none⟩) (bU size SS) (bU size SS)] w fun e w'=>∃ x,e=.returned (.tuple #[.pointer (some ⟨x,0,none⟩),.int .i64 0])/\w.heap.size<=x/\BankAt w' x (bG size SS) size (aH size SS)/\Below w.heap.size w w':=by
 have hl:=h.len_bd
 refine (XZ (bG size SS) (some ⟨g,0,none⟩) (bU size SS) (bU size SS) w (lL h) (Nat.le_refl _) (by omega) (by omega) (fun h=>by cases h) (vX hb) (JQ h)).mono ?_
 rintro e w' (⟨h1,_⟩ | ⟨_,x,he,hx,hB,hbel⟩)
 ·exact absurd (AF h) h1
 ·rw [EU h,JR h,JS h] at hB
  exact ⟨x,he,hx,hB,hbel⟩
end
section
open Go.RowKit Go.Lib
end
section
open Go.RowKit Go.Lib
theorem lO {P:Program} {fn:Func} {p q r:Tmp} (h:fn.results=#[.tmp p,.tmp q,.tmp r]) (tmps:Array Value) (w:World):(results fn tmps).run P w=.ok (.tuple #[tmps.getD p undef,tmps.getD q undef,tmps.getD r undef]) w:=by
 simp [results,h]
end
section
open Go.RowKit Go.Lib
structure FitB (bs:List Nat) (size:Nat) (D:List MetaV):Prop where
 lo:24<=size
 hi:size<=96
 many:D.length<=64
 long:bs.length<=4000000
 byt:Byt bs
 right:∀ x ∈ D,x.right=true
 lie:∀ x ∈ D,0<=x.sums/\x.sums+4*bC x<=x.first/\x.first+size*bC x<=bs.length
theorem FQ (n:Int):n<=upZ n 16:=by unfold upZ; omega
theorem aCn (n:Int):n<=upZ n 64:=by unfold upZ; omega
theorem US {size:Int} {L:List MetaV} (h1:24<=size) (hL:∀ x ∈ L,GenM x) (m:Nat):bL size L m<=bL size L (m+1):=by
 cases hx:L[m]? with
 | none =>
  have e:bL size L (m+1)=bL size L m:=by
   show (match L[m]? with | some x=>_ | none=>_)=_
   rw [hx]
  rw [e]; exact Int.le_refl _
 | some x =>
  rw [fU hx]
  have hF:=(hL x (List.mem_of_getElem? hx)).fr
  have h3:0<=size*bC x:=Int.mul_nonneg (by omega) hF.1
  have h4:=FQ (bL size L m+4*bC x)
  omega
theorem UR {size:Int} {L:List MetaV} (h1:24<=size) (hL:∀ x ∈ L,GenM x) {m n:Nat} (h:m<=n):bL size L m<=bL size L n:=by
 induction n with
 | zero =>
  have:m=0:=by omega
  subst this; exact Int.le_refl _
 | succ n ih =>
  by_cases hm:m=n+1
  ·subst hm; exact Int.le_refl _
  ·exact Int.le_trans (ih (by omega)) (US h1 hL n)
theorem UI {bs:List Nat} (h:eK bs=0) (hl:bs.length<=4000000) (hb:Byt bs):FitB bs (kQ bs) (eC bs (gX bs)):=by
 unfold eK at h
 split at h
 ·cases h
 split at h
 ·cases h
 split at h
 ·cases h
 rename_i hsz
 split at h
 ·cases h
 split at h
 ·cases h
 split at h
 ·cases h
 rename_i hdir
 split at h
 ·cases h
 rename_i hpl
 have hdir:kG bs (gX bs)=true:=by simpa using hdir
 have hright:=rR _ hdir
 unfold jR at hsz
 simp only [Bool.or_eq_true,decide_eq_true_eq,not_or] at hsz
 obtain ⟨h1,h2,h3,h4⟩:=hsz
 unfold pF at hpl
 simp only [Bool.or_eq_true,decide_eq_true_eq,Bool.not_eq_true',not_or,Bool.not_eq_false,Decidable.not_not] at hpl
 obtain ⟨h5,h6,h7⟩:=hpl
 have h7:=ND h7
 have hgen:∀ x ∈ eC bs (gX bs),GenM x:=fun x hx=>qB (hright x hx)
 refine ⟨by omega,by omega,by rw [lY]; omega,hl,hb,hright,fun x hx=>?_⟩
 obtain ⟨m,hm,rfl⟩:=List.mem_iff_getElem.1 hx
 have hm':m < gX bs:=by rw [lY] at hm; exact hm
 have hx0:(eC bs (gX bs))[m]? = some (eC bs (gX bs))[m]:=List.getElem?_eq_getElem hm
 have hg:=gV (size:=(kQ bs:Int)) hx0 (gX bs)
 rw [if_pos hm',h7,hx0] at hg
 injection hg with hg
 have hF:=(hgen _ hx).fr
 have hbd:=DS (size:=(kQ bs:Int)) (by omega) (by omega) hgen (by rw [lY]; omega) m
 have hmo:=UR (size:=(kQ bs:Int)) (by omega) hgen (show m+1<=gX bs by omega)
 rw [fU hx0] at hmo
 have hu:=aCn (bL (kQ bs) (eC bs (gX bs)) (gX bs))
 have hge:=FQ (bL (kQ bs) (eC bs (gX bs)) m+4*bC (eC bs (gX bs))[m])
 have hs:((eC bs (gX bs))[m]).sums=bL (kQ bs) (eC bs (gX bs)) m:=by
  have:=congrArg MetaV.sums hg; exact this
 have hf:((eC bs (gX bs))[m]).first=upZ (bL (kQ bs) (eC bs (gX bs)) m+4*bC (eC bs (gX bs))[m]) 16:=by
  have:=congrArg MetaV.first hg; exact this
 rw [hs,hf]
 omega
/-! The methods. -/
theorem IE {w:World} {g size:Nat} {bs:List Nat} {D:List MetaV} (h:BankAt w g bs size D) (hs:0 < size):Calls Tryz.prog 85 #[.pointer (some ⟨g,0,none⟩)] w fun e w'=>e=.returned (.int .i64 size)/\w=w':=by
 have HN:=Lib.hid (XC h hs)
 obtain ⟨Ai,ci,Ad,cd,h1,_⟩:=h.at_
 have c1:=aG (show Blk w g 159 [.slice Ai bs.length ci,.int .i64 size,.slice Ad D.length cd] from h1) 1
 clear h1 h
 go_enter Tryz.func85,Tryz.ntmps85
 go_wp2_with (go_at_call 78; refine HN.out.mono ?_; rintro e w2 ⟨rfl,rfl⟩)
 go_ret
 exact ⟨rfl,rfl⟩
end
section
open Go.RowKit Go.Lib
def bW (D:List MetaV) (i c b:Int):Int:=if jJ D i ≠ 0 then 7 else if c < 0\/(fK D i).channels<=c\/b < 0\/dL (fK D i).length<=b then 5 else 0
def p9 (D:List MetaV) (i c b:Int):Int:=b*(fK D i).channels+c
def bN (D:List MetaV) (size:Nat) (i c b:Int):Int:=if bW D i c b=0 then (fK D i).first+p9 D i c b*size else 0
def fB (D:List MetaV) (bs:List Nat) (i c b:Int):Nat:=if bW D i c b=0 then bM bs ((fK D i).sums+4*p9 D i c b).toNat 4 else 0
theorem JM {D:List MetaV} {i:Int} (h:jJ D i=0):fK D i ∈ D:=by
 unfold jJ at h
 split at h
 ·cases h
 ·rename_i hi
  unfold fK
  rw [if_neg hi]
  have hm:i.toNat < D.length:=by omega
  rw [List.getD_eq_getElem?_getD,List.getElem?_eq_getElem hm]
  exact List.getElem_mem hm
theorem ZP (D:List MetaV) (i:Int):jJ D i=0\/jJ D i=7:=by unfold jJ; split <;> simp
theorem vJ {bs:List Nat} {size:Nat} {D:List MetaV} (h:FitB bs size D) {i c b:Int} (hE:bW D i c b=0) :
  ∃ x ∈ D,fK D i=x/\∃ (ch cn bn S F q P:Nat),x.channels=ch/\c=cn/\b=bn/\x.sums=S/\x.first=F/\(bn:Int)*(ch:Int)=((bn*ch:Nat):Int)/\bn*ch+cn=q/\q*size=P/\(q:Int)*(size:Int)=(P:Int)/\S+4*q+4<=F/\F+P+size<=bs.length/\(0<=c/\c < x.channels)/\0<=b/\b < dL x.length/\bn*ch<=1000000:=by
 unfold bW at hE
 split at hE
 ·cases hE
 split at hE
 ·cases hE
 rename_i h1 h2
 have h1:jJ D i=0:=by simpa using h1
 have hx:=JM h1
 obtain ⟨x,hxe⟩:∃ x,fK D i=x:=⟨_,rfl⟩
 rw [hxe] at h2 hx
 obtain ⟨r1,r2,r3,r4,r5⟩:=s7 (h.right x hx)
 obtain ⟨l1,l2,l3⟩:=h.lie x hx
 obtain ⟨ch,hch⟩:=Int.eq_ofNat_of_zero_le (show 0<=x.channels by omega)
 obtain ⟨cn,hcn⟩:=Int.eq_ofNat_of_zero_le (show 0<=c by omega)
 obtain ⟨bn,hbn⟩:=Int.eq_ofNat_of_zero_le (show 0<=b by omega)
 obtain ⟨S,hS⟩:=Int.eq_ofNat_of_zero_le (show 0<=x.sums by omega)
 have hF0:0<=bC x:=by
  have:=(qB (h.right x hx)).fr
  omega
 obtain ⟨F,hF⟩:=Int.eq_ofNat_of_zero_le (show 0<=x.first by omega)
 have hcz:0<=dL x.length/\dL x.length<=65536:=by unfold dL; split <;> omega
 obtain ⟨cz,hczn⟩:=Int.eq_ofNat_of_zero_le hcz.1
 have hfr:bC x=((cz*ch:Nat):Int):=by
  unfold bC
  rw [hczn,hch]
  push_cast; rfl
 have hq:bn*ch+cn+1<=cz*ch:=by
  have:=Nat.mul_le_mul_right ch (show bn+1<=cz by omega)
  rw [Nat.succ_mul] at this
  omega
 have hP:(bn*ch+cn)*size+size<=size*(cz*ch):=by
  have:=Nat.mul_le_mul_right size hq
  rw [Nat.succ_mul,Nat.mul_comm (cz*ch) size] at this
  exact this
 have e1:(size:Int)*((cz*ch:Nat):Int)=((size*(cz*ch):Nat):Int):=by push_cast; rfl
 rw [hfr,hS,hF] at l2
 rw [hfr,hF,e1] at l3
 have hbc:bn*ch<=1000000:=by
  have hc2:ch<=2:=by omega
  have:=Nat.mul_le_mul (show bn<=65536 by omega) hc2
  omega
 refine ⟨x,hx,hxe,ch,cn,bn,S,F,bn*ch+cn,(bn*ch+cn)*size,hch,hcn,hbn,hS,hF,by push_cast; rfl,rfl,rfl,by push_cast; rfl,?_,?_,by omega,by omega,by omega,hbc⟩
 ·generalize cz*ch=T at *
  generalize bn*ch+cn=q at *
  omega
 ·generalize size*(cz*ch)=T at *
  generalize (bn*ch+cn)*size=P at *
  omega
def sG (w:World) (D:List MetaV) (bs:List Nat) (size:Nat) (i c b:Int) (e:Ending) (w':World):Prop :=
 e=.returned (.tuple #[.int .i64 (bN D size i c b),.int .u32 (fB D bs i c b:Nat),.int .i64 (bW D i c b)])/\Below w.heap.size w w'
theorem IL (g size:Nat) (bs:List Nat) (D:List MetaV) (i c b:Int) (w:World) (h:BankAt w g bs size D) (hf:FitB bs size D) :
  Calls Tryz.prog 35 #[.pointer (some ⟨g,0,none⟩),.int .i64 i,.int .i64 c,.int .i64 b] w (sG w D bs size i c b):=by
 have HMe:=hid (ID g size bs D i w h (by have:=hf.lo; omega) (by have:=hf.many; omega))
 have HMf:=hid (show (Tryz.prog.info? 37).map (·.size)=some 9 by kernel_rfl)
 have HO1:=hid (o5 (fK D i))
 have Hh:=hid h
 have Hf:=hid hf
 unfold sG
 by_cases hE:jJ D i=0
 rotate_left
 ·have hE7:jJ D i=7:=(ZP D i).resolve_left hE
  have hW:bW D i c b=7:=if_pos hE
  have hA:bN D size i c b=0:=by unfold bN; rw [hW]; rfl
  have hS:fB D bs i c b=0:=by unfold fB; rw [hW]; rfl
  rw [hW,hA,hS]
  rw [hE7] at HMe
  generalize fK D i=x at *
  obtain ⟨nm,len,rate,ch,lp,f,t,sums,first⟩:=x
  clear hE hE7 hW hA hS h hf
  go_enter Tryz.func35,Tryz.ntmps35
  go_wp2_with (go_at_call 31; fail)
  refine HMe.out.mono ?_
  rintro e w2 ⟨rfl,hb2⟩
  go_wp2_with (refine aA rfl 37 (.tmp 11) (.tmp 18) rfl w2.heap.size rfl _ _ #[.string nm,.int .i64 len,.int .i64 rate,.int .i64 ch,.bool lp,.int .i64 f,.int .i64 t,.int .i64 sums,.int .i64 first] rfl (heap_alloc_new w2 _) HMf.out rfl HO1.out ?_; rw [World.setRow_alloc_new])
  refine bodyPost_ret (lO Tryz.results35 _ _) rfl ?_
  exact ⟨rfl,aC hb2 (aL w2 _)⟩
 rw [hE] at HMe
 by_cases hbad:c < 0\/(fK D i).channels<=c\/b < 0\/dL (fK D i).length<=b
 ·have hW:bW D i c b=5:=by unfold bW; rw [if_neg (by simp [hE]),if_pos hbad]
  have hA:bN D size i c b=0:=by unfold bN; rw [hW]; rfl
  have hS:fB D bs i c b=0:=by unfold fB; rw [hW]; rfl
  rw [hW,hA,hS]
  obtain ⟨r1,_,r3,_⟩:=s7 (hf.right _ (JM hE))
  have HCt:=hid (fun W=>uE (fK D i).length W (by omega))
  generalize fK D i=x at *
  obtain ⟨nm,len,rate,ch,lp,f,t,sums,first⟩:=x
  clear hE hW hA hS h hf
  simp only at hbad
  generalize dL len=cz at *
  by_cases q1:c < 0
  ·clear hbad
   go_enter Tryz.func35,Tryz.ntmps35
   go_wp2_with (go_at_call 31; fail)
   refine HMe.out.mono ?_
   rintro e w2 ⟨rfl,hb2⟩
   go_wp2_with (refine aA rfl 37 (.tmp 11) (.tmp 18) rfl w2.heap.size rfl _ _ #[.string nm,.int .i64 len,.int .i64 rate,.int .i64 ch,.bool lp,.int .i64 f,.int .i64 t,.int .i64 sums,.int .i64 first] rfl (heap_alloc_new w2 _) HMf.out rfl HO1.out ?_; rw [World.setRow_alloc_new])
   refine bodyPost_ret (lO Tryz.results35 _ _) rfl ?_
   exact ⟨rfl,aC hb2 (aL w2 _)⟩
  by_cases q2:ch<=c
  ·clear hbad
   go_enter Tryz.func35,Tryz.ntmps35
   go_wp2_with (go_at_call 31; fail)
   refine HMe.out.mono ?_
   rintro e w2 ⟨rfl,hb2⟩
   go_wp2_with (refine aA rfl 37 (.tmp 11) (.tmp 18) rfl w2.heap.size rfl _ _ #[.string nm,.int .i64 len,.int .i64 rate,.int .i64 ch,.bool lp,.int .i64 f,.int .i64 t,.int .i64 sums,.int .i64 first] rfl (heap_alloc_new w2 _) HMf.out rfl HO1.out ?_; rw [World.setRow_alloc_new])
   refine bodyPost_ret (lO Tryz.results35 _ _) rfl ?_
   exact ⟨rfl,aC hb2 (aL w2 _)⟩
  by_cases q3:b < 0
  ·clear hbad
   go_enter Tryz.func35,Tryz.ntmps35
   go_wp2_with (go_at_call 31; fail)
   refine HMe.out.mono ?_
   rintro e w2 ⟨rfl,hb2⟩
   go_wp2_with (refine aA rfl 37 (.tmp 11) (.tmp 18) rfl w2.heap.size rfl _ _ #[.string nm,.int .i64 len,.int .i64 rate,.int .i64 ch,.bool lp,.int .i64 f,.int .i64 t,.int .i64 sums,.int .i64 first] rfl (heap_alloc_new w2 _) HMf.out rfl HO1.out ?_; rw [World.setRow_alloc_new])
   refine bodyPost_ret (lO Tryz.results35 _ _) rfl ?_
   exact ⟨rfl,aC hb2 (aL w2 _)⟩
  have q4:cz<=b:=by omega
  clear hbad
  go_enter Tryz.func35,Tryz.ntmps35
  go_wp2_with (go_at_call 31; fail)
  refine HMe.out.mono ?_
  rintro e w2 ⟨rfl,hb2⟩
  go_wp2_with (first | (refine aA rfl 37 (.tmp 11) (.tmp 18) rfl w2.heap.size rfl _ _ #[.string nm,.int .i64 len,.int .i64 rate,.int .i64 ch,.bool lp,.int .i64 f,.int .i64 t,.int .i64 sums,.int .i64 first] rfl (heap_alloc_new w2 _) HMf.out rfl HO1.out ?_; rw [World.setRow_alloc_new]) | (go_at_call 90; refine (HCt.out _).mono ?_; rintro e w3 ⟨rfl,rfl⟩))
  refine bodyPost_ret (lO Tryz.results35 _ _) rfl ?_
  exact ⟨rfl,aC hb2 (aL w2 _)⟩
 ·have hW:bW D i c b=0:=by unfold bW; rw [if_neg (by simp [hE]),if_neg hbad]
  obtain ⟨x,hxD,hxe,chN,cn,bn,S,F,q,P,e1,rfl,rfl,e2,e3,hm1,hq,hP,hm2,l1,l2,⟨c0,c1⟩,b0,b1,hbc⟩:=vJ hf hW
  have HA:=hid (show bN D size i cn bn=((F+P:Nat):Int) by
   unfold bN p9
   rw [if_pos hW,hxe,e1,e3,hm1,<-Int.natCast_add,hq,hm2]
   push_cast; rfl)
  obtain ⟨V,hV⟩:∃ V,bM bs (S+4*q) 4=V:=⟨_,rfl⟩
  have HS:=hid (show fB D bs i cn bn=V by
   unfold fB p9
   rw [if_pos hW,hxe,e1,e2,hm1,<-Int.natCast_add,hq,<-hV]
   congr 1)
  have hVb:V < 4294967296:=by rw [<-hV]; exact sZ hf.byt _ 4
  obtain ⟨r1,_,r3,_⟩:=s7 (hf.right _ hxD)
  have HCt:=hid (fun W=>uE x.length W (by omega))
  have hln:=hf.long
  have hlo:=hf.lo
  have hhi:=hf.hi
  obtain ⟨Ai,ci,Ad,cd,h1,h2,_,h4,_⟩:=h.at_
  have HRd:=hid (fun W (hW:Below w.heap.size w W)=>(show Calls Tryz.prog 93 #[.slice Ai bs.length ci,.int .i64 ((S:Int)+4*(q:Int)),.int .i64 4] W (fun e w'=>e=.returned (.int .i64 (V:Nat))/\W=w') from by
   have:=E0 bs Ai bs.length ci (S+4*q) 4 W rfl (h2.later hW) hf.byt (by omega) (by omega) (by omega)
   rw [hV,show ((S+4*q:Nat):Int)=(S:Int)+4*(q:Int) by push_cast; rfl] at this
   exact this))
  have HXc:=hid (fun W (hW:Below w.heap.size w W) j v (hv:([.slice Ai bs.length ci,.int .i64 size,.slice Ad D.length cd]:List Value)[j]? = some v)=>(show W.cell? ⟨g,j,none⟩=some v from by
   have hB:Blk w g 159 [.slice Ai bs.length ci,.int .i64 size,.slice Ad D.length cd]:=h1
   rw [aG (hB.below hW hB.lt) j]; exact hv))
  rw [HA.out,HS.out,hW]
  rw [hxe] at HMe HO1
  clear hbad hE hW hxe hf h h1 h2 h4 hxD hV HA HS Hf Hh
  obtain ⟨nm,len,rate,ch,lp,f,t,sums,first⟩:=x
  simp only at e1 e2 e3 c1 b1 r1 r3 HCt
  subst e1 e2 e3
  generalize dL len=cz at *
  generalize bs.length=n at *
  generalize D.length=dn at *
  obtain ⟨Q0,hQ0⟩:∃ Q0,bn*chN=Q0:=⟨_,rfl⟩
  rw [hQ0] at hm1 hq hbc
  have hqi:(Q0:Int)+(cn:Int)=(q:Int):=by omega
  have HFP:=hid (show (F:Int)+(P:Int)=((F+P:Nat):Int) by push_cast; rfl)
  have hwV:IntKind.u32.wrap (V:Int)=(V:Int):=by rw [IntKind.wrap_u32]; omega
  have k1:¬ (cn:Int) < 0:=by omega
  have k2:¬ (chN:Int)<=(cn:Int):=by omega
  have k3:¬ (bn:Int) < 0:=by omega
  have k4:¬ cz<=(bn:Int):=by omega
  clear hQ0 hq hP
  go_enter Tryz.func35,Tryz.ntmps35
  go_wp2_with (go_at_call 31; fail)
  refine HMe.out.mono ?_
  rintro e w2 ⟨rfl,hb2⟩
  have B2:=hid (aC hb2 (aL w2 (.cells #[.string nm,.int .i64 len,.int .i64 rate,.int .i64 chN,.bool lp,.int .i64 f,.int .i64 t,.int .i64 S,.int .i64 F] 37)))
  clear hb2
  go_wp2_with (first | (refine aA rfl 37 (.tmp 11) (.tmp 18) rfl w2.heap.size rfl _ _ #[.string nm,.int .i64 len,.int .i64 rate,.int .i64 chN,.bool lp,.int .i64 f,.int .i64 t,.int .i64 S,.int .i64 F] rfl (heap_alloc_new w2 _) HMf.out rfl HO1.out ?_; rw [World.setRow_alloc_new]) | (go_at_call 90; refine (HCt.out _).mono ?_; rintro e w3 ⟨rfl,rfl⟩))
  obtain ⟨w3,hw3⟩:∃ w3,w2.alloc (.cells #[.string nm,.int .i64 len,.int .i64 rate,.int .i64 chN,.bool lp,.int .i64 f,.int .i64 t,.int .i64 S,.int .i64 F] 37)=w3:=⟨_,rfl⟩
  rw [hw3] at B2 ⊢
  have M3:=hid (show Blk w3 w2.heap.size 37 [.string nm,.int .i64 len,.int .i64 rate,.int .i64 chN,.bool lp,.int .i64 f,.int .i64 t,.int .i64 S,.int .i64 F] by rw [<-hw3]; exact Blk.new w2 _ [.string nm,.int .i64 len,.int .i64 rate,.int .i64 chN,.bool lp,.int .i64 f,.int .i64 t,.int .i64 S,.int .i64 F])
  clear hw3
  have m7:=fun (z:GW w3)=>(show z.1.cell? ⟨w2.heap.size,7,none⟩=some (.int .i64 S) from aG (M3.out.below z.2 M3.out.lt) 7)
  have m8:=fun (z:GW w3)=>(show z.1.cell? ⟨w2.heap.size,8,none⟩=some (.int .i64 F) from aG (M3.out.below z.2 M3.out.lt) 8)
  have x0:=fun (z:GW w3)=>HXc.out z.1 (aC B2.out z.2) 0 _ rfl
  have x1:=fun (z:GW w3)=>HXc.out z.1 (aC B2.out z.2) 1 _ rfl
  have HR3:=hid (fun (z:GW w3)=>HRd.out z.1 (aC B2.out z.2))
  refine aR (by kernel_rfl) (by kernel_rfl) ?_
  repeat (go_big_quiet_step ((go_at_call 93; exact cR (HR3.out _))))
  refine wpQuiet_nil ?_
  intro w5 hw'
  have B5:=hid (aK hw')
  clear hw' m7 m8 x0 x1
  go_wp2
  refine bodyPost_ret (lO Tryz.results35 _ _) rfl ?_
  exact ⟨by rw [<-HFP.out]; rfl,aC B2.out B5.out⟩
end
section
open Go.RowKit Go.Lib
end
section
open Go.RowKit Go.Lib
theorem PJ {i V:Nat}:∀ {W:List (Nat × List Nat)} {v:Nat},(∀ p ∈ W,p.1<=i/\i < p.1+p.2.length->p.2.getD (i - p.1) 0=V)->(∃ p ∈ W,p.1<=i/\i < p.1+p.2.length)->fD W i v=V
 | [],_,_,he=>by obtain ⟨p,hp,_⟩:=he; simp at hp
 | p :: r,v,h,he=>by
  show fD r i _=V
  by_cases hr:∃ q ∈ r,q.1<=i/\i < q.1+q.2.length
  ·exact PJ (fun q hq=>h q (by simp [hq])) hr
  ·rw [l7 (fun q hq=>by
    have:¬ (q.1<=i/\i < q.1+q.2.length):=fun hc=>hr ⟨q,hq,hc⟩
    omega)]
   obtain ⟨q,hq,hc⟩:=he
   rcases List.mem_cons.1 hq with rfl | hq
   ·rw [if_pos hc]; exact h q (by simp) hc
   ·exact absurd ⟨q,hq,hc⟩ hr
structure FrW (first sums size:Nat) (rows:List (List Int)) (p:Nat × List Nat) (k i:Nat) (d:List Int) (x:FrameV):Prop where
 hk:k < rows.length
 row:rows[k]? = some d
 hi:i < aV d.length
 fr:(cO d size)[i]? = some x
 eq:p=(first+(i*rows.length+k)*size,aP x size)\/p=(sums+4*(i*rows.length+k),cP 4 (lD (aP x size)).toNat)
theorem JL {first sums size ch k:Nat} {fs:List FrameV} {p:Nat × List Nat}:∀ n,p ∈ fV first sums size ch k fs n->∃ i x,i < n/\fs[i]? = some x/\p ∈ mY first sums size (i*ch+k) x
 | 0,h=>by simp [fV] at h
 | n+1,h=>by
  unfold fV at h
  rcases List.mem_append.1 h with h | h
  ·obtain ⟨i,x,h1,h2,h3⟩:=JL n h
   exact ⟨i,x,by omega,h2,h3⟩
  ·cases hx:fs[n]? with
   | none=>rw [hx] at h; simp at h
   | some x=>rw [hx] at h; exact ⟨n,x,by omega,hx,h⟩
theorem sU {first sums size:Nat} {rows:List (List Int)} {p:Nat × List Nat}:∀ K,K<=rows.length->p ∈ eU first sums size rows K->∃ k i d x,FrW first sums size rows p k i d x
 | 0,_,h=>by simp [eU] at h
 | K+1,hK,h=>by
  unfold eU at h
  rcases List.mem_append.1 h with h | h
  ·exact sU K (by omega) h
  ·cases hd:rows[K]? with
   | none=>rw [hd] at h; simp at h
   | some d =>
    rw [hd] at h
    obtain ⟨i,x,h1,h2,h3⟩:=JL _ h
    simp only [mY,List.mem_cons,List.not_mem_nil,or_false] at h3
    exact ⟨K,i,d,x,by omega,hd,h1,h2,h3⟩
theorem IW {first sums size ch k:Nat} {fs:List FrameV} {i:Nat} {x:FrameV} {p:Nat × List Nat} (hx:fs[i]? = some x) (hp:p ∈ mY first sums size (i*ch+k) x):∀ n,i < n->p ∈ fV first sums size ch k fs n
 | 0,h=>by omega
 | n+1,h=>by
  unfold fV
  by_cases hi:i=n
  ·subst hi
   rw [hx]
   exact List.mem_append_right _ hp
  ·exact List.mem_append_left _ (IW hx hp n (by omega))
theorem yB {first sums size:Nat} {rows:List (List Int)} {p:Nat × List Nat} {k i:Nat} {d:List Int} {x:FrameV} (h:FrW first sums size rows p k i d x):∀ K,k < K->p ∈ eU first sums size rows K
 | 0,hK=>by omega
 | K+1,hK=>by
  unfold eU
  by_cases hk:k=K
  ·subst hk
   rw [h.row]
   refine List.mem_append_right _ (IW h.fr ?_ _ h.hi)
   simp only [mY,List.mem_cons,List.not_mem_nil,or_false]
   exact h.eq
  ·exact List.mem_append_left _ (yB h K (by omega))
theorem aDD {R i k i' k':Nat} (hk:k < R) (hk':k' < R) (h:i*R+k=i'*R+k'):i=i'/\k=k':=by
 have h1:(i*R+k) / R=i:=by rw [Nat.mul_comm,Nat.mul_add_div (by omega),Nat.div_eq_of_lt hk]; omega
 have h2:(i'*R+k') / R=i':=by rw [Nat.mul_comm,Nat.mul_add_div (by omega),Nat.div_eq_of_lt hk']; omega
 have:i=i':=by rw [<-h1,<-h2,h]
 subst this
 exact ⟨rfl,by omega⟩
section
variable {size : Nat} {SS : List SampV}
theorem qE {PM:List MetaV} {p:Nat × List Nat}:∀ M,p ∈ cK size SS PM M->∃ m s x,m < M/\SS[m]? = some s/\PM[m]? = some x/\p ∈ eU x.first.toNat x.sums.toNat size s.rows s.rows.length
 | 0,h=>by simp [cK] at h
 | M+1,h=>by
  unfold cK at h
  rcases List.mem_append.1 h with h | h
  ·obtain ⟨m,s,x,h1,h2⟩:=qE M h
   exact ⟨m,s,x,by omega,h2⟩
  ·cases hs:SS[M]? with
   | none=>rw [hs] at h; simp at h
   | some s =>
    cases hx:PM[M]? with
    | none=>rw [hs,hx] at h; simp at h
    | some x=>rw [hs,hx] at h; exact ⟨M,s,x,by omega,hs,hx,h⟩
theorem u7 {PM:List MetaV} {p:Nat × List Nat} {m:Nat} {s:SampV} {x:MetaV} (hs:SS[m]? = some s) (hx:PM[m]? = some x) (hp:p ∈ eU x.first.toNat x.sums.toNat size s.rows s.rows.length):∀ M,m < M->p ∈ cK size SS PM M
 | 0,h=>by omega
 | M+1,h=>by
  unfold cK
  by_cases hm:m=M
  ·subst hm
   rw [hs,hx]
   exact List.mem_append_right _ hp
  ·exact List.mem_append_left _ (u7 hs hx hp M (by omega))
structure SPlace (size:Nat) (SS:List SampV) (m:Nat) (s:SampV) (F S cnt R A B:Nat):Prop where
 fst:((aH size SS)[m]?).map (·.first)=some (F:Int)
 sum:((aH size SS)[m]?).map (·.sums)=some (S:Int)
 hcnt:aV (dV s.rows)=cnt
 hR:s.rows.length=R
 ha:bL size (SS.map aM) m=A
 hb:bL size (SS.map aM) (m+1)=B
 lo:A=S
 mid:S+4*(cnt*R)<=F
 up:F+size*(cnt*R)=B
theorem CanP.place (h:CanP size SS) {m:Nat} {s:SampV} (hs:SS[m]? = some s):∃ F S cnt R A B,SPlace size SS m s F S cnt R A B:=by
 have hm:=(List.getElem?_eq_some_iff.1 hs).1
 have hx:(SS.map aM)[m]? = some (aM s):=by rw [List.getElem?_map,hs]; rfl
 have hb:=h.bd m (by omega)
 have hb2:=h.bd (m+1) (by omega)
 have hsu:=fU (size:=(size:Int)) hx
 have hfr:=zQ s
 rw [hfr] at hsu
 have hge:=FQ (bL size (SS.map aM) m+4*bC (aM s))
 rw [hfr] at hge
 obtain ⟨A,hA⟩:=Int.eq_ofNat_of_zero_le hb.1
 obtain ⟨B,hB⟩:=Int.eq_ofNat_of_zero_le hb2.1
 have hu0:0<=upZ (bL size (SS.map aM) m+4*((aV (dV s.rows)*s.rows.length:Nat):Int)) 16:=by omega
 obtain ⟨F,hF⟩:=Int.eq_ofNat_of_zero_le hu0
 have e1:(size:Int)*((aV (dV s.rows)*s.rows.length:Nat):Int)=((size*(aV (dV s.rows)*s.rows.length):Nat):Int):=by push_cast; rfl
 rw [hF,e1,hB] at hsu
 rw [hF,hA] at hge
 refine ⟨F,A,_,_,A,B,?_,?_,rfl,rfl,hA,hB,rfl,?_,?_⟩
 ·rw [fM hs]
  show some (upZ (bL size (SS.map aM) m+4*bC (aM s)) 16)=_
  rw [hfr,hF]
 ·rw [fM hs]
  show some (bL size (SS.map aM) m)=_
  rw [hA]
 ·generalize aV (dV s.rows)*s.rows.length=T at *
  omega
 ·generalize size*(aV (dV s.rows)*s.rows.length)=T at *
  omega
theorem FrW.lies {m:Nat} {s:SampV} {F S cnt R A B:Nat} (h:CanP size SS) (hs:SS[m]? = some s) (hp:SPlace size SS m s F S cnt R A B) {p:Nat × List Nat} {k i:Nat} {d:List Int} {x:FrameV} (hf:FrW F S size s.rows p k i d x) :
  ∃ q,q=i*R+k/\q+1<=cnt*R/\q*size+size<=size*(cnt*R)/\(aP x size).length=size/\(p=(F+q*size,aP x size)\/p=(S+4*q,cP 4 (lD (aP x size)).toNat))/\S<=p.1/\p.1+p.2.length<=B:=by
 have hfine:=h.fine s (List.mem_of_getElem? hs)
 have hdm:=List.mem_of_getElem? hf.row
 have hRi:=eS (hfine.good.2 d hdm).2 (size:=(size:Int)) (by have:=h.lo; omega) (by have:=h.hi; omega) x (List.mem_of_getElem? hf.fr)
 have hlen:=eD hRi.1 hRi.2
 have hi:i < cnt:=by have:=hf.hi; rw [hfine.same d hdm,hp.hcnt] at this; exact this
 have hk:k < R:=by have:=hf.hk; rw [hp.hR] at this; exact this
 have hq:i*R+k+1<=cnt*R:=by
  have:=Nat.mul_le_mul_right R (show i+1<=cnt by omega)
  rw [Nat.succ_mul] at this
  omega
 have hqs:(i*R+k)*size+size<=size*(cnt*R):=by
  have:=Nat.mul_le_mul_right size hq
  rw [Nat.succ_mul,Nat.mul_comm (cnt*R) size] at this
  exact this
 have he:=hf.eq
 rw [hp.hR] at he
 have h1:=hp.mid
 have h2:=hp.up
 refine ⟨i*R+k,rfl,hq,hqs,hlen,he,?_⟩
 generalize size*(cnt*R)=T at *
 generalize cnt*R=T2 at *
 rcases he with rfl | rfl
 ·rw [hlen]
  show S<=F+_/\F+_+size<=B
  generalize (i*R+k)*size=P at *
  omega
 ·rw [bF]
  show S<=S+4*_/\S+4*_+4<=B
  generalize i*R+k=q at *
  omega
theorem SPlace.nat {m:Nat} {s:SampV} {F S cnt R A B:Nat} (hp:SPlace size SS m s F S cnt R A B) {x:MetaV} (hx:(aH size SS)[m]? = some x):x.first.toNat=F/\x.sums.toNat=S:=by
 have h1:=hp.fst
 have h2:=hp.sum
 rw [hx] at h1 h2
 have h1':x.first=F:=Option.some.inj h1
 have h2':x.sums=S:=Option.some.inj h2
 rw [h1',h2']
 exact ⟨rfl,rfl⟩
theorem CanP.apart (h:CanP size SS) {p p':Nat × List Nat} (hp:p ∈ cK size SS (aH size SS) SS.length) (hp':p' ∈ cK size SS (aH size SS) SS.length) {j:Nat}
  (c1:p.1<=j/\j < p.1+p.2.length) (c2:p'.1<=j/\j < p'.1+p'.2.length):p=p':=by
 obtain ⟨m,s,x,hm,hs,hx,hl⟩:=qE _ hp
 obtain ⟨m',s',x',hm',hs',hx',hl'⟩:=qE _ hp'
 obtain ⟨F,S,cnt,R,A,B,hpl⟩:=h.place hs
 obtain ⟨F',S',cnt',R',A',B',hpl'⟩:=h.place hs'
 rw [(hpl.nat hx).1,(hpl.nat hx).2] at hl
 rw [(hpl'.nat hx').1,(hpl'.nat hx').2] at hl'
 obtain ⟨k,i,d,y,hf⟩:=sU _ (Nat.le_refl _) hl
 obtain ⟨k',i',d',y',hf'⟩:=sU _ (Nat.le_refl _) hl'
 obtain ⟨q,hq,q1,q2,hlen,he,l1,l2⟩:=hf.lies h hs hpl
 obtain ⟨q',hq',q1',q2',hlen',he',l1',l2'⟩:=hf'.lies h hs' hpl'
 have hmono:=fun (a b:Nat) (hab:a<=b)=>sH (size:=(size:Int)) (by have:=h.lo; omega) h.few hab
 rcases Nat.lt_trichotomy m m' with hlt | heq | hgt
 ·have:=hmono (m+1) m' hlt
  rw [hpl.hb,hpl'.ha,hpl'.lo] at this
  omega
 ·subst heq
  rw [hs] at hs'
  injection hs' with hs'
  subst hs'
  rw [hx] at hx'
  injection hx' with hx'
  subst hx'
  have e1:=(hpl.nat hx).1.symm.trans (hpl'.nat hx).1
  have e2:=(hpl.nat hx).2.symm.trans (hpl'.nat hx).2
  have e3:=hpl.hR.symm.trans hpl'.hR
  have e4:=hpl.hcnt.symm.trans hpl'.hcnt
  subst e1 e2 e3 e4
  have hmid:=hpl.mid
  have hkR:k < R:=by have:=hf.hk; rw [hpl.hR] at this; exact this
  have hkR':k' < R:=by have:=hf'.hk; rw [hpl.hR] at this; exact this
  have same:q=q'->p=p'\/(p=(F+q*size,aP y size)/\p'=(S+4*q,cP 4 (lD (aP y size)).toNat))\/(p'=(F+q*size,aP y size)/\p=(S+4*q,cP 4 (lD (aP y size)).toNat)):=fun e=>by
   rw [hq,hq'] at e
   obtain ⟨ei,ek⟩:=aDD hkR hkR' e
   subst ei ek
   have er:=hf.row.symm.trans hf'.row
   injection er with er
   subst er
   have ef:=hf.fr.symm.trans hf'.fr
   injection ef with ef
   subst ef
   rw [<-hq] at hq'
   subst hq'
   rcases he with rfl | rfl <;> rcases he' with rfl | rfl
   ·exact .inl rfl
   ·exact .inr (.inl ⟨rfl,rfl⟩)
   ·exact .inr (.inr ⟨rfl,rfl⟩)
   ·exact .inl rfl
  have cross:∀ (a b:Nat),a+1<=cnt*R->F+b*size<=j->¬ (S+4*a<=j/\j < S+4*a+4):=fun a b h1 h2 h3=>by
   generalize cnt*R=T at *
   generalize b*size=P at *
   omega
  have key:∀ a b:Nat,a*size<=j - F->j - F < a*size+size->b*size<=j - F->j - F < b*size+size->a=b:=fun a b h1 h2 h3 h4=>by
   have ha:(j - F) / size=a:=by
    rw [Nat.div_eq_iff (by have:=h.lo; omega)]
    constructor <;> omega
   have hb:(j - F) / size=b:=by
    rw [Nat.div_eq_iff (by have:=h.lo; omega)]
    constructor <;> omega
   omega
  rcases he with hpe | hpe <;> rcases he' with hpe' | hpe'
  ·have c1':=c1
   have c2':=c2
   rw [hpe,hlen] at c1'
   rw [hpe',hlen'] at c2'
   simp only at c1' c2'
   have e:=key q q' (by omega) (by omega) (by omega) (by omega)
   rcases same e with h1 | ⟨_,h1⟩ | ⟨_,h1⟩
   ·exact h1
   ·rw [h1] at c2; rw [bF] at c2; exact absurd c2 (cross q q q1 (by omega))
   ·rw [h1] at c1; rw [bF] at c1; exact absurd c1 (cross q q q1 (by omega))
  ·rw [hpe,hlen] at c1
   rw [hpe',bF] at c2
   exact absurd c2 (cross q' q q1' c1.1)
  ·rw [hpe,bF] at c1
   rw [hpe',hlen'] at c2
   exact absurd c1 (cross q q' q1 c2.1)
  ·have c1':=c1
   have c2':=c2
   rw [hpe,bF] at c1'
   rw [hpe',bF] at c2'
   simp only at c1' c2'
   have e:q=q':=by omega
   rcases same e with h1 | ⟨h1,_⟩ | ⟨h1,_⟩
   ·exact h1
   ·rw [h1,hlen] at c1; exact absurd c1' (cross q q q1 c1.1)
   ·rw [h1] at c2; rw [e] at c2; exact absurd c2' (cross q' q' q1' c2.1)
 ·have:=hmono (m'+1) m hgt
  rw [hpl'.hb,hpl.ha,hpl.lo] at this
  omega
theorem CanP.frame_gd (h:CanP size SS) {p:Nat × List Nat} (hp:p ∈ cK size SS (aH size SS) SS.length) {j:Nat} (hj:j < p.2.length):(bG size SS).getD (p.1+j) 0=p.2.getD j 0:=by
 have hfit:nP (bU size SS) (cK size SS (aH size SS) SS.length):=nZ h.lo h.hi h.fine h.len_eq SS.length
 obtain ⟨m,s,x,hm,hs,hx,hl⟩:=qE _ hp
 obtain ⟨F,S,cnt,R,A,B,hpl⟩:=h.place hs
 rw [(hpl.nat hx).1,(hpl.nat hx).2] at hl
 obtain ⟨k,i,d,y,hf⟩:=sU _ (Nat.le_refl _) hl
 obtain ⟨q,hq,q1,q2,hlen,he,l1,l2⟩:=hf.lies h hs hpl
 have hbase:=h.base m
 rw [hpl.ha,hpl.lo] at hbase
 rw [nG,h.head.far (by omega),wK (by rw [List.length_replicate]; exact hfit)]
 refine PJ (fun p' hp' hc=>?_) ⟨p,hp,by omega,by omega⟩
 have:=h.apart hp hp' (j:=p.1+j) (by omega) hc
 subst this
 congr 1
 omega
theorem CanP.frame_at (h:CanP size SS) {m:Nat} {s:SampV} {F S cnt R A B:Nat} (hs:SS[m]? = some s) (hpl:SPlace size SS m s F S cnt R A B) {k i:Nat} {d:List Int} {x:FrameV} (hk:k < R) (hd:s.rows[k]? = some d) (hi:i < cnt) (hx:(cO d size)[i]? = some x) :
  cA (bG size SS) (F+(i*R+k)*size) size=aP x size/\(bM (bG size SS) (S+4*(i*R+k)) 4:Int)=lD (aP x size):=by
 have hm:=(List.getElem?_eq_some_iff.1 hs).1
 have hfine:=h.fine s (List.mem_of_getElem? hs)
 have hlen':d.length=dV s.rows:=hfine.same d (List.mem_of_getElem? hd)
 have hx0:=fM (size:=size) hs
 obtain ⟨xm,hxm⟩:∃ xm,(aH size SS)[m]? = some xm:=⟨_,hx0⟩
 have hn:=hpl.nat hxm
 have f1:FrW F S size s.rows (F+(i*s.rows.length+k)*size,aP x size) k i d x:=⟨by rw [hpl.hR]; exact hk,hd,by rw [hlen',hpl.hcnt]; exact hi,hx,.inl rfl⟩
 have f2:FrW F S size s.rows (S+4*(i*s.rows.length+k),cP 4 (lD (aP x size)).toNat) k i d x:=⟨by rw [hpl.hR]; exact hk,hd,by rw [hlen',hpl.hcnt]; exact hi,hx,.inr rfl⟩
 have m1:=u7 hs hxm (by rw [hn.1,hn.2]; exact yB f1 _ (by rw [hpl.hR]; exact hk)) SS.length hm
 have m2:=u7 hs hxm (by rw [hn.1,hn.2]; exact yB f2 _ (by rw [hpl.hR]; exact hk)) SS.length hm
 obtain ⟨q,hq,q1,q2,hlen,he,l1,l2⟩:=f1.lies h hs hpl
 rw [hpl.hR] at m1 m2
 constructor
 ·refine List.ext_getElem? fun j=>?_
  by_cases hj:j < size
  ·rw [gR hj,h.frame_gd m1 (by rw [hlen]; exact hj),List.getD_eq_getElem?_getD,List.getElem?_eq_getElem (by rw [hlen]; exact hj)]
   rfl
  ·rw [List.getElem?_eq_none (by rw [eO]; omega),List.getElem?_eq_none (by omega)]
 ·have hb:=sM (aP x size)
  have:=fP (X:=bG size SS) (a:=S+4*(i*R+k)) (v:=(lD (aP x size)).toNat) (fun j hj=>h.frame_gd m2 (by rw [bF]; exact hj)) (by omega)
  rw [this]
  omega
end
end
section
open Go.RowKit Go.Lib
section
variable {size : Nat} {SS : List SampV}
theorem CanP.fit (h:CanP size SS):FitB (bG size SS) size (aH size SS):=by
 have hl:=h.len_bd
 have:=UI (AF h) (by rw [lL h]; omega) (JQ h)
 rw [EU h,JR h,JS h] at this
 exact this
theorem CanP.asked (h:CanP size SS) {i c b:Int} (hE:bW (aH size SS) i c b=0) :
  ∃ m s d x,i=(m:Nat)/\SS[m]? = some s/\s.rows[c.toNat]? = some d/\(cO d size)[b.toNat]? = some x/\cA (bG size SS) (bN (aH size SS) size i c b).toNat size=aP x size/\(fB (aH size SS) (bG size SS) i c b:Int)=lD (aP x size):=by
 have hE0:jJ (aH size SS) i=0:=by
  unfold bW at hE
  split at hE
  ·cases hE
  ·rename_i h1; simpa using h1
 have hi:¬ (i < 0\/((aH size SS).length:Int)<=i):=by
  intro hc
  unfold jJ at hE0
  rw [if_pos hc] at hE0
  cases hE0
 obtain ⟨m,rfl⟩:=Int.eq_ofNat_of_zero_le (show 0<=i by omega)
 rw [fO] at hi
 have hm:m < SS.length:=by omega
 obtain ⟨s,hs⟩:∃ s,SS[m]? = some s:=⟨_,List.getElem?_eq_getElem hm⟩
 obtain ⟨F,S,cnt,R,A,B,hpl⟩:=h.place hs
 have hx0:=fM (size:=size) hs
 have hmi:fK (aH size SS) (m:Int)=plc size (SS.map aM) m (aM s):=by
  unfold fK
  rw [fO,if_neg hi,Int.toNat_natCast,List.getD_eq_getElem?_getD,hx0]
  rfl
 obtain ⟨x,hxD,hxe,ch,cn,bn,S',F',q,P,e1,rfl,rfl,e2,e3,hm1,hq,hP,hm2,l1,l2,⟨c0,c1⟩,b0,b1,hbc⟩:=vJ h.fit hE
 rw [hmi] at hxe
 have hfst:x.first=F:=by
  have:=hpl.fst
  rw [hx0,hxe] at this
  exact Option.some.inj this
 have hsum:x.sums=S:=by
  have:=hpl.sum
  rw [hx0,hxe] at this
  exact Option.some.inj this
 have hch:x.channels=R:=by
  rw [<-hxe,<-hpl.hR]
  rfl
 have hlen:dL x.length=cnt:=by
  rw [<-hxe,<-hpl.hcnt,<-C0]
  rfl
 have hF:F'=F:=by omega
 have hS:S'=S:=by omega
 have hR:ch=R:=by omega
 subst hF hS hR
 have hfine:=h.fine s (List.mem_of_getElem? hs)
 have hcn:cn < ch:=by omega
 obtain ⟨d,hd⟩:∃ d,s.rows[cn]? = some d:=⟨_,List.getElem?_eq_getElem (by rw [hpl.hR]; exact hcn)⟩
 have hbn:bn < cnt:=by omega
 have hdl:d.length=dV s.rows:=hfine.same d (List.mem_of_getElem? hd)
 obtain ⟨y,hy⟩:∃ y,(cO d size)[bn]? = some y:=⟨_,List.getElem?_eq_getElem (by rw [f7,hdl,hpl.hcnt]; exact hbn)⟩
 obtain ⟨r1,r2⟩:=h.frame_at hs hpl hcn hd hbn hy
 have hA:bN (aH size SS) size m cn bn=((F'+P:Nat):Int):=by
  unfold bN p9
  rw [if_pos hE,hmi,hxe,e1,e3,hm1,<-Int.natCast_add,hq,hm2]
  push_cast; rfl
 have hSu:fB (aH size SS) (bG size SS) m cn bn=bM (bG size SS) (S'+4*q) 4:=by
  unfold fB p9
  rw [if_pos hE,hmi,hxe,e1,e2,hm1,<-Int.natCast_add,hq]
  congr 1
 refine ⟨m,s,d,y,rfl,hs,hd,hy,?_,?_⟩
 ·rw [hA,Int.toNat_natCast,<-hP,<-hq]
  exact r1
 ·rw [hSu,<-hq]
  exact r2
end
end
section
open Go.RowKit Go.Lib
def tU (size:Int) (ss:List SampV):Int:=if size < 24\/96 < size then 12 else dD ss
def aDp (w:World) (size:Int) (ss:List SampV) (e:Ending) (w':World):Prop :=
 Below w.heap.size w w'/\((tU size ss ≠ 0/\e=.returned (.tuple #[.slice none 0 0,.int .i64 (tU size ss)])) \/
  (tU size ss=0/\∃ (sz g:Nat),size=sz/\CanP sz (dF ss)/\w.heap.size<=g/\BytesAt w' g (bG sz (dF ss))/\e=.returned (.tuple #[.slice (some ⟨g,0,none⟩) (bU sz (dF ss)) (bU sz (dF ss)),.int .i64 0])))
theorem aAW (size:Int) (L:List (HSamp × SampV)) (A:Option Addr) (cap:Nat) (w:World) (hl:L.length<=8) (hn:A=none->cap=0) (hs:SampsAt w w.heap.size A L) (hsm:∀ p ∈ L,p.2.small) :
  Calls Tryz.prog 73 #[.int .i64 size,.slice A L.length cap] w (aDp w size (L.map (·.2))):=by
 by_cases hsz:size < 24\/96 < size
 ·have hE:tU size (L.map (·.2))=12:=if_pos hsz
  refine (XY size A L.length cap w hsz).mono ?_
  rintro e w' ⟨he,hb⟩
  exact ⟨hb,.inl ⟨by rw [hE]; decide,by rw [hE]; exact he⟩⟩
 ·have hE0:tU size (L.map (·.2))=dD (L.map (·.2)):=if_neg hsz
  by_cases hE:dD (L.map (·.2))=0
  ·obtain ⟨sz,rfl⟩:=Int.eq_ofNat_of_zero_le (show 0<=size by omega)
   refine (aCu sz L A cap w (by omega) (by omega) hl hn hs hsm hE).mono ?_
   rintro e w' ⟨g,he,hg,hb,hbel⟩
   refine ⟨hbel,.inr ⟨by rw [hE0]; exact hE,sz,g,rfl,aCA (by omega) (by omega) (by rw [List.length_map]; exact hl) (fun s hs=>?_) hE,hg,hb,he⟩⟩
   obtain ⟨p,hp,rfl⟩:=List.mem_map.1 hs
   exact hsm p hp
  ·refine (aAX size _ L A cap w (by omega) (by omega) hl hs rfl hE).mono ?_
   rintro e w' ⟨he,hb⟩
   exact ⟨hb,.inl ⟨by rw [hE0]; exact hE,by rw [hE0]; exact he⟩⟩
end
end Go.Proofs.YtnbbfblaipjcmaaGreatDoor
