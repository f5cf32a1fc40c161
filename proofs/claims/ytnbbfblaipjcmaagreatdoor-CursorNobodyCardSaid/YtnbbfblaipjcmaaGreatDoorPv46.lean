/- ParD, CurA, CurP. Conditions: as each theorem states. -/
import Derived.Test.YtnbbfblaipjcmaaGreatDoorPv21
import Derived.Test.YtnbbfblaipjcmaaGreatDoorPv26
import Derived.Test.YtnbbfblaipjcmaaGreatDoorPv44
import Derived.Test.YtnbbfblaipjcmaaGreatDoorPv41
import Derived.Test.YtnbbfblaipjcmaaGreatDoorPv45
set_option maxRecDepth 100000
set_option maxHeartbeats 4000000
namespace Go.Proofs.YtnbbfblaipjcmaaGreatDoor
section
open Go.RowKit Go.Lib
theorem Q6 {P:Program} {ops:Array Oper} {o:Oper} {a:Act} {w:World} {K:Act->World->Prop} {Q:Exit->Act->World->Prop} {E:Prop}
  (hg:o.guard=none) (s x:Operand) (t:TypeId) (hop:o.op=Op.call { callee:=Callee.builtin Builtin.append,args:=#[s,x],argTypes:=#[t,t] })
  (base:Nat) (e:TypeId) (i:TypeInfo) (z:Value) (size bytes:Nat) (ht:P.underlying t=some (.slice e)) (hi:P.info? e=some i) (hz:i.zero=some z)
  (hsize:i.size=size) (hby:i.bytes=bytes) (hzs:z.cells.size=size) (hsz:0 < size)
  (v:Value) (n:Nat) (xs:List Value) (hs:a.eval s=v) (hown:w.ownsRow base e size v n xs)
  (B:Nat) (A:Option Addr) (m c:Nat) (news:List Value) (hx:a.eval x=.slice A m c) (hl:news.length=m*size) (hr:Row w B A news) (h1:∀ u ∈ news,u.oneCell'=true)
  (h63:n+m<=9223372036854775807) (hbytes:(n+m)*bytes<=140737488355328) (hbase:base<=w.heap.size)
  (hK:∀ A' c' w',w'.ownsRow base e size (.slice A' (n+m) c') (n+m) (xs ++ news)->w.grownBy w' v.ownBlock ->
   ((Value.slice A' (n+m) c').ownBlock=v.ownBlock\/(Value.slice A' (n+m) c').ownBlock=some w.heap.size)->n+m<=c'->K (a.put o.dst (.slice A' (n+m) c')) w') :
  if Region.wanted o (yielded ops a.tmps)=true then Oper.wp P o a w K Q else E:=by
 have hw:Region.wanted o (yielded ops a.tmps)=true:=by simp [Region.wanted,hg]
 rw [if_pos hw]
 obtain ⟨A',c',w',hrun,h2,h3,h4,h5⟩:=LU (P:=P) w base t o.type e i z size bytes ht hi hz hsize hby hzs hsz v n xs hown B A m c news hl hr h1 h63 hbytes hbase
 unfold Oper.wp
 simp [execOp,hop,resolve,invoke,builtin,hs,hx,hrun,Result.andThen]
 exact hK _ _ _ h2 h3 h4 h5
structure BankAt (w:World) (g:Nat) (bs:List Nat) (size:Nat) (D:List MetaV):Prop where
 at_:∃ Ai ci Ad cd,w.heap[g]? = some (.cells #[.slice Ai bs.length ci,.int .i64 size,.slice Ad D.length cd] 159 (0,0))/\Row w w.heap.size Ai (u8s bs)/\Row w w.heap.size Ad (aZ D)/\bs.length<=ci/\ci<=9223372036854775807/\D.length<=cd/\cd<=9223372036854775807/\(Ai=none->ci=0)/\(Ad=none->cd=0)
theorem BankAt.later {w w':World} {g:Nat} {bs:List Nat} {size:Nat} {D:List MetaV} (h:BankAt w g bs size D) (hb:Below w.heap.size w w'):BankAt w' g bs size D:=by
 obtain ⟨Ai,ci,Ad,cd,h1,h2,h3,h4,h5,h6,h7,h8,h9⟩:=h.at_
 exact ⟨Ai,ci,Ad,cd,aF h1 hb,h2.later hb,h3.later hb,h4,h5,h6,h7,h8,h9⟩
def IH (w:World) (bs:List Nat) (e:Ending) (w':World):Prop :=
 (eK bs ≠ 0/\e=.returned (.tuple #[.pointer none,.int .i64 (eK bs)])/\Below w.heap.size w w') \/
 (eK bs=0/\∃ g,e=.returned (.tuple #[.pointer (some ⟨g,0,none⟩),.int .i64 0])/\w.heap.size<=g/\BankAt w' g bs (kQ bs) (eC bs (gX bs))/\Below w.heap.size w w')
end
section
open Go.RowKit Go.Lib
def kY (at_:Nat):Nat:=if at_ % 16 < 8 then at_ / 16 - 1 else at_ / 16
def nD (at_ n:Nat):Nat:=if at_ % 16 < 8 then at_ / 16 else min (at_ / 16+1) (n - 1)
theorem PG (at_ n:Nat) (w:World) (h:at_ < 16*n) (hn:n<=1000000):Calls Tryz.prog 109 #[.int .i64 at_,.int .i64 n] w fun e w'=>e=.returned (.tuple #[.int .i64 (kY at_:Nat),.int .i64 (nD at_ n:Nat)])/\w=w':=by
 have HA:=hid (show kY at_=if at_ % 16 < 8 then at_ / 16 - 1 else at_ / 16 from rfl)
 have HB:=hid (show nD at_ n=if at_ % 16 < 8 then at_ / 16 else min (at_ / 16+1) (n - 1) from rfl)
 generalize kY at_=NA at *
 generalize nD at_ n=NB at *
 obtain ⟨q,hq⟩:∃ q,at_ / 16=q:=⟨_,rfl⟩
 obtain ⟨r,hr⟩:∃ r,at_ % 16=r:=⟨_,rfl⟩
 rw [hq,hr] at HA HB
 have t1:¬ (at_:Int) < 0:=by omega
 have w1:IntKind.i64.wrap (16*(n:Int))=16*(n:Int):=IntWalk.i64_in _ (by omega)
 have t2:¬ 16*(n:Int)<=(at_:Int):=by omega
 have hquo:(at_:Int).tdiv 16=(q:Int):=by rw [<-hq]; rfl
 have hrem:(at_:Int).tmod 16=(r:Int):=by rw [<-hr]; rfl
 have w2:IntKind.i64.wrap (q:Int)=(q:Int):=IntWalk.i64_in _ (by omega)
 have w3:IntKind.i64.wrap (r:Int)=(r:Int):=IntWalk.i64_in _ (by omega)
 have w4:IntKind.i64.wrap ((q:Int) - 1)=(q:Int) - 1:=IntWalk.i64_in _ (by omega)
 have w5:IntKind.i64.wrap ((q:Int)+1)=(q:Int)+1:=IntWalk.i64_in _ (by omega)
 have w6:IntKind.i64.wrap ((n:Int) - 1)=(n:Int) - 1:=IntWalk.i64_in _ (by omega)
 by_cases h8:r < 8
 ·have t3:(r:Int) < 8:=by omega
  have e1:=HA.out
  have e2:=HB.out
  rw [if_pos h8] at e1 e2
  have hmx:max ((q:Int) - 1) 0=(NA:Int):=by omega
  subst e2
  clear HA HB e1 hq hr
  go_enter Tryz.func109,Tryz.ntmps109
  go_wp2
  refine bodyPost_ret (results_tmp2 Tryz.results109 _ _ _) rfl ?_
  exact ⟨rfl,rfl⟩
 ·have t3:¬ (r:Int) < 8:=by omega
  have e1:=HA.out
  have e2:=HB.out
  rw [if_neg h8] at e1 e2
  have hmn:min ((q:Int)+1) ((n:Int) - 1)=(NB:Int):=by omega
  subst e1
  clear HA HB e2 hq hr
  go_enter Tryz.func109,Tryz.ntmps109
  go_wp2
  refine bodyPost_ret (results_tmp2 Tryz.results109 _ _ _) rfl ?_
  exact ⟨rfl,rfl⟩
def SixAt (w:World) (g o:Nat) (xs:List Int):Prop:=xs.length=16/\g < w.heap.size/\∀ j,j < 16->w.cell? ⟨g,o+j,none⟩=some (.int .i64 (bgt xs j))
theorem SixAt.later {w w':World} {g o:Nat} {xs:List Int} (h:SixAt w g o xs) (hb:Below w.heap.size w w'):SixAt w' g o xs :=
 ⟨h.1,Nat.lt_of_lt_of_le h.2.1 hb.size,fun j hj=>(hb.cell (p:=⟨g,o+j,none⟩) h.2.1).trans (h.2.2 j hj)⟩
def oM (x y:List Int) (i:Nat):Int:=if i < 8 then unB (bgt y (15 - i)) (bgt x i) (bE i) else unA (bgt x i) (bgt y (15 - i)) (bE (15 - i))
def LN (x:List Int) (y:Option (List Int)) (g:List Int) (i:Nat):Int:=lP (match y with | none=>bgt x i | some y=>oM x y i) (bgt g (i / 4)).toNat
theorem aA5 {x y:List Int} {i:Nat} {M:Int} (hi:i < 16) (hx:∀ j,j < 16->-M<=bgt x j/\bgt x j<=M) (hy:∀ j,j < 16->-M<=bgt y j/\bgt y j<=M):-(3*M+8)<=2*oM x y i/\2*oM x y i<=3*M+8:=by
 unfold oM
 have h1:=hx i hi
 have h2:=hy (15 - i) (by omega)
 split
 ·rename_i h
  exact (vR i h _ _ M h2.1 h2.2 h1.1 h1.2).2
 ·exact (vR (15 - i) (by omega) _ _ M h1.1 h1.2 h2.1 h2.2).1
theorem PH (x g:List Int) (gx ox i:Nat) (w:World) (hx:SixAt w gx ox x) (hg:GainB g) (hi:i < 16) (hb:∀ j,j < 16->-1099511627776<=bgt x j/\bgt x j<=1099511627776) :
  Calls Tryz.prog 112 #[.agg fA,.pointer (some ⟨gx,ox,none⟩),.pointer none,aT g,.int .i64 i] w fun e w'=>e=.returned (.int .i64 (LN x none g i))/\Below w.heap.size w w':=by
 obtain ⟨q,hq⟩:∃ q,g[i / 4]? = some q:=⟨_,List.getElem?_eq_getElem (by rw [hg.1]; omega)⟩
 have hq3:=hg.get hq
 have HZ:=hid (show LN x none g i=lP (bgt x i) q.toNat by unfold LN; rw [aD hq])
 have hbi:=hb i hi
 have HR:=hid (fun W=>yW (bgt x i) q.toNat W (by omega) (by omega) (by omega))
 have HAt:=hid (fun W=>SC g i W hg hi)
 rw [aD hq] at HAt
 rw [show ((q.toNat:Nat):Int)=q by omega] at HR
 unfold aT at HAt ⊢
 have hgs:(g.map (Value.int .i64)).toArray.size=4:=by simp [hg.1]
 have HF4:=hid (show (Tryz.prog.info? 45).map (·.size)=some (g.map (Value.int .i64)).toArray.size by rw [hgs]; exact bY)
 generalize (g.map (Value.int .i64)).toArray=gv at *
 obtain ⟨w1,hw1⟩:∃ w1,w.alloc (.cells fA 104)=w1:=⟨_,rfl⟩
 obtain ⟨w2,hw2⟩:∃ w2,w1.alloc (.cells gv 45)=w2:=⟨_,rfl⟩
 have hz1:w1.heap.size=w.heap.size+1:=by rw [<-hw1]; simp
 have B2:=hid (show Below w.heap.size w w2 by rw [<-hw2,<-hw1]; exact aC (aL w _) (aL _ _))
 have G2:=hid (show w2.heap[w.heap.size+1]? = some (.cells gv 45 (0,0)) by rw [<-hw2,<-hz1]; exact heap_alloc_new w1 _)
 have c0:=(hx.later B2.out).2.2 i hi
 have t1:¬ (i:Int) < 0:=by omega
 have t2:¬ 16<=(i:Int):=by omega
 have t3:(0:Int)<=(i:Int):=by omega
 have t4:(i:Int) < 16:=by omega
 generalize bgt x i=X at *
 clear hx hg hb hq hgs hbi hq3
 go_enter Tryz.func112,Tryz.ntmps112
 go_wp2_with (first | (refine aB rfl 45 (.tmp 8) rfl (w.heap.size+1) rfl _ gv _ _ G2.out Tryz.underlying45 rfl HF4.out ?_) | (go_at_call 156; refine (HAt.out _).mono ?_; rintro e w3 ⟨rfl,hb3⟩) | (go_at_call 155; refine (HR.out _).mono ?_; rintro e w4 ⟨rfl,hb4⟩))
 go_ret
 exact ⟨by rw [HZ.out]; rfl,aC (aC B2.out hb3) hb4⟩
theorem zW (x y g:List Int) (gx ox gy oy i:Nat) (w:World) (hx:SixAt w gx ox x) (hy:SixAt w gy oy y) (hg:GainB g) (hi:i < 16) (hb:∀ j,j < 16->-1099511627776<=bgt x j/\bgt x j<=1099511627776) (hc:∀ j,j < 16->-1099511627776<=bgt y j/\bgt y j<=1099511627776) :
  Calls Tryz.prog 112 #[.agg fA,.pointer (some ⟨gx,ox,none⟩),.pointer (some ⟨gy,oy,none⟩),aT g,.int .i64 i] w fun e w'=>e=.returned (.int .i64 (LN x (some y) g i))/\Below w.heap.size w w':=by
 obtain ⟨q,hq⟩:∃ q,g[i / 4]? = some q:=⟨_,List.getElem?_eq_getElem (by rw [hg.1]; omega)⟩
 have hq3:=hg.get hq
 have HZ:=hid (show LN x (some y) g i=lP (oM x y i) q.toNat by unfold LN; rw [aD hq])
 have hbd:=aA5 hi hb hc
 have HR:=hid (fun W=>yW (oM x y i) q.toNat W (by omega) (by omega) (by omega))
 have HAt:=hid (fun W=>SC g i W hg hi)
 rw [aD hq] at HAt
 rw [show ((q.toNat:Nat):Int)=q by omega] at HR
 unfold aT at HAt ⊢
 have hgs:(g.map (Value.int .i64)).toArray.size=4:=by simp [hg.1]
 have HF4:=hid (show (Tryz.prog.info? 45).map (·.size)=some (g.map (Value.int .i64)).toArray.size by rw [hgs]; exact bY)
 generalize (g.map (Value.int .i64)).toArray=gv at *
 obtain ⟨w1,hw1⟩:∃ w1,w.alloc (.cells fA 104)=w1:=⟨_,rfl⟩
 obtain ⟨w2,hw2⟩:∃ w2,w1.alloc (.cells gv 45)=w2:=⟨_,rfl⟩
 have hz1:w1.heap.size=w.heap.size+1:=by rw [<-hw1]; simp
 have B2:=hid (show Below w.heap.size w w2 by rw [<-hw2,<-hw1]; exact aC (aL w _) (aL _ _))
 have G2:=hid (show w2.heap[w.heap.size+1]? = some (.cells gv 45 (0,0)) by rw [<-hw2,<-hz1]; exact heap_alloc_new w1 _)
 have c0:=(hx.later B2.out).2.2 i hi
 have t1:¬ (i:Int) < 0:=by omega
 have t2:¬ 16<=(i:Int):=by omega
 have t3:(0:Int)<=(i:Int):=by omega
 have t4:(i:Int) < 16:=by omega
 obtain ⟨r,hr⟩:∃ r,15 - i=r:=⟨_,rfl⟩
 have e1:(15:Int) - (i:Int)=(r:Int):=by omega
 have w1':IntKind.i64.wrap (r:Int)=(r:Int):=IntWalk.i64_in _ (by omega)
 have t5:(0:Int)<=(r:Int):=by omega
 have t6:(r:Int) < 16:=by omega
 have hX:=hb i hi
 have hY:=hc r (by omega)
 obtain ⟨m,hm⟩:∃ m,min i r=m:=⟨_,rfl⟩
 have e2:min (i:Int) (r:Int)=(m:Int):=by omega
 have hm8:m < 8:=by omega
 have HT:=hid (fun W=>tX m W hm8)
 have HX:=hid (hx.later B2.out)
 have HY:=hid (hy.later B2.out)
 have HBz:=hid (show oM x y i=if i < 8 then unB (bgt y r) (bgt x i) (bE i) else unA (bgt x i) (bgt y r) (bE r) by unfold oM; rw [hr])
 have HB1:=hid (fun W=>iX (bgt y r) (bgt x i) (bE m) W (iQ hm8) hY hX)
 have HB2:=hid (fun W=>iX (bgt x i) (bgt y r) (bE m) W (iQ hm8) hX hY)
 obtain ⟨BZ,hBZ⟩:∃ BZ,oM x y i=BZ:=⟨_,rfl⟩
 rw [hBZ] at HZ HBz HR
 have Hir:=hid (show m=min i r/\r=15 - i from ⟨hm.symm,hr.symm⟩)
 clear hx hy hg hb hc hq hgs hbd hq3 hX hY hBZ hm hr
 by_cases h8:i < 8
 ·have t7:(i:Int) < 8:=by omega
  have hmi:m=i:=by have:=Hir.out; omega
  have eB:=HBz.out
  rw [if_pos h8] at eB
  rw [show bE i=bE m by rw [hmi]] at eB
  have HE:=hid eB
  have HB:=HB1
  clear HB1 HB2 HBz eB h8 hmi
  obtain ⟨tk,htk⟩:∃ tk,bE m=tk:=⟨_,rfl⟩
  rw [htk] at HT HB HE
  obtain ⟨tp,tu⟩:=tk
  clear htk
  simp only at HT HB
  go_enter Tryz.func112,Tryz.ntmps112
  go_wp2_with (go_at_call 153; fail)
  refine (HT.out _).mono ?_
  rintro e w3 ⟨rfl,hb3⟩
  obtain ⟨w4,hw4⟩:∃ w4,w3.alloc (.cells #[.int .i64 tp,.int .i64 tu] 97)=w4:=⟨_,rfl⟩
  have E4:=hid (show Below w2.heap.size w2 w4 by rw [<-hw4]; exact aC hb3 (aL w3 _))
  have T4:=hid (show Blk w4 w3.heap.size 97 [.int .i64 tp,.int .i64 tu] by rw [<-hw4]; exact Blk.new w3 _ _)
  have x0:=fun (z:GW w4)=>(HX.out.later (aC E4.out z.2)).2.2 i hi
  have x1:=fun (z:GW w4)=>(HY.out.later (aC E4.out z.2)).2.2 r (by omega)
  have x2:=fun (z:GW w4)=>(show z.1.cell? ⟨w3.heap.size,0,none⟩=some (.int .i64 tp) from (z.2.cell (p:=⟨w3.heap.size,0,none⟩) T4.out.lt).trans (T4.out.cell 0))
  have x3:=fun (z:GW w4)=>(show z.1.cell? ⟨w3.heap.size,1,none⟩=some (.int .i64 tu) from (z.2.cell (p:=⟨w3.heap.size,1,none⟩) T4.out.lt).trans (T4.out.cell 1))
  clear hb3
  go_wp2_with fail
  refine aR (by kernel_rfl) (by kernel_rfl) ?_
  repeat (go_big_quiet_step ((go_at_call 154; exact bZ (HB.out _))))
  refine wpQuiet_nil ?_
  intro w5 hw'
  have E5:=hid (aC E4.out (aK hw'))
  have G5:=hid (aF G2.out E5.out)
  clear hw' x0 x1 x2 x3 hw4
  rw [<-HE.out]
  go_wp2_with (first | (refine aB rfl 45 (.tmp 8) rfl (w.heap.size+1) rfl _ gv _ _ G5.out Tryz.underlying45 rfl HF4.out ?_) | (go_at_call 156; refine (HAt.out _).mono ?_; rintro e w6 ⟨rfl,hb6⟩) | (go_at_call 155; refine (HR.out _).mono ?_; rintro e w7 ⟨rfl,hb7⟩))
  go_ret
  exact ⟨by rw [HZ.out]; rfl,aC (aC (aC B2.out E5.out) hb6) hb7⟩
 ·have t7:¬ (i:Int) < 8:=by omega
  have hmi:m=r:=by have:=Hir.out; omega
  have eB:=HBz.out
  rw [if_neg h8] at eB
  rw [show bE r=bE m by rw [hmi]] at eB
  have HE:=hid eB
  have HB:=HB2
  clear HB1 HB2 HBz eB h8 hmi
  obtain ⟨tk,htk⟩:∃ tk,bE m=tk:=⟨_,rfl⟩
  rw [htk] at HT HB HE
  obtain ⟨tp,tu⟩:=tk
  clear htk
  simp only at HT HB
  go_enter Tryz.func112,Tryz.ntmps112
  go_wp2_with (go_at_call 153; fail)
  refine (HT.out _).mono ?_
  rintro e w3 ⟨rfl,hb3⟩
  obtain ⟨w4,hw4⟩:∃ w4,w3.alloc (.cells #[.int .i64 tp,.int .i64 tu] 97)=w4:=⟨_,rfl⟩
  have E4:=hid (show Below w2.heap.size w2 w4 by rw [<-hw4]; exact aC hb3 (aL w3 _))
  have T4:=hid (show Blk w4 w3.heap.size 97 [.int .i64 tp,.int .i64 tu] by rw [<-hw4]; exact Blk.new w3 _ _)
  have x0:=fun (z:GW w4)=>(HX.out.later (aC E4.out z.2)).2.2 i hi
  have x1:=fun (z:GW w4)=>(HY.out.later (aC E4.out z.2)).2.2 r (by omega)
  have x2:=fun (z:GW w4)=>(show z.1.cell? ⟨w3.heap.size,0,none⟩=some (.int .i64 tp) from (z.2.cell (p:=⟨w3.heap.size,0,none⟩) T4.out.lt).trans (T4.out.cell 0))
  have x3:=fun (z:GW w4)=>(show z.1.cell? ⟨w3.heap.size,1,none⟩=some (.int .i64 tu) from (z.2.cell (p:=⟨w3.heap.size,1,none⟩) T4.out.lt).trans (T4.out.cell 1))
  clear hb3
  go_wp2_with fail
  refine aR (by kernel_rfl) (by kernel_rfl) ?_
  repeat (go_big_quiet_step ((go_at_call 154; exact bZ (HB.out _))))
  refine wpQuiet_nil ?_
  intro w5 hw'
  have E5:=hid (aC E4.out (aK hw'))
  have G5:=hid (aF G2.out E5.out)
  clear hw' x0 x1 x2 x3 hw4
  rw [<-HE.out]
  go_wp2_with (first | (refine aB rfl 45 (.tmp 8) rfl (w.heap.size+1) rfl _ gv _ _ G5.out Tryz.underlying45 rfl HF4.out ?_) | (go_at_call 156; refine (HAt.out _).mono ?_; rintro e w6 ⟨rfl,hb6⟩) | (go_at_call 155; refine (HR.out _).mono ?_; rintro e w7 ⟨rfl,hb7⟩))
  go_ret
  exact ⟨by rw [HZ.out]; rfl,aC (aC (aC B2.out E5.out) hb6) hb7⟩
end
section
theorem yZ (p:List Int) (i:Nat) {j:Nat} (hj:j < 16):bgt (aX p i) j=bgt p (i*16+j):=KY p (i*16) 16 hj
theorem IQ {f:Nat->List Int->List Int} {p:List Int} {c:Nat} (hf:∀ i b,i < c->b.length=16->(f i b).length=16) (hp:p.length=c*16) {j:Nat} (hj:j < c*16):bgt (eM f p c c) j=bgt (f (j / 16) (aX p (j / 16))) (j % 16):=by
 have hi:j / 16 < c:=by omega
 have h:=vU hf hp c hi
 rw [if_pos hi] at h
 rw [<-h,yZ _ _ (Nat.mod_lt _ (by decide)),show j / 16*16+j % 16=j by omega]
theorem I5 (L:List (List Int)):L.flatten=kX L.length (fun i=>L.getD i []):=by
 unfold kX
 congr 1
 apply List.ext_getElem?
 intro i
 rcases Nat.lt_or_ge i L.length with h | h
 ·rw [aJ _ h,List.getElem?_eq_getElem h,List.getD_eq_getElem?_getD,List.getElem?_eq_getElem h]
  rfl
 ·rw [List.getElem?_eq_none h,List.getElem?_eq_none (by simpa using h)]
theorem J0 {sz:Nat} {fs:List FrameV} {g:FrameV->List Int} (hg:∀ f ∈ fs,(g f).length=sz) {i:Nat} {f:FrameV} (h:fs[i]? = some f):eV sz (fs.map g).flatten i=g f:=by
 have hi:=(List.getElem?_eq_some_iff.1 h).1
 have hR:∀ i,i < (fs.map g).length->((fs.map g).getD i []).length=sz:=fun i hi=>by
  rw [List.getD_eq_getElem?_getD,List.getElem?_eq_getElem hi]
  exact (by
   obtain ⟨x,hx,e⟩:=List.mem_map.1 (List.getElem_mem hi)
   show ((fs.map g)[i]).length=sz
   rw [<-e]
   exact hg x hx)
 rw [I5,AH hR (by simpa using hi),List.getD_eq_getElem?_getD,List.getElem?_map,h]
 rfl
theorem I4 {sz:Nat} {fs:List FrameV} {g:FrameV->List Int} (hg:∀ f ∈ fs,(g f).length=sz):(fs.map g).flatten.length=fs.length*sz:=by
 rw [I5]
 rw [j2 (sz:=sz) (fun i hi=>by
  rw [List.getD_eq_getElem?_getD,List.getElem?_eq_getElem hi]
  obtain ⟨x,hx,e⟩:=List.mem_map.1 (List.getElem_mem hi)
  show ((fs.map g)[i]).length=sz
  rw [<-e]
  exact hg x hx),List.length_map]
theorem LH {p:List Int} {c:Nat} (hp:p.length=c*16) {j:Nat} (hj:j < c*16):bgt (W7 p c) j=bgt (kJ (aX p (j / 16))) (j % 16):=IQ PC hp hj
theorem aAI {fs:List FrameV} (hfs:∀ f ∈ fs,f.Len) {k:Nat} {f:FrameV} (h:fs[k / 16]? = some f) {o:Option FrameV}
  (ho:o=if k % 16 < 8 then (if k / 16=0 then none else fs[k / 16 - 1]?) else fs[k / 16+1]?) :
  bgt (yU (fs.map cD).flatten (fs.map (·.gains)).flatten fs.length) k=LN (kJ (cD f)) (o.map fun y=>kJ (cD y)) f.gains (k % 16):=by
 have hi:=(List.getElem?_eq_some_iff.1 h).1
 have hsp:∀ f ∈ fs,(cD f).length=16:=fun f _=>i7 f
 have hga:∀ f ∈ fs,f.gains.length=4:=fun f hf=>(hfs f hf).g
 have hp:=I4 hsp
 have hrow:∀ {i:Nat} {x:FrameV},fs[i]? = some x->aX (fs.map cD).flatten i=cD x:=fun hx=>J0 (sz:=16) hsp hx
 have hgr:=J0 (g:=fun f=>f.gains) hga h
 generalize (fs.map cD).flatten=p at *
 generalize (fs.map fun f=>f.gains).flatten=gs at *
 have hq:=JF hp
 have hm:k % 16 < 16:=Nat.mod_lt _ (by decide)
 unfold yU
 rw [IQ I1 (QN hq) (by omega)]
 unfold aBg xQ LN
 rw [aD (aJ _ hm),if_pos hm,hgr,yZ _ _ hm,show k / 16*16+k % 16=k by omega]
 congr 1
 unfold EY
 rw [eJ _ _ _ _ (by rw [hq]; omega),LH hp (by omega),hrow h]
 by_cases h8:k % 16 < 8
 ·rw [if_pos h8] at ho
  by_cases h0:k / 16=0
  ·rw [if_pos h0] at ho
   subst ho
   rw [if_neg (by omega)]
   rfl
  ·rw [if_neg h0] at ho
   obtain ⟨y,hy⟩:∃ y,fs[k / 16 - 1]? = some y:=⟨_,List.getElem?_eq_getElem (by omega)⟩
   rw [hy] at ho
   subst ho
   have e:(k+8) / 16=k / 16:=by omega
   rw [e,if_pos (by omega),if_neg (by omega),LH hp (by omega),show (k / 16*32 - 1 - k) / 16=k / 16 - 1 by omega,show (k / 16*32 - 1 - k) % 16=15 - k % 16 by omega,hrow hy,show k - k / 16*16=k % 16 by omega]
   show _=oM (kJ (cD f)) (kJ (cD y)) (k % 16)
   unfold oM
   rw [if_pos h8]
 ·rw [if_neg h8] at ho
  have e:(k+8) / 16=k / 16+1:=by omega
  rw [e]
  by_cases h1:k / 16+1 < fs.length
  ·obtain ⟨y,hy⟩:∃ y,fs[k / 16+1]? = some y:=⟨_,List.getElem?_eq_getElem h1⟩
   rw [hy] at ho
   subst ho
   rw [if_pos (by omega),if_pos (by omega),LH hp (by omega),show ((k / 16+1)*32 - 1 - k) / 16=k / 16+1 by omega,show ((k / 16+1)*32 - 1 - k) % 16=15 - k % 16 by omega,hrow hy,show (k / 16+1)*16 - 1 - k=15 - k % 16 by omega]
   show _=oM (kJ (cD f)) (kJ (cD y)) (k % 16)
   unfold oM
   rw [if_neg h8]
  ·rw [List.getElem?_eq_none (by omega)] at ho
   subst ho
   rw [if_neg (by omega)]
   rfl
def atZ (F:Nat->FrameV) (len k:Nat):Int :=
 VO (LN (kJ (cD (F (k / 16)))) (if kY k=nD k (aV len) then none else some (kJ (cD (F (if k / 16=kY k then nD k (aV len) else kY k))))) (F (k / 16)).gains (k % 16))
theorem aA4 {fs:List FrameV} {F:Nat->FrameV} {len k:Nat} (hfs:∀ f ∈ fs,f.Len) (hF:∀ i x,fs[i]? = some x->F i=x) (hn:fs.length=aV len) (hk:k < len):(FC fs (len:Nat))[k]? = some (atZ F len k):=by
 have hsp:∀ f ∈ fs,(cD f).length=16:=fun f _=>i7 f
 have hwl:=WH (gs:=(fs.map (·.gains)).flatten) (I4 hsp)
 have hc:aV len=(len+15) / 16:=by unfold aV; omega
 have hi:k / 16 < fs.length:=by omega
 obtain ⟨f,hf⟩:∃ f,fs[k / 16]? = some f:=⟨_,List.getElem?_eq_getElem hi⟩
 unfold FC K8
 rw [List.getElem?_map,List.getElem?_take,if_pos (by omega),sR (by rw [hwl]; omega),aAI hfs hf rfl]
 simp only [Option.map_some]
 unfold atZ
 rw [hF _ _ hf]
 congr 3
 unfold kY nD
 by_cases h8:k % 16 < 8
 ·simp only [if_pos h8]
  by_cases h0:k / 16=0
  ·rw [if_pos h0,if_pos (by omega)]
   rfl
  ·obtain ⟨y,hy⟩:∃ y,fs[k / 16 - 1]? = some y:=⟨_,List.getElem?_eq_getElem (by omega)⟩
   rw [if_neg h0,if_neg (by omega),hy,if_neg (by omega),hF _ _ hy]
   rfl
 ·simp only [if_neg h8]
  by_cases h1:k / 16+1 < fs.length
  ·obtain ⟨y,hy⟩:∃ y,fs[k / 16+1]? = some y:=⟨_,List.getElem?_eq_getElem h1⟩
   rw [hy,if_neg (by omega),if_pos trivial,show min (k / 16+1) (aV len - 1)=k / 16+1 by omega,hF _ _ hy]
   rfl
  ·rw [List.getElem?_eq_none (by omega),if_pos (by omega)]
   rfl
end
end Go.Proofs.YtnbbfblaipjcmaaGreatDoor
