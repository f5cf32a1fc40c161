/- Parts, LiftB, GainA, FitA, FitB, FitC, GainB, FitD. Conditions: as each theorem states. -/
import Derived.ChangeKeysEq
import Derived.Laws.Tables
import Derived.Test.YtnbbfblaipjcmaaGreatDoorPv04
import Derived.Test.YtnbbfblaipjcmaaGreatDoorPv06
import Derived.Test.YtnbbfblaipjcmaaGreatDoorPv05
import Derived.Test.YtnbbfblaipjcmaaGreatDoorPv13
set_option maxRecDepth 100000
set_option maxHeartbeats 4000000
namespace Go.Proofs.YtnbbfblaipjcmaaGreatDoor
section
open Go.RowKit
section
variable {P : Program} {ops : Array Oper} {rest : List Oper} {o : Oper} {a : Act} {w : World} {Q : Exit → Act → World → Prop}
theorem KJ (g off j:Nat):(⟨g,off,none⟩:Addr).add j=⟨g,off+j,none⟩:=by
 unfold Addr.add
 split
 ·rename_i h; simp_all
 ·rfl
theorem pH (w:World) (g off:Nat) (ty:TypeId) (xs:List Value) (d:TypeDesc) (h:∀ j v,xs[j]? = some v->w.cell? ⟨g,off+j,none⟩=some v)
  (hu:P.underlying ty=some d) (hd:(match d with | .struct _ | .array _ _=>true | _=>false)=true) (hi:(P.info? ty).map (·.size)=some xs.length) :
  (loadVar ty ⟨g,off,none⟩).run P w=.ok (.agg xs.toArray) w:=by
 have hl:(loadCells ⟨g,off,none⟩ xs.length).run P w=.ok xs.toArray w :=
  run_loadCells_list (P:=P) w ⟨g,off,none⟩ xs (fun j v hv=>by rw [KJ]; exact h j v hv)
 cases hq:P.info? ty with
 | none=>simp [hq] at hi
 | some i =>
  have hs:i.size=xs.length:=by simpa [hq] using hi
  have hagg:(isAgg ty).run P w=.ok true w:=by
   unfold isAgg
   rw [Sem.run_bind,run_underlying hu w]
   cases d <;> simp_all
  simp [loadVar,Sem.run_bind,hagg,sizeOf,typeInfo,hq,hs,hl]
theorem aN (hgd:Region.wanted o (yielded ops a.tmps)=true) (ty:TypeId) (x:Operand) (ho:o.op=.load ty x)
  (g off:Nat) (hx:a.eval x=.pointer (some ⟨g,off,none⟩)) (xs:List Value) (d:TypeDesc) (h:∀ j v,xs[j]? = some v->w.cell? ⟨g,off+j,none⟩=some v)
  (hu:P.underlying ty=some d) (hd:(match d with | .struct _ | .array _ _=>true | _=>false)=true) (hi:(P.info? ty).map (·.size)=some xs.length)
  (hk:wpList P ops Q rest (a.put o.dst (.agg xs.toArray)) w):wpList P ops Q (o :: rest) a w :=
 lS hgd fun _ hK=>by
  unfold Oper.wp execOp
  simp only [ho,hx,Instr.loadAt,Instr.sureAddr,Sem.run_bind,Sem.run_pure,Result.andThen_ok,pH w g off ty xs d h hu hd hi]
  exact hK _ _ hk
theorem bA {C:World->Prop} {K:Act->Prop} (ty:TypeId) (x:Operand) (ho:o.op=.load ty x)
  (g off:Nat) (hx:a.eval x=.pointer (some ⟨g,off,none⟩)) (xs:List Value) (d:TypeDesc) (h:∀ w,C w->∀ j v,xs[j]? = some v->w.cell? ⟨g,off+j,none⟩=some v)
  (hu:P.underlying ty=some d) (hd:(match d with | .struct _ | .array _ _=>true | _=>false)=true) (hi:(P.info? ty).map (·.size)=some xs.length)
  (hk:K (a.put o.dst (.agg xs.toArray))):o.quiet P a C K:=by
 refine ⟨_,fun w hw=>?_,hk⟩
 unfold Oper.quietAt execOp
 simp only [ho,hx,Instr.loadAt,Instr.sureAddr,Sem.run_bind,Sem.run_pure,Result.andThen_ok,pH w g off ty xs d (h w hw) hu hd hi]
 exact ⟨rfl,rfl⟩
theorem cX (hgd:o.guard=none) (t:TypeId) (parts:Array (Nat × Operand)) (ho:o.op=.build t parts) (cs:Array Value)
  (hb:P.built t (parts.map fun (i,x)=>(i,a.eval x)).toList=some cs) (h:wpList P ops Q rest (a.put o.dst (.agg cs)) w):wpList P ops Q (o :: rest) a w :=
 wpList_build hgd t parts ho (by rw [hb]; rfl) (by rw [hb]; exact h)
end
theorem ZH:(Tryz.prog.info? 2).map (·.size)=some 1:=by kernel_rfl
theorem mN:Tryz.prog.arrayLen 48=16:=by kernel_rfl
theorem xO:Tryz.prog.underlying 48=some (.array (Tryz.prog.arrayLen 48) (Tryz.prog.elem 48)):=by kernel_rfl
theorem uK (W:World):(sizeOf (Tryz.prog.elem 48)).run Tryz.prog W=.ok 1 W:=by kernel_rfl
theorem oC (g off:Nat) (l h:Int) (x y:Nat) (hl:l=x) (hh:h=y) (h1:x<=y) (h2:y<=16) (hx:x < 16) (W:World) :
  (Instr.sliceAt 48 (.pointer (some ⟨g,off,none⟩)) (some (.int .i64 l)) (some (.int .i64 h)) none).run Tryz.prog W=.ok (.slice (some ⟨g,off+x,none⟩) (y - x) (16 - x)) W:=by
 subst hl hh
 rw [run_sliceAt_array_lh W 48 ⟨g,off,none⟩ xO .i64 .i64 x y (by omega) (by omega) (by rw [mN]; omega),uK W]
 simp only [Result.andThen_ok,slicedAt,mN,Int.toNat_natCast,Nat.mul_one]
 rw [if_neg (by omega),KJ]
/-! Frames. -/
def FrameV.cells (f:FrameV) (tv:Value):List Value:=f.gains.map (Value.int .i64) ++ (tv :: (f.scale.map (Value.int .i64) ++ (f.width.map (Value.int .i64) ++ f.q.map (Value.int .i64))))
structure FrameV.Len (f:FrameV):Prop where
 g:f.gains.length=4
 s:f.scale.length=4
 w:f.width.length=4
 q:f.q.length=16
theorem FrameV.cells_len {f:FrameV} (h:f.Len) (tv:Value):(f.cells tv).length=29:=by
 unfold FrameV.cells
 simp [h.g,h.s,h.w,h.q]
theorem bX:(Tryz.prog.info? 50).map (·.size)=some 29:=by kernel_rfl
theorem sP {l:List Int} (h:l.length=4):∃ a b c d,l=[a,b,c,d]:=by
 match l,h with
 | [a,b,c,d],_=>exact ⟨a,b,c,d,rfl⟩
theorem vD {l:List Int} (h:l.length=16):∃ a0 a1 a2 a3 a4 a5 a6 a7 a8 a9 b0 b1 b2 b3 b4 b5,l=[a0,a1,a2,a3,a4,a5,a6,a7,a8,a9,b0,b1,b2,b3,b4,b5]:=by
 match l,h with
 | [a0,a1,a2,a3,a4,a5,a6,a7,a8,a9,b0,b1,b2,b3,b4,b5],_=>exact ⟨a0,a1,a2,a3,a4,a5,a6,a7,a8,a9,b0,b1,b2,b3,b4,b5,rfl⟩
theorem OR (f:FrameV) (h:f.Len) (A:Option Addr) (n c:Nat) :
  Tryz.prog.built 50 [(0,aT f.gains),(1,.slice A n c),(2,aT f.scale),(3,aT f.width),(4,aT f.q)]=some (f.cells (.slice A n c)).toArray:=by
 obtain ⟨g,ts,s,wd,q⟩:=f
 obtain ⟨hg,hs,hw,hq⟩:=h
 simp only at hg hs hw hq
 obtain ⟨g0,g1,g2,g3,rfl⟩:=sP hg
 obtain ⟨s0,s1,s2,s3,rfl⟩:=sP hs
 obtain ⟨w0,w1,w2,w3,rfl⟩:=sP hw
 obtain ⟨a0,a1,a2,a3,a4,a5,a6,a7,a8,a9,b0,b1,b2,b3,b4,b5,rfl⟩:=vD hq
 kernel_rfl
end
section
open Go.Lib (hid)
open Go.RowKit
def i8 (m:Nat):List Value:=((List.range 8).map fun k=>if k < m then (bE k).cells else [.int .i64 0,.int .i64 0]).flatten
def bI:Array Value:=(i8 8).toArray
theorem AN (m:Nat):(i8 m).length=16:=by
 unfold i8
 simp [List.range,List.range.loop]
 repeat' split
 all_goals rfl
theorem RQ {m:Nat} (hm:m < 8):((i8 m).set (m*2) (.int .i64 (bE m).p)).set (m*2+1) (.int .i64 (bE m).u)=i8 (m+1):=by
 have hk8:m=0\/m=1\/m=2\/m=3\/m=4\/m=5\/m=6\/m=7:=by omega
 rcases hk8 with rfl | rfl | rfl | rfl | rfl | rfl | rfl | rfl <;> rfl
theorem RP {m:Nat} (hm:m < 8):(i8 m)[m*2]? = some (.int .i64 0)/\(i8 m)[m*2+1]? = some (.int .i64 0):=by
 have hk8:m=0\/m=1\/m=2\/m=3\/m=4\/m=5\/m=6\/m=7:=by omega
 rcases hk8 with rfl | rfl | rfl | rfl | rfl | rfl | rfl | rfl <;> exact ⟨rfl,rfl⟩
theorem AO (m:Nat):(i8 m).toArray.all (·.oneCell')=true:=by
 rw [Array.all_eq_true_iff_forall_mem]
 intro v hv
 rw [List.mem_toArray] at hv
 unfold i8 at hv
 obtain ⟨l,hl,hv⟩:=List.mem_flatten.1 hv
 obtain ⟨k,_,rfl⟩:=List.mem_map.1 hl
 split at hv
 ·simp [TurnV.cells] at hv
  rcases hv with rfl | rfl <;> rfl
 ·simp at hv
  subst hv; rfl
theorem JE:(Tryz.prog.info? 98).map (·.size)=some 16:=by kernel_rfl
theorem JD:(Tryz.prog.info? 100).map (·.size)=some 16:=by kernel_rfl
theorem BF:(Tryz.prog.info? 102).map (·.size)=some 16:=by kernel_rfl
theorem BE:(Tryz.prog.info? 104).map (·.size)=some 32:=by kernel_rfl
theorem IK (w:World):Calls Tryz.prog 149 #[] w fun e w'=>e=.returned (.agg bI)/\Below w.heap.size w w':=by
 have H2:=hid (wF w (.cells (List.replicate 16 (Value.int .i64 0)).toArray 98) (.cells (List.replicate 16 (Value.int .i64 0)).toArray 98))
 go_enter Tryz.func149,Tryz.ntmps149
 go_wp2
 go_loopw [3] (fun i wr=>∃ m:Nat,m<=8/\i=.int .i64 m/\Blk wr (w.heap.size+1) 98 (i8 m)/\Blk wr w.heap.size 98 (List.replicate 16 (.int .i64 0))/\Below w.heap.size w wr) (fun i _=>8 - (intOf i).toNat)
 case atStart=>exact ⟨0,by omega,rfl,H2.out.2.1,H2.out.1,H2.out.2.2.2⟩
 case round =>
  obtain ⟨m,hm,rfl,hB,hZ,hbel⟩:=hrel
  have HB:=hid hB
  have HZ:=hid hZ
  have Hbel:=hid hbel
  clear hB hZ hbel H2
  by_cases hlk:m < 8
  ·have t1:(m:Int) < 8:=by omega
   have HS:=hid (RQ hlk)
   have HG:=hid (RP hlk)
   have HT:=hid (fun W=>tX m W hlk)
   generalize bE m=tk at *
   obtain ⟨p,u⟩:=tk
   simp only at HS HT
   go_wp2_with (go_at_call 153; fail)
   refine (HT.out _).mono ?_
   rintro e w1 ⟨rfl,hb1⟩
   have B1:=hid (HB.out.below hb1 HB.out.lt)
   have Z1:=hid (HZ.out.below hb1 HZ.out.lt)
   have L1:=hid (aC Hbel.out hb1)
   have ce1:w1.cell? ⟨w.heap.size+1,m*2,none⟩=some (.int .i64 0):=(B1.out.cell _).trans HG.out.1
   have fz1:=B1.out.frozen (m*2)
   have S1:=hid (B1.out.set_ (m*2) (.int .i64 p))
   have ce2:(w1.setCell ⟨w.heap.size+1,m*2,none⟩ (.int .i64 p)).cell? ⟨w.heap.size+1,m*2+1,none⟩=some (.int .i64 0):=by
    rw [S1.out.cell,List.getElem?_set,if_neg (by omega)]; exact HG.out.2
   have fz2:=S1.out.frozen (m*2+1)
   clear hb1
   go_wp2
   go_roundw
   case rel =>
    refine ⟨m+1,by omega,by go_num,?_,(Z1.out.far (by simp) _).far (by simp) _,(L1.out.setCell (by simp) _).setCell (by simp) _⟩
    rw [<-HS.out]
    exact S1.out.set_ _ _
   case measure=>simp [intOf]; omega
  ·have hm8:m=8:=by omega
   subst hm8
   have t1:¬ (((8:Nat):Int) < 8):=by omega
   have hH:=hid (show wr.heap[w.heap.size+1]? = some (.cells (i8 8).toArray 98 (0,0)) from HB.out)
   have hH2:=hid (show wr.heap[w.heap.size]? = some (.cells (List.replicate 16 (Value.int .i64 0)).toArray 98 (0,0)) from HZ.out)
   have H1:=hid (AO 8)
   have hsz2:(i8 8).toArray.size=16:=by simp [AN]
   obtain ⟨xs,hxs⟩:∃ xs,(i8 8).toArray=xs:=⟨_,rfl⟩
   rw [hxs] at hH H1 hsz2
   have HE:=hid hxs
   clear hxs
   have HF2:=hid (show (Tryz.prog.info? 98).map (·.size)=some xs.size by rw [hsz2]; exact JE)
   have Hsz:=hid hsz2
   clear hsz2
   go_wp2_with (first | (refine aB rfl 98 (.tmp 1) rfl (w.heap.size+1) rfl _ xs _ _ hH.out Tryz.underlying98 rfl HF2.out ?_) | (refine aA rfl 98 (.tmp 0) (.tmp 11) rfl w.heap.size rfl _ _ xs rfl hH2.out HF2.out (by rw [Hsz.out]; simp) H1.out ?_))
   refine bodyPost_ret (v:=.agg xs) (results_cell_row Tryz.results149 _ _ w.heap.size 98 xs (0,0) _ rfl (bB wr _ _ _ xs hH2.out) Tryz.underlying98 rfl HF2.out) rfl ?_
   exact ⟨by rw [<-HE.out]; rfl,aO Hbel.out _ (by omega) _⟩
theorem cH:bI.size=16:=by simp [bI,AN]
theorem vI:bI.all (·.oneCell')=true:=AO 8
def fA:Array Value:=bI ++ bI
theorem iW:fA.size=32:=by simp [fA,cH]
theorem aBH:fA.all (·.oneCell')=true:=by
 unfold fA
 rw [Array.all_append,vI]; rfl
theorem NK:Tryz.prog.built 100 [(0,.agg bI)]=some bI:=by kernel_rfl
theorem YM:Tryz.prog.built 102 [(0,.agg bI)]=some bI:=by kernel_rfl
theorem YL:Tryz.prog.built 104 [(0,.agg bI),(1,.agg bI)]=some fA:=by kernel_rfl
theorem PS (w:World):Calls Tryz.prog 148 #[.agg bI] w fun e w'=>e=.returned (.agg bI)/\Below w.heap.size w w':=by
 have HT:=hid NK
 have HF:=hid (show (Tryz.prog.info? 98).map (·.size)=some bI.size by rw [cH]; exact JE)
 have HP:=hid (show (Tryz.prog.info? 100).map (·.size)=some bI.size by rw [cH]; exact JD)
 have H1:=hid vI
 have Hs:=hid (show (List.replicate 16 (Value.int .i64 0)).toArray.size=bI.size by rw [cH]; rfl)
 generalize bI=tv at *
 have H2:=hid (wF w (.cells tv 98) (.cells (List.replicate 16 (Value.int .i64 0)).toArray 100))
 go_enter Tryz.func148,Tryz.ntmps148
 go_wp2_with (refine aB rfl 98 (.tmp 1) rfl w.heap.size rfl _ tv _ _ H2.out.1 Tryz.underlying98 rfl HF.out ?_; refine cX rfl 100 _ rfl tv (by simpa [Act.eval,Act.put] using HT.out) ?_; refine aA rfl 100 (.tmp 2) (.tmp 4) rfl (w.heap.size+1) rfl _ _ tv rfl H2.out.2.1 HP.out Hs.out H1.out ?_)
 refine bodyPost_ret (v:=.agg tv) (results_cell_row Tryz.results148 _ _ (w.heap.size+1) 100 tv (0,0) _ rfl (bB _ _ _ _ tv H2.out.2.1) Tryz.underlying100 rfl HP.out) rfl ?_
 exact ⟨rfl,aO H2.out.2.2.2 _ (by omega) _⟩
theorem U6 (w:World):Calls Tryz.prog 150 #[] w fun e w'=>e=.returned (.agg bI)/\Below w.heap.size w w':=by
 have HT:=hid YM
 have HTu:=hid IK
 have HP:=hid (show (Tryz.prog.info? 102).map (·.size)=some bI.size by rw [cH]; exact BF)
 have H1:=hid vI
 have Hs:=hid (show (List.replicate 16 (Value.int .i64 0)).toArray.size=bI.size by rw [cH]; rfl)
 generalize bI=tv at *
 have HM:=hid (heap_alloc_new w (.cells (List.replicate 16 (Value.int .i64 0)).toArray 102))
 go_enter Tryz.func150,Tryz.ntmps150
 go_wp2_with (go_at_call 149; fail)
 refine (HTu.out _).mono ?_
 rintro e w1 ⟨rfl,hb1⟩
 have M1:=hid (aF HM.out hb1)
 have B1:=hid (aC (aL w _) hb1)
 clear hb1
 go_wp2_with (first | (refine cX rfl 102 _ rfl tv (by simpa [Act.eval] using HT.out) ?_) | (refine aA rfl 102 (.tmp 0) (.tmp 2) rfl w.heap.size rfl _ _ tv rfl M1.out HP.out Hs.out H1.out ?_))
 refine bodyPost_ret (v:=.agg tv) (results_cell_row Tryz.results150 _ _ w.heap.size 102 tv (0,0) _ rfl (bB _ _ _ _ tv M1.out) Tryz.underlying102 rfl HP.out) rfl ?_
 exact ⟨rfl,aO B1.out _ (by omega) _⟩
theorem EC (w:World):Calls Tryz.prog 107 #[] w fun e w'=>e=.returned (.agg fA)/\Below w.heap.size w w':=by
 have HT:=hid YL
 have HTu:=hid IK
 have HLi:=hid PS
 have HNe:=hid U6
 have HP:=hid (show (Tryz.prog.info? 104).map (·.size)=some fA.size by rw [iW]; exact BE)
 have H1:=hid aBH
 have Hs:=hid (show (List.replicate 32 (Value.int .i64 0)).toArray.size=fA.size by rw [iW]; rfl)
 generalize fA=lv at *
 generalize bI=tv at *
 have HM:=hid (heap_alloc_new w (.cells (List.replicate 32 (Value.int .i64 0)).toArray 104))
 go_enter Tryz.func107,Tryz.ntmps107
 go_wp2_with (go_at_call 149; fail)
 refine (HTu.out _).mono ?_
 rintro e w1 ⟨rfl,hb1⟩
 have M1:=hid (aF HM.out hb1)
 have B1:=hid (aC (aL w _) hb1)
 clear hb1
 go_wp2_with (go_at_call 148; fail)
 refine (HLi.out _).mono ?_
 rintro e w2 ⟨rfl,hb2⟩
 have M2:=hid (aF M1.out hb2)
 have B2:=hid (aC B1.out hb2)
 clear hb2
 go_wp2_with (go_at_call 150; fail)
 refine (HNe.out _).mono ?_
 rintro e w3 ⟨rfl,hb3⟩
 have M3:=hid (aF M2.out hb3)
 have B3:=hid (aC B2.out hb3)
 clear hb3
 go_wp2_with (first | (refine cX rfl 104 _ rfl lv (by simpa [Act.eval] using HT.out) ?_) | (refine aA rfl 104 (.tmp 0) (.tmp 4) rfl w.heap.size rfl _ _ lv rfl M3.out HP.out Hs.out H1.out ?_))
 refine bodyPost_ret (v:=.agg lv) (results_cell_row Tryz.results107 _ _ w.heap.size 104 lv (0,0) _ rfl (bB _ _ _ _ lv M3.out) Tryz.underlying104 rfl HP.out) rfl ?_
 exact ⟨rfl,aO B3.out _ (by omega) _⟩
end
section
open Go.Lib (hid)
open Go.RowKit
def GainB (g:List Int):Prop:=g.length=4/\gY g=true
theorem GainB.get {g:List Int} (h:GainB g) {q:Nat} {x:Int} (hx:g[q]? = some x):0<=x/\x<=3:=by
 have:=List.all_eq_true.1 h.2 x (List.mem_of_getElem? hx)
 unfold inB at this
 simpa using this
theorem SC (g:List Int) (i:Nat) (w:World) (hg:GainB g) (hi:i < 16) :
  Calls Tryz.prog 156 #[aT g,.int .i64 i] w fun e w'=>e=.returned (.int .i64 (bgt g (i / 4)))/\Below w.heap.size w w':=by
 have HR:=hid (fun W=>oI g W hg.1)
 rw [hg.2] at HR
 obtain ⟨q,hq⟩:∃ q,i / 4=q:=⟨_,rfl⟩
 obtain ⟨x,hx⟩:=aE (k:=q) hg.1 (by omega)
 rw [hq,aD hx]
 have hqi:(i:Int) / 4=(q:Int):=by omega
 have hq4:(q:Int) < 4:=by omega
 have hq0:(0:Int)<=(q:Int):=by omega
 have e1:decide ((i:Int) < 0)=false:=decide_eq_false (by omega)
 have e2:decide ((16:Int)<=(i:Int))=false:=decide_eq_false (by omega)
 have hcx:=eP hx
 have hgz:(g.map (Value.int .i64)).toArray.size=4:=by simp [hg.1]
 unfold aT at *
 generalize (g.map (Value.int .i64)).toArray=gv at *
 have HFg:=hid (show (Tryz.prog.info? 45).map (·.size)=some gv.size by rw [hgz]; exact bY)
 have HM:=hid (heap_alloc_new w (.cells gv 45))
 have Hcx:=hid hcx
 clear hgz hg hx hq hi hcx
 go_enter Tryz.func156,Tryz.ntmps156
 go_wp2_with (first | (go_at_call 139; fail) | (refine aB rfl 45 (.tmp 2) rfl w.heap.size rfl _ gv _ _ HM.out Tryz.underlying45 rfl HFg.out ?_))
 refine (HR.out _).mono ?_
 rintro e w1 ⟨rfl,hb1⟩
 have ce:w1.cell? ⟨w.heap.size,q,none⟩=some (.int .i64 x):=(cell_of_row w1 w.heap.size q _ _ _ (aF HM.out hb1)).trans Hcx.out
 have B1:=hid (aC (aL w _) hb1)
 clear hb1
 go_wp2
 go_ret
 exact ⟨rfl,B1.out⟩
theorem MI {x:Int} {k:Nat} (h:-1099511627776<=x/\x<=1099511627776) (hk:k<=3):IntKind.i64.wrap (x*2 ^ k)=x*2 ^ k:=by
 have hk4:k=0\/k=1\/k=2\/k=3:=by omega
 rcases hk4 with rfl | rfl | rfl | rfl
 ·rw [show (2:Int) ^ 0=1 by decide]; exact IntWalk.i64_in _ (by omega)
 ·rw [show (2:Int) ^ 1=2 by decide]; exact IntWalk.i64_in _ (by omega)
 ·rw [show (2:Int) ^ 2=4 by decide]; exact IntWalk.i64_in _ (by omega)
 ·rw [show (2:Int) ^ 3=8 by decide]; exact IntWalk.i64_in _ (by omega)
def TurnB (b:List Int):Prop:=∀ (k:Nat) (x:Int),b[k]? = some x->-1099511627776<=x/\x<=1099511627776
theorem aDv (b g:List Int) (w:World) (hb:b.length=16) (hr:TurnB b) (hg:GainB g) :
  Calls Tryz.prog 234 #[aT b,aT g] w fun e w'=>e=.returned (aT (bH b g 16))/\Below w.heap.size w w':=by
 have HA:=hid (fun i W (hi:i < 16)=>SC g i W hg hi)
 have HG:=hid (fun q x (hx:g[q]? = some x)=>hg.get hx)
 have Hgl:=hid hg.1
 have Hb:=hid hb
 have Hr:=hid hr
 have hgz:(g.map (Value.int .i64)).toArray.size=4:=by simp [hg.1]
 unfold aT at *
 generalize (g.map (Value.int .i64)).toArray=gv at *
 have HFg:=hid (show (Tryz.prog.info? 45).map (·.size)=some gv.size by rw [hgz]; exact bY)
 have H3:=hid (zU w (.cells (b.map (Value.int .i64)).toArray 48) (.cells gv 45) (.cells (List.replicate 16 (Value.int .i64 0)).toArray 48))
 generalize hbv:b.map (Value.int .i64)=bv at *
 have Hbv:=hid hbv
 clear hgz hg hb hr hbv
 go_enter Tryz.func234,Tryz.ntmps234
 go_wp2_with fail
 go_loopw [6] (fun i wr=>∃ (m:Nat),m<=16/\i=.int .i64 m/\Blk wr w.heap.size 48 ((bH b g m).map (Value.int .i64))/\wr.heap[w.heap.size+1]? = some (.cells gv 45 (0,0))/\Blk wr (w.heap.size+1+1) 48 (List.replicate 16 (.int .i64 0))/\Below w.heap.size w wr) (fun i _=>16 - (intOf i).toNat)
 case atStart=>exact ⟨0,by omega,rfl,by rw [uB g Hb.out,Hbv.out]; exact H3.out.1,H3.out.2.1,H3.out.2.2.1,H3.out.2.2.2.2⟩
 case round =>
  obtain ⟨m,hm,rfl,hB,hG,hZ,hbel⟩:=hrel
  have HB:=hid hB
  have HGr:=hid hG
  have HZ:=hid hZ
  have Hbel:=hid hbel
  clear H3
  by_cases hlk:m < 16
  ·have t1:(m:Int) < 16:=by omega
   obtain ⟨x,hx⟩:=aE (k:=m) Hb.out hlk
   obtain ⟨q,hq⟩:∃ q,m / 4=q:=⟨_,rfl⟩
   obtain ⟨y,hy⟩:=aE (k:=q) Hgl.out (by omega)
   obtain ⟨y0,y1⟩:=HG.out q y hy
   obtain ⟨p,rfl⟩:=Int.eq_ofNat_of_zero_le y0
   have HAt:=hid (fun W=>HA.out m W hlk)
   rw [hq,aD hy] at HAt
   have hwr:=MI (Hr.out m x hx) (k:=p) (by omega)
   have HSt:=hid (show (bH b g m).set m (x*2 ^ p)=bH b g (m+1) by
    rw [<-uA b g hlk,aD hx,hq,aD hy,Int.toNat_natCast])
   have hc2:((bH b g m).map (Value.int .i64))[m]? = some (.int .i64 x):=by rw [List.getElem?_map,xD b g hlk (Nat.le_refl m) hx]; rfl
   have x5:=jY hB
   have P1:=fC hG
   have t2:(0:Int)<=(p:Int):=by omega
   have t3:(p:Int)<=64:=by omega
   obtain ⟨s2,hs2⟩:∃ s2:Int,x*2 ^ p=s2:=⟨_,rfl⟩
   rw [hs2] at HSt hwr
   clear hx hy hq hB hG hZ hbel y0 y1
   go_wp2_with fail
   refine aI 8 (by kernel_rfl) (by kernel_rfl) ?_
   simp only [List.take_succ_cons,List.take_zero,List.drop_succ_cons,List.drop_zero]
   repeat (first | (go_big_quiet_want; refine bO 45 (.tmp 3) rfl (w.heap.size+1) rfl _ gv _ _ P1 Tryz.underlying45 rfl HFg.out ?_; go_simp; go_big_quiet_on) | go_big_quiet_step ((go_at_call 156; exact bZ (HAt.out _))))
   refine wpQuiet_nil ?_
   intro w5 hw'
   have hb5:=aK hw'
   have hB5:=HB.out.below hb5 HB.out.lt
   have HB5:=hid hB5
   have HZ5:=hid (HZ.out.below hb5 HZ.out.lt)
   have HG5:=hid (aF HGr.out hb5)
   have Hb5:=hid (aC Hbel.out hb5)
   have ce:w5.cell? ⟨w.heap.size,m,none⟩=some (.int .i64 x):=by rw [hB5.cell]; exact hc2
   have fz:=hB5.frozen m
   clear hw' hb5 x5 P1 hB5
   go_wp2
   go_roundw
   case rel =>
    refine ⟨m+1,by omega,by go_num,?_,(Below.heap_setCell w5 _ _ _ (by simp)).trans HG5.out,HZ5.out.far (by simp; omega) _,Hb5.out.setCell (by simp) _⟩
    rw [<-HSt.out,List.map_set]
    exact HB5.out.set_ m _
   case measure=>simp [intOf]; omega
  ·have hm16:m=16:=by omega
   subst hm16
   have t1:¬ (((16:Nat):Int) < 16):=by omega
   have hH:=hid (show wr.heap[w.heap.size]? = some (.cells ((bH b g 16).map (Value.int .i64)).toArray 48 (0,0)) from HB.out)
   have hH2:=hid (show wr.heap[w.heap.size+1+1]? = some (.cells (List.replicate 16 (Value.int .i64 0)).toArray 48 (0,0)) from HZ.out)
   have H1:=hid (e9 (bH b g 16))
   have hsz2:((bH b g 16).map (Value.int .i64)).toArray.size=16:=by simp [kU]
   obtain ⟨xs,hxs⟩:∃ xs,((bH b g 16).map (Value.int .i64)).toArray=xs:=⟨_,rfl⟩
   rw [hxs] at hH H1 hsz2
   have HE:=hid hxs
   clear hxs
   have HF2:=hid (show (Tryz.prog.info? 48).map (·.size)=some xs.size by rw [hsz2]; exact bS)
   have Hsz:=hid hsz2
   clear hsz2 hB hG hZ
   go_wp2_with (first | (refine aB rfl 48 (.tmp 2) rfl w.heap.size rfl _ xs _ _ hH.out Tryz.underlying48 rfl HF2.out ?_) | (refine aA rfl 48 (.tmp 4) (.tmp 18) rfl (w.heap.size+1+1) rfl _ _ xs rfl hH2.out HF2.out (by rw [Hsz.out]; simp) H1.out ?_))
   refine bodyPost_ret (v:=.agg xs) (results_cell_row Tryz.results234 _ _ (w.heap.size+1+1) 48 xs (0,0) _ rfl (bB wr _ _ _ xs hH2.out) Tryz.underlying48 rfl HF2.out) rfl ?_
   exact ⟨by rw [<-HE.out],aO Hbel.out _ (by omega) _⟩
end
section
open Go.Lib (hid)
open Go.RowKit
structure TonesOk (b:List Int) (ts:List ToneV):Prop where
 len:ts.length<=1000
 big:∀ m,m<=ts.length->BigB (cY b (ts.take m))
 each:∀ t ∈ ts,t.big
theorem TonesOk.out {b:List Int} {ts:List ToneV} (h:TonesOk b ts):BigB (cY b ts):=by
 have:=h.big ts.length (Nat.le_refl _)
 rwa [List.take_length] at this
theorem aCh (b g s:List Int) (ts:List ToneV) (A:Option Addr) (cap:Nat) (w:World) (hb:b.length=16) (hg:g.length=4) (hs:ScB s) (ht:TonesOk b ts) (hr:Row w w.heap.size A (aW ts)) :
  Calls Tryz.prog 264 #[aT b,aT g,aT s,.slice A ts.length cap] w fun e w'=>e=.returned (.agg ((dB b g s ts).cells (.slice A ts.length cap)).toArray)/\Below w.heap.size w w':=by
 have HO:=hid (fun W (hW:Below w.heap.size w W)=>AL b ts A cap W hb (by have:=ht.len; omega) (hr.later hW) ht.big ht.each)
 have hol:(cY b ts).length=16:=by rw [rZ,hb]
 have HSt:=hid (fun W=>YB (cY b ts) s W hol hs.1 ht.out hs.ok)
 have hsb:BigB (cF (cY b ts) s 16):=by
  intro k x hx
  have hk:k < 16:=by
   have:=(List.getElem?_eq_some_iff.1 hx).1
   rwa [j7] at this
  have h1:=oE (cY b ts) s (m:=16) hk
  rw [aD hx,if_pos hk] at h1
  obtain ⟨y,hy⟩:=aE hol hk
  have hyb:=ht.out k y hy
  rw [aD hy] at h1
  have:=LJ hyb.1 hyb.2 (bgt s (k / 4)).toNat
  omega
 have HW:=hid (fun W=>SR (cF (cY b ts) s 16) W (j7 _ _ _) hsb)
 have hT:dB b g s ts=⟨g,ts,s,jS (cF (cY b ts) s 16),cF (cY b ts) s 16⟩:=by unfold dB eL; rw [if_pos hs.ok]
 have HT:=hid (OR (dB b g s ts) ⟨by rw [hT]; exact hg,by rw [hT]; exact hs.1,by rw [hT]; exact gM _ _,by rw [hT]; exact j7 _ _ _⟩ A ts.length cap)
 rw [hT] at HT ⊢
 have HL:=hid (FrameV.cells_len (f:=⟨g,ts,s,jS (cF (cY b ts) s 16),cF (cY b ts) s 16⟩) ⟨hg,hs.1,gM _ _,j7 _ _ _⟩ (.slice A ts.length cap))
 have h3l:((cF (cY b ts) s 16).map (Value.int .i64)).toArray.size=16:=by simp [j7]
 have h31:=e9 (cF (cY b ts) s 16)
 simp only at HT
 unfold aT at *
 generalize hfc:(FrameV.cells ⟨g,ts,s,jS (cF (cY b ts) s 16),cF (cY b ts) s 16⟩ (.slice A ts.length cap)).toArray=fc at *
 have hfs:fc.size=29:=by rw [<-hfc]; simpa using HL.out
 have hf1:fc.all (·.oneCell')=true:=by
  rw [<-hfc,Array.all_eq_true_iff_forall_mem]
  intro v hv
  simp [FrameV.cells] at hv
  rcases hv with ⟨x,_,rfl⟩ | rfl | ⟨x,_,rfl⟩ | ⟨x,_,rfl⟩ | ⟨x,_,rfl⟩ <;> rfl
 have Hfs:=hid hfs
 have Hf1:=hid hf1
 have HFf:=hid (show (Tryz.prog.info? 50).map (·.size)=some fc.size by rw [hfs]; exact bX)
 clear hfs hf1 hfc HL hT
 have hz1:(b.map (Value.int .i64)).toArray.size=16:=by simp [hb]
 have hz2:(g.map (Value.int .i64)).toArray.size=4:=by simp [hg]
 have hz3:(s.map (Value.int .i64)).toArray.size=4:=by simp [hs.1]
 generalize ((cF (cY b ts) s 16).map (Value.int .i64)).toArray=sv at *
 generalize ((cY b ts).map (Value.int .i64)).toArray=ov at *
 generalize (b.map (Value.int .i64)).toArray=bv at *
 generalize (g.map (Value.int .i64)).toArray=gv at *
 generalize (s.map (Value.int .i64)).toArray=cv at *
 have HFb:=hid (show (Tryz.prog.info? 48).map (·.size)=some bv.size by rw [hz1]; exact bS)
 have HFs:=hid (show (Tryz.prog.info? 48).map (·.size)=some sv.size by rw [h3l]; exact bS)
 have HFg:=hid (show (Tryz.prog.info? 45).map (·.size)=some gv.size by rw [hz2]; exact bY)
 have HFc:=hid (show (Tryz.prog.info? 242).map (·.size)=some cv.size by rw [hz3]; exact m9)
 have Hs1:=hid h31
 have Hsl:=hid h3l
 have H4:=hid (aDs w (.cells bv 48) (.cells gv 45) (.cells cv 242) (.cells #[.int .i64 0,.int .i64 0,.int .i64 0,.int .i64 0,.slice none 0 0,.int .i64 0,.int .i64 0,.int .i64 0,.int .i64 0,.int .i64 0,.int .i64 0,.int .i64 0,.int .i64 0,.int .i64 0,.int .i64 0,.int .i64 0,.int .i64 0,.int .i64 0,.int .i64 0,.int .i64 0,.int .i64 0,.int .i64 0,.int .i64 0,.int .i64 0,.int .i64 0,.int .i64 0,.int .i64 0,.int .i64 0,.int .i64 0] 50))
 clear hz1 hz2 hz3 h31 h3l hb hg hs ht hr hol hsb
 go_enter Tryz.func264,Tryz.ntmps264
 go_wp2_with fail
 obtain ⟨H0,H1,H2,H3,Hz,HB⟩:=H4.out
 have K0:=hid H0
 have K1:=hid H1
 have K2:=hid H2
 have K3:=hid H3
 have KB:=hid HB
 have Kz:=hid Hz
 clear H0 H1 H2 H3 Hz HB H4
 refine pQ 6 (yG (w.heap.size+4) 5 (List.replicate 16 (Value.int .i64 0)).toArray 48) (by kernel_rfl) (by kernel_rfl) (tT _ _ _ _) ?_
 refine zI 0 5 1 (by decide) (by intro j hj; unfold yG; rw [if_neg (by omega)]) (fun W hW=>?_)
 simp only [List.take_succ_cons,List.take_zero,List.drop_succ_cons,List.drop_zero]
 have HB1:=kC KB.out (by omega) hW
 have HOW:=hid (fun (x:GW W)=>HO.out x.1 (aC HB1 x.2))
 have G0:=fC (aF K0.out hW)
 have G2:=fC (aF K2.out hW)
 repeat (first | (go_big_quiet_want; refine bO 48 (.tmp 4) rfl w.heap.size rfl _ bv _ _ G0 Tryz.underlying48 rfl HFb.out ?_; go_simp; go_big_quiet_on) | (go_big_quiet_want; refine bO 242 (.tmp 6) rfl (w.heap.size+1+1) rfl _ cv _ _ G2 Tryz.underlying242 rfl HFc.out ?_; go_simp; go_big_quiet_on) | go_big_quiet_step ((first | (go_at_call 263; exact bZ (HOW.out _)) | (go_at_call 277; exact bZ (HSt.out _)))))
 refine wpQuiet_nil ?_
 clear HB1 HOW G0 G2 hW
 refine zH 5 0 _ (w.heap.size+4) _ 48 rfl rfl (by rw [Kz.out]; omega) rfl (fun W=>rfl) (fun v=>?_)
 refine DC (fun W5 hW5 hG=>?_)
 obtain ⟨_,g5,hv,hg5,hz5⟩:=hG
 subst hv
 have HB5:=hid (kC KB.out (by omega) hW5)
 have L0:=hid (aF K0.out hW5)
 have L1:=hid (aF K1.out hW5)
 have L2:=hid (aF K2.out hW5)
 have L3:=hid (aF K3.out hW5)
 have L5:=hid hz5
 have l5:=hlt hz5
 have hz:=Nat.le_trans (Nat.le_of_eq Kz.out.symm) hW5.size
 clear hW5 hz5 W K0 K1 K2 K3 KB Kz
 simp only [Act.put,List.setIfInBounds_toArray,List.set_cons_zero,List.set_cons_succ]
 go_wp2_with (refine aA rfl 48 (.tmp 9) (.tmp 14) rfl g5 rfl _ (List.replicate 16 (Value.int .i64 0)).toArray sv rfl L5.out HFs.out (by rw [Hsl.out]; rfl) Hs1.out ?_)
 simp only [Act.put]
 have L5':=hid (bB W5 g5 _ _ sv L5.out)
 have hfar:∀ g,g < w.heap.size+4->∀ o,W5.heap[g]? = some o->(W5.setRow g5 sv).heap[g]? = some o:=fun g hg o ho=>((aO (B:=w.heap.size+4) (Below.refl _ W5) g5 (by omega) sv).block g hg).trans ho
 have L0':=hid (hfar _ (by omega) _ L0.out)
 have L1':=hid (hfar _ (by omega) _ L1.out)
 have L2':=hid (hfar _ (by omega) _ L2.out)
 have L3':=hid (hfar _ (by omega) _ L3.out)
 have LB':=hid (aO HB5.out g5 (by omega) sv)
 have hzz:(W5.setRow g5 sv).heap.size=W5.heap.size:=size_setRow _ _ _
 clear L0 L1 L2 L3 L5 HB5 hfar
 generalize W5.setRow g5 sv=W6 at *
 have P1:=fC L1'.out
 have P2:=fC L2'.out
 have P5:=fC L5'.out
 refine aI 6 (by kernel_rfl) (by kernel_rfl) ?_
 simp only [List.take_succ_cons,List.take_zero,List.drop_succ_cons,List.drop_zero]
 repeat (first | (go_big_quiet_want; refine bO 45 (.tmp 5) rfl (w.heap.size+1) rfl _ gv _ _ P1 Tryz.underlying45 rfl HFg.out ?_; go_simp; go_big_quiet_on) | (go_big_quiet_want; refine bO 242 (.tmp 6) rfl (w.heap.size+1+1) rfl _ cv _ _ P2 Tryz.underlying242 rfl HFc.out ?_; go_simp; go_big_quiet_on) | (go_big_quiet_want; refine bO 48 (.tmp 9) rfl g5 rfl _ sv _ _ P5 Tryz.underlying48 rfl HFs.out ?_; go_simp; go_big_quiet_on) | go_big_quiet_step ((go_at_call 278; exact bZ (HW.out _))))
 refine wpQuiet_nil ?_
 intro w7 hw7
 have hb7:=aK hw7
 have M3:=hid ((hb7.block (w.heap.size+1+1+1) (by omega)).trans L3'.out)
 have MB:=hid (aC LB'.out hb7)
 clear hw7 hb7 P1 P2 P5
 go_wp2_with (first | (refine cX rfl 50 _ rfl fc (by simpa [Act.eval] using HT.out) ?_) | (refine aA rfl 50 (.tmp 8) (.tmp 21) rfl (w.heap.size+1+1+1) rfl _ _ fc rfl M3.out HFf.out (by rw [Hfs.out]; rfl) Hf1.out ?_))
 refine bodyPost_ret (v:=.agg fc) (results_cell_row Tryz.results264 _ _ (w.heap.size+1+1+1) 50 fc (0,0) _ rfl (bB w7 _ _ _ fc M3.out) Tryz.underlying50 rfl HFf.out) rfl ?_
 exact ⟨rfl,aO MB.out _ (by omega) _⟩
end
section
open Go.RowKit
def aY (f:FrameV) (tv:Value):Array Value:=(f.cells tv).toArray
theorem fJ {f:FrameV} (h:f.Len) (tv:Value):(aY f tv).size=29:=by unfold aY; simpa using FrameV.cells_len h tv
theorem wC {f:FrameV} (h:f.Len) (tv:Value):(aY f tv)[4]? = some tv:=by
 unfold aY FrameV.cells
 simp [h.g]
theorem zM {f:FrameV} (h:f.Len) (tv:Value) {j:Nat} {v:Value} (hv:(f.gains.map (Value.int .i64))[j]? = some v):(aY f tv)[0+j]? = some v:=by
 have hj:j < 4:=by have:=(List.getElem?_eq_some_iff.1 hv).1; simpa [h.g] using this
 unfold aY FrameV.cells
 rw [List.getElem?_toArray,Nat.zero_add,List.getElem?_append_left (by simp [h.g,hj])]
 exact hv
theorem wA {f:FrameV} (h:f.Len) (tv:Value) {j:Nat} {v:Value} (hv:(f.scale.map (Value.int .i64))[j]? = some v):(aY f tv)[5+j]? = some v:=by
 have hj:j < 4:=by have:=(List.getElem?_eq_some_iff.1 hv).1; simpa [h.s] using this
 unfold aY FrameV.cells
 rw [List.getElem?_toArray,List.getElem?_append_right (by simp [h.g] <;> omega),List.length_map,h.g,show 5+j - 4=j+1 by omega,List.getElem?_cons_succ,List.getElem?_append_left (by simp [h.s,hj])]
 exact hv
theorem p8 {f:FrameV} (h:f.Len) (tv:Value) {j:Nat} {v:Value} (hv:(f.width.map (Value.int .i64))[j]? = some v):(aY f tv)[9+j]? = some v:=by
 have hj:j < 4:=by have:=(List.getElem?_eq_some_iff.1 hv).1; simpa [h.w] using this
 unfold aY FrameV.cells
 rw [List.getElem?_toArray,List.getElem?_append_right (by simp [h.g] <;> omega),List.length_map,h.g,show 9+j - 4=(j+4)+1 by omega,List.getElem?_cons_succ,List.getElem?_append_right (by simp [h.s]),List.length_map,h.s,
  show j+4 - 4=j by omega,List.getElem?_append_left (by simp [h.w,hj])]
 exact hv
theorem aBp {f:FrameV} (h:f.Len) (tv:Value) {j:Nat} {v:Value} (hv:(f.q.map (Value.int .i64))[j]? = some v):(aY f tv)[13+j]? = some v:=by
 have hj:j < 16:=by have:=(List.getElem?_eq_some_iff.1 hv).1; simpa [h.q] using this
 unfold aY FrameV.cells
 rw [List.getElem?_toArray,List.getElem?_append_right (by simp [h.g] <;> omega),List.length_map,h.g,show 13+j - 4=(j+8)+1 by omega,List.getElem?_cons_succ,List.getElem?_append_right (by simp [h.s] <;> omega),List.length_map,h.s,
  show j+8 - 4=j+4 by omega,List.getElem?_append_right (by simp [h.w]),List.length_map,h.w,show j+4 - 4=j by omega]
 exact hv
theorem lE (f:FrameV) {tv:Value} (ht:tv.oneCell'=true):(aY f tv).all (·.oneCell')=true:=by
 unfold aY
 rw [Array.all_eq_true_iff_forall_mem]
 intro v hv
 simp [FrameV.cells] at hv
 rcases hv with ⟨x,_,rfl⟩ | rfl | ⟨x,_,rfl⟩ | ⟨x,_,rfl⟩ | ⟨x,_,rfl⟩ <;> first | rfl | exact ht
theorem aAL (f:FrameV) (A:Option Addr) (c:Nat) (w:World) (h:f.Len) (ht:f.tones.length<=1000) (hw:∀ (k:Nat) (x:Int),f.width[k]? = some x->0<=x/\x<=1000) :
  Calls Tryz.prog 265 #[.agg (aY f (.slice A f.tones.length c))] w fun e w'=>e=.returned (.int .i64 (fT f))/\Below w.heap.size w w':=by
 have HC:=Lib.hid (fun W=>aAM f.width W h.w hw)
 have hsum:0<=bgt f.width 0+bgt f.width 1+bgt f.width 2+bgt f.width 3/\bgt f.width 0+bgt f.width 1+bgt f.width 2+bgt f.width 3<=4000:=by
  obtain ⟨a,ha⟩:=aE (k:=0) h.w (by omega)
  obtain ⟨b,hb⟩:=aE (k:=1) h.w (by omega)
  obtain ⟨d,hd⟩:=aE (k:=2) h.w (by omega)
  obtain ⟨e,he⟩:=aE (k:=3) h.w (by omega)
  rw [aD ha,aD hb,aD hd,aD he]
  have:=hw 0 a ha
  have:=hw 1 b hb
  have:=hw 2 d hd
  have:=hw 3 e he
  omega
 have HB:=Lib.hid (show fT f=52+28*(f.tones.length:Int)+4*(bgt f.width 0+bgt f.width 1+bgt f.width 2+bgt f.width 3) from rfl)
 have hc4:=wC h (.slice A f.tones.length c)
 have hpw:=Lib.hid (fun j v (hv:(f.width.map (Value.int .i64))[j]? = some v)=>p8 h (.slice A f.tones.length c) hv)
 have hwl:(f.width.map (Value.int .i64)).length=4:=by simp [h.w]
 have HF4:=Lib.hid (show (Tryz.prog.info? 45).map (·.size)=some (f.width.map (Value.int .i64)).length by rw [hwl]; exact bY)
 unfold aT at HC
 generalize aY f (.slice A f.tones.length c)=fc at *
 generalize bgt f.width 0+bgt f.width 1+bgt f.width 2+bgt f.width 3=sm at *
 generalize f.width.map (Value.int .i64)=wv at *
 generalize f.tones.length=tl at *
 have HM:=Lib.hid (heap_alloc_new w (.cells fc 50))
 obtain ⟨hs0,hs1⟩:=hsum
 have hw1:IntKind.i64.wrap (28*(tl:Int))=28*(tl:Int):=IntWalk.i64_in _ (by omega)
 have hw2:IntKind.i64.wrap (52+28*(tl:Int))=52+28*(tl:Int):=IntWalk.i64_in _ (by omega)
 have hw3:IntKind.i64.wrap (52+28*(tl:Int)+4*sm)=52+28*(tl:Int)+4*sm:=IntWalk.i64_in _ (by omega)
 clear hw hwl h ht
 go_enter Tryz.func265,Tryz.ntmps265
 go_wp2_with fail
 have hx5:=dW HM.out
 have G0:=Lib.hid (fun w' (hC:∃ x:GW (w.alloc (.cells fc 50)),w'=x.1) j v (hv:wv[j]? = some v)=>(show w'.cell? ⟨w.heap.size,9+j,none⟩=some v by
  obtain ⟨x,rfl⟩:=hC
  rw [dW HM.out x (9+j)]; exact hpw.out j v hv))
 refine aR (by kernel_rfl) (by kernel_rfl) ?_
 repeat (first | (go_big_quiet_want; refine bA 45 (.tmp 8) rfl w.heap.size 9 rfl wv _ G0.out Tryz.underlying45 rfl HF4.out ?_; go_simp; go_big_quiet_on) | go_big_quiet_step ((go_at_call 279; exact bZ (HC.out _))))
 refine wpQuiet_nil ?_
 intro w5 hw'
 have hb5:=aK hw'
 clear hx5 G0 hw'
 go_wp2
 go_ret
 exact ⟨cE (by rw [HB.out]),aC (aL _ _) hb5⟩
theorem LW {P:Program} (ts:Array TypeId) (t:TypeId) (a b c d:Int) (w:World):(Builtin.min_ ts t #[.int .i64 a,.int .i64 b,.int .i64 c,.int .i64 d]).run P w=.ok (.int .i64 (min (min (min a b) c) d)) w:=by
 have e:(if d < (if c < (if b < a then b else a) then c else (if b < a then b else a)) then d else (if c < (if b < a then b else a) then c else (if b < a then b else a)))=min (min (min a b) c) d:=by (repeat' split) <;> omega
 simp [Builtin.min_,Builtin.min2,e]
theorem LV {P:Program} (ts:Array TypeId) (t:TypeId) (a b c d:Int) (w:World):(Builtin.max_ ts t #[.int .i64 a,.int .i64 b,.int .i64 c,.int .i64 d]).run P w=.ok (.int .i64 (max (max (max a b) c) d)) w:=by
 have e:(if (if (if a < b then b else a) < c then c else (if a < b then b else a)) < d then d else (if (if a < b then b else a) < c then c else (if a < b then b else a)))=max (max (max a b) c) d:=by (repeat' split) <;> omega
 simp [Builtin.max_,Builtin.max2,e]
theorem DR (g:List Int) (w:World) (hg:g.length=4) :
  Calls Tryz.prog 239 #[aT g] w fun e w'=>e=.returned (.bool (gY g))/\Below w.heap.size w w':=by
 obtain ⟨a,b,c,d,rfl⟩:=sP hg
 unfold aT
 have hG:gY [a,b,c,d]=(decide (0<=min (min (min a b) c) d) && decide (max (max (max a b) c) d<=3)):=by
  unfold gY inB
  rw [Bool.eq_iff_iff]
  simp
  omega
 have hmin:=fun W=>LW (P:=Tryz.prog) #[3,3,3,3] 3 a b c d W
 have hmax:=fun W=>LV (P:=Tryz.prog) #[3,3,3,3] 3 a b c d W
 generalize min (min (min a b) c) d=lo at *
 generalize max (max (max a b) c) d=hi at *
 have HG:=Lib.hid hG
 clear hG hg
 by_cases h1:0<=lo
 ·have t1:decide (0<=lo)=true:=decide_eq_true h1
  go_enter Tryz.func239,Tryz.ntmps239
  go_wp2
  go_ret
  exact ⟨dI (by rw [HG.out,t1]; simp),aL _ _⟩
 ·have t1:decide (0<=lo)=false:=decide_eq_false h1
  go_enter Tryz.func239,Tryz.ntmps239
  go_wp2
  go_ret
  exact ⟨dI (by rw [HG.out,t1]; simp),aL _ _⟩
end
section
open Go.Lib (hid)
open Go.RowKit
def eX (b:List Int) (m:Nat):List Int:=(List.range 4).map fun i=>if i < m then (cB (cW ((b.drop (i*4)).take 4)):Int) else 0
theorem EH (b:List Int):eX b 4=l8 b:=by
 unfold eX l8
 refine List.map_congr_left fun i hi=>?_
 rw [if_pos (List.mem_range.1 hi)]
theorem EI (b:List Int) {m:Nat} (hm:m < 4):(eX b m).set m (cB (cW ((b.drop (m*4)).take 4)):Int)=eX b (m+1):=by
 refine dE _ (fun i=>if i < m+1 then (cB (cW ((b.drop (i*4)).take 4)):Int) else 0) hm ?_ (fun i hi=>?_)
 ·rw [if_pos (by omega)]
 ·by_cases h:i < m
  ·rw [if_pos h,if_pos (by omega)]
  ·rw [if_neg h,if_neg (by omega)]
theorem GV (b:List Int) (m:Nat):(eX b m).length=4:=by simp [eX]
theorem GU (b:List Int) {m k:Nat} (hk:k < 4) (hm:m<=k):(eX b m)[k]? = some 0:=by
 unfold eX
 rw [aJ _ hk,if_neg (by omega)]
theorem vS {b:List Int} (h:BigB b) {l:List Int} (hl:∀ x ∈ l,x ∈ b):0<=cW l/\cW l<=4611686018427387904 :=
 ⟨QO l,EZ (by omega) l fun x hx=>by
  obtain ⟨k,hk,rfl⟩:=List.mem_iff_getElem.1 (hl x hx)
  have:=h k _ (List.getElem?_eq_getElem hk)
  exact WQ (by omega) (by omega) (by omega)⟩
theorem iP {b:List Int} {i n:Nat}:∀ x ∈ (b.drop i).take n,x ∈ b:=fun _ hx=>List.mem_of_mem_drop (List.mem_of_mem_take hx)
theorem aAS (b:List Int) (w:World) (hb:b.length=16) (hr:BigB b) :
  Calls Tryz.prog 262 #[aT b] w fun e w'=>e=.returned (aT (l8 b))/\Below w.heap.size w w':=by
 unfold aT
 have Hb:=hid hb
 have Hr:=hid hr
 have HB:=hid (Blk.new w 48 (b.map (Value.int .i64)))
 have H3:=hid (zU w (.cells (b.map (Value.int .i64)).toArray 48) (.cells (List.replicate 4 (.int .i64 0)).toArray 45) (.cells (List.replicate 4 (.int .i64 0)).toArray 45))
 generalize hbv:b.map (Value.int .i64)=bv at *
 have Hbv:=hid hbv
 clear hb hr hbv HB
 go_enter Tryz.func262,Tryz.ntmps262
 go_wp2_with fail
 go_loopw [5] (fun i wr=>∃ (m:Nat),m<=4/\i=.int .i64 m/\Blk wr w.heap.size 48 bv/\Blk wr (w.heap.size+1) 45 (List.replicate 4 (.int .i64 0))/\Blk wr (w.heap.size+1+1) 45 ((eX b m).map (Value.int .i64))/\Below w.heap.size w wr) (fun i _=>4 - (intOf i).toNat)
 case atStart=>exact ⟨0,by omega,rfl,H3.out.1,H3.out.2.1,H3.out.2.2.1,H3.out.2.2.2.2⟩
 case round =>
  obtain ⟨m,hm,rfl,hB,hZ,hM,hbel⟩:=hrel
  have HB:=hid hB
  have HZ:=hid hZ
  have HM:=hid hM
  have Hbel:=hid hbel
  clear H3
  by_cases hlt:m < 4
  ·have t1:(m:Int) < 4:=by omega
   have hql:((b.drop (m*4)).take 4).length=4:=by rw [List.length_take,List.length_drop,Hb.out]; omega
   have hpb:=vS Hr.out (l:=(b.drop (m*4)).take 4) iP
   have HP:=hid (show ∀ cap,Calls Tryz.prog 238 #[.slice (some ⟨w.heap.size,m*4,none⟩) 4 cap] wr fun e w'=>e=.returned (.int .i64 (cW ((b.drop (m*4)).take 4)))/\wr=w' from fun cap=>by
    have:=vO (some ⟨w.heap.size,m*4,none⟩) cap ((b.drop (m*4)).take 4) wr (by omega) (fun i v hv=>⟨_,m*4,rfl,HB.out.lt,by
     rw [HB.out.cell,<-Hbv.out]
     rw [List.map_take,List.map_drop,List.getElem?_take] at hv
     split at hv
     ·rw [List.getElem?_drop] at hv; exact hv
     ·cases hv⟩) (fun x hx=>by
     obtain ⟨k,hk,rfl⟩:=List.mem_iff_getElem.1 (iP x hx)
     have:=Hr.out k _ (List.getElem?_eq_getElem hk)
     omega)
    rw [hql] at this
    exact this)
   have HSt:=hid (EI b hlt)
   generalize cW ((b.drop (m*4)).take 4)=P at *
   have HWd:=hid (fun W=>xL P W (by omega) (by omega))
   have ce:wr.cell? ⟨w.heap.size+1+1,m,none⟩=some (.int .i64 0):=by rw [hM.cell,List.getElem?_map,GU b hlt (Nat.le_refl m)]; rfl
   have fz:=hM.frozen m
   have hsl:=oC w.heap.size 0 ((m:Int)*4) (((m:Int)+1)*4) (m*4) (m*4+4) (by omega) (by omega) (by omega) (by omega) (by omega)
   rw [Nat.zero_add,show m*4+4 - m*4=4 by omega] at hsl
   clear hB hZ hM hbel hql
   go_wp2_with (first | (go_at_call 238; refine (HP.out _).mono ?_; rintro e w1 ⟨rfl,rfl⟩) | (go_at_call 237; refine (HWd.out _).mono ?_; rintro e w1 ⟨rfl,rfl⟩))
   go_roundw
   case rel =>
    refine ⟨m+1,by omega,by go_num,HB.out.far (by simp; omega) _,HZ.out.far (by simp) _,?_,Hbel.out.setCell (by simp; omega) _⟩
    rw [<-HSt.out,List.map_set]
    exact HM.out.set_ m _
   case measure=>simp [intOf]; omega
  ·have hm4:m=4:=by omega
   subst hm4
   have t1:¬ (((4:Nat):Int) < 4):=by omega
   have hH:=hid (show wr.heap[w.heap.size+1+1]? = some (.cells ((eX b 4).map (Value.int .i64)).toArray 45 (0,0)) from HM.out)
   have hH2:=hid (show wr.heap[w.heap.size+1]? = some (.cells (List.replicate 4 (Value.int .i64 0)).toArray 45 (0,0)) from HZ.out)
   have H1:=hid (e9 (eX b 4))
   have hsz2:((eX b 4).map (Value.int .i64)).toArray.size=4:=by simp [GV]
   obtain ⟨xs,hxs⟩:∃ xs,((eX b 4).map (Value.int .i64)).toArray=xs:=⟨_,rfl⟩
   rw [hxs] at hH H1 hsz2
   have HE:=hid hxs
   clear hxs
   have HF2:=hid (show (Tryz.prog.info? 45).map (·.size)=some xs.size by rw [hsz2]; exact bY)
   have Hsz:=hid hsz2
   clear hsz2 hB hZ hM
   go_wp2_with (first | (refine aB rfl 45 (.tmp 3) rfl (w.heap.size+1+1) rfl _ xs _ _ hH.out Tryz.underlying45 rfl HF2.out ?_) | (refine aA rfl 45 (.tmp 2) (.tmp 19) rfl (w.heap.size+1) rfl _ _ xs rfl hH2.out HF2.out (by rw [Hsz.out]; simp) H1.out ?_))
   refine bodyPost_ret (v:=.agg xs) (results_cell_row Tryz.results262 _ _ (w.heap.size+1) 45 xs (0,0) _ rfl (bB wr _ _ _ xs hH2.out) Tryz.underlying45 rfl HF2.out) rfl ?_
   exact ⟨by rw [<-HE.out,EH],aO Hbel.out _ (by omega) _⟩
end
section
open Go.Lib (hid)
open Go.RowKit
def xQ (b s:List Int) (m:Nat):List Int:=(List.range 16).map fun k=>if k < m then lP (bgt b k) (bgt s (k / 4)).toNat else bgt b k
theorem DA (b s:List Int) (m:Nat):(xQ b s m).length=16:=by simp [xQ]
theorem yW (v:Int) (p:Nat) (w:World) (h1:-9223372036854775808<=v) (h2:v<=9223372036854775807) (hp:p<=62) :
  Calls Tryz.prog 155 #[.int .i64 v,.int .i64 p] w fun e w'=>e=.returned (.int .i64 (lP v p))/\Below w.heap.size w w' :=
 (II v p w h1 h2 (by omega) (by omega)).mono fun e w' ⟨he,n,hn⟩=>⟨by rw [Int.toNat_natCast] at he; exact he,by rw [hn]; exact below_drewN (Below.refl _ _) n⟩
def ofC (p top:Int):Nat->Nat->Nat
 | 0,c=>c
 | f+1,c=>if 0 < p/\p*2 ^ (c+1)<=top then ofC p top f (c+1) else c
def ofN (p top:Int):Nat:=ofC p top 3 0
theorem aBV (p top:Int):∀ f c,ofC p top f c<=c+f
 | 0,c=>Nat.le_refl _
 | f+1,c=>by
  unfold ofC
  split
  ·have:=aBV p top f (c+1); omega
  ·omega
def qG (b:List Int) (m:Nat):List Int:=(List.range 4).map fun i=>if i < m then (ofN (cW ((b.drop (i*4)).take 4)) (cW b):Int) else 0
def ofZ (b:List Int):List Int:=qG b 4
theorem mA (b:List Int) (m:Nat):(qG b m).length=4:=by simp [qG]
theorem ZT (b:List Int) {m:Nat} (hm:m < 4):(qG b m).set m (ofN (cW ((b.drop (m*4)).take 4)) (cW b):Int)=qG b (m+1):=by
 refine dE _ (fun i=>if i < m+1 then (ofN (cW ((b.drop (i*4)).take 4)) (cW b):Int) else 0) hm ?_ (fun i hi=>?_)
 ·rw [if_pos (by omega)]
 ·by_cases h:i < m
  ·rw [if_pos h,if_pos (by omega)]
  ·rw [if_neg h,if_neg (by omega)]
theorem aBW (b:List Int) {m k:Nat} (hk:k < 4) (hm:m<=k):(qG b m)[k]? = some 0:=by
 unfold qG
 rw [aJ _ hk,if_neg (by omega)]
theorem aBX (b:List Int):GainB (ofZ b):=by
 refine ⟨mA b 4,?_⟩
 unfold gY
 rw [List.all_eq_true]
 intro x hx
 unfold ofZ qG at hx
 obtain ⟨i,hi,rfl⟩:=List.mem_map.1 hx
 rw [if_pos (List.mem_range.1 hi)]
 have:ofN (cW ((b.drop (i*4)).take 4)) (cW b)<=0+3:=aBV _ _ 3 0
 unfold inB
 rw [decide_eq_true (by omega),decide_eq_true (by omega)]; rfl
theorem aDu (b:List Int) (w:World) (hb:b.length=16) (hr:TurnB b) :
  Calls Tryz.prog 233 #[aT b] w fun e w'=>e=.returned (aT (ofZ b))/\Below w.heap.size w w':=by
 unfold aT
 have Hb:=hid hb
 have Hr:=hid hr
 have hbig:BigB b:=fun k x hx=>by have:=hr k x hx; omega
 have HPq:=hid (fun m=>vS hbig (l:=(b.drop (m*4)).take 4) iP)
 have hpq2:∀ m,cW ((b.drop (m*4)).take 4)<=1099511627776:=fun m=>EZ (by omega) _ fun x hx=>by
  obtain ⟨k,hk,rfl⟩:=List.mem_iff_getElem.1 (iP x hx)
  have:=hr k _ (List.getElem?_eq_getElem hk)
  exact WQ (by omega) (by omega) (by omega)
 have Hpq2:=hid hpq2
 have HPb:=hid (show ∀ W:World,W.heap[w.heap.size]? = some (.cells (b.map (Value.int .i64)).toArray 48 (0,0))->Calls Tryz.prog 238 #[.slice (some ⟨w.heap.size,0,none⟩) 16 16] W fun e w'=>e=.returned (.int .i64 (cW b))/\W=w' from fun W hW=>by
  have:=vO (some ⟨w.heap.size,0,none⟩) 16 b W (by omega) (fun i v hv=>⟨_,0,rfl,hlt hW,by rw [cell_of_row _ _ _ _ _ _ hW,Nat.zero_add]; simpa using hv⟩) (fun x hx=>by
   obtain ⟨k,hk,rfl⟩:=List.mem_iff_getElem.1 hx
   have:=hr k _ (List.getElem?_eq_getElem hk)
   omega)
  rw [hb] at this
  exact this)
 have H4:=hid (zU w (.cells (b.map (Value.int .i64)).toArray 48) (.cells (List.replicate 4 (.int .i64 0)).toArray 45) (.cells (List.replicate 4 (.int .i64 0)).toArray 45))
 have HP2:=hid (HPb.out _ (wF w (.cells (b.map (Value.int .i64)).toArray 48) (.cells (List.replicate 4 (.int .i64 0)).toArray 45)).1)
 have Hset:=hid (fun m (hm:m < 4)=>ZT b hm)
 generalize hbv:b.map (Value.int .i64)=bv at *
 have Hbv:=hid hbv
 generalize cW b=top at *
 clear hb hr hbig hpq2 hbv HPb
 go_enter Tryz.func233,Tryz.ntmps233
 go_wp2_with (go_at_call 238; refine HP2.out.mono ?_; rintro e w1 ⟨rfl,rfl⟩)
 go_loopw [9] (fun i wr=>∃ (m:Nat),m<=4/\i=.int .i64 m/\Blk wr w.heap.size 48 bv/\Blk wr (w.heap.size+1) 45 (List.replicate 4 (.int .i64 0))/\Blk wr (w.heap.size+1+1) 45 ((qG b m).map (Value.int .i64))/\Below w.heap.size w wr) (fun i _=>4 - (intOf i).toNat)
 case atStart=>exact ⟨0,by omega,rfl,H4.out.1,H4.out.2.1,H4.out.2.2.1,H4.out.2.2.2.2⟩
 case round =>
  obtain ⟨m,hm,rfl,hB,hZ,hG,hbel⟩:=hrel
  have HB:=hid hB
  have HZ:=hid hZ
  have HG:=hid hG
  have Hbel:=hid hbel
  clear H4 HP2
  by_cases hlk:m < 4
  ·have t1:(m:Int) < 4:=by omega
   have hql:((b.drop (m*4)).take 4).length=4:=by rw [List.length_take,List.length_drop,Hb.out]; omega
   have hpb:=HPq.out m
   have hpc:=Hpq2.out m
   have HP:=hid (show ∀ cap,Calls Tryz.prog 238 #[.slice (some ⟨w.heap.size,m*4,none⟩) 4 cap] wr fun e w'=>e=.returned (.int .i64 (cW ((b.drop (m*4)).take 4)))/\wr=w' from fun cap=>by
    have:=vO (some ⟨w.heap.size,m*4,none⟩) cap ((b.drop (m*4)).take 4) wr (by omega) (fun i v hv=>⟨_,m*4,rfl,HB.out.lt,by
     rw [HB.out.cell,<-Hbv.out]
     rw [List.map_take,List.map_drop,List.getElem?_take] at hv
     split at hv
     ·rw [List.getElem?_drop] at hv; exact hv
     ·cases hv⟩) (fun x hx=>by
     obtain ⟨k,hk,rfl⟩:=List.mem_iff_getElem.1 (iP x hx)
     have:=Hr.out k _ (List.getElem?_eq_getElem hk)
     omega)
    rw [hql] at this
    exact this)
   have HSt:=hid (Hset.out m hlk)
   generalize cW ((b.drop (m*4)).take 4)=p at *
   have hsl:=oC w.heap.size 0 ((m:Int)*4) (((m:Int)+1)*4) (m*4) (m*4+4) (by omega) (by omega) (by omega) (by omega) (by omega)
   rw [Nat.zero_add,show m*4+4 - m*4=4 by omega] at hsl
   have HG0:=hid (show (qG b m).set m 0=qG b m from by
    apply List.ext_getElem?
    intro j
    rw [List.getElem?_set]
    by_cases hj:m=j
    ·subst hj
     rw [if_pos rfl,if_pos (by rw [mA]; exact hlk),aBW b hlk (Nat.le_refl m)]
    ·rw [if_neg hj])
   clear hB hZ hG hbel hql
   go_wp2_with (go_at_call 238; refine (HP.out _).mono ?_; rintro e w1 ⟨rfl,rfl⟩)
   go_loopw [19] (fun _ wt=>∃ (c:Nat),c<=3/\ofC p top (3 - c) c=ofN p top/\Blk wt w.heap.size 48 bv/\Blk wt (w.heap.size+1) 45 (List.replicate 4 (.int .i64 0))/\Blk wt (w.heap.size+1+1) 45 (((qG b m).set m (c:Int)).map (Value.int .i64))/\Below w.heap.size w wt) (fun _ wt=>3 - (intOf ((wt.cell? ⟨w.heap.size+1+1,m,none⟩).getD (.int .i64 0))).toNat)
   case atStart=>exact ⟨0,by omega,rfl,HB.out,HZ.out,by rw [show (((0:Nat):Int))=0 from rfl,HG0.out]; exact HG.out,Hbel.out⟩
   case round =>
    obtain ⟨c,hc,hoc,hB,hZ,hG,hbel⟩:=hrel
    have HB:=hid hB
    have HZ:=hid hZ
    have HG:=hid hG
    have Hbel:=hid hbel
    have hcc:(((qG b m).set m (c:Int)).map (Value.int .i64))[m]? = some (.int .i64 (c:Int)):=by rw [List.getElem?_map,List.getElem?_set_self (by rw [mA]; exact hlk)]; rfl
    have ce:wr.cell? ⟨w.heap.size+1+1,m,none⟩=some (.int .i64 (c:Int)):=by rw [hG.cell]; exact hcc
    have fz:=hG.frozen m
    have HSS:=hid (show ∀ x:Int,(((qG b m).set m (c:Int)).map (Value.int .i64)).set m (.int .i64 x)=((qG b m).set m x).map (Value.int .i64) from fun x=>by rw [<-List.map_set,List.set_set])
    have Hoc:=hid hoc
    clear hB hZ hG hbel hoc hcc
    obtain ⟨d,hd⟩:∃ d,c+1=d:=⟨_,rfl⟩
    have e4:(c:Int)+1=(d:Int):=by omega
    have e6:(0:Int)<=(d:Int):=by omega
    have e7:(d:Int)<=64:=by omega
    have HOC:=hid (fun (hc3:c < 3)=>(show ofC p top (3 - c) c=if 0 < p/\p*2 ^ d<=top then ofC p top (3 - d) d else c by
     subst hd
     rw [show 3 - c=(3 - (c+1))+1 by omega]; rfl))
    by_cases hgo:0 < p/\c < 3/\p*2 ^ d<=top
    ·obtain ⟨g1,g2,g3⟩:=hgo
     have e1:decide (0 < p)=true:=decide_eq_true g1
     have e2:decide ((c:Int) < 3)=true:=decide_eq_true (by omega)
     have e5:IntKind.i64.wrap (p*2 ^ d)=p*2 ^ d:=MI ⟨by omega,by omega⟩ (by omega)
     have e3:decide (p*2 ^ d<=top)=true:=decide_eq_true g3
     have HN:=hid (show ofC p top (3 - d) d=ofN p top by rw [<-Hoc.out,HOC.out g2,if_pos ⟨g1,g3⟩])
     obtain ⟨P2,hP2⟩:∃ P2:Int,p*2 ^ d=P2:=⟨_,rfl⟩
     rw [hP2] at e5 e3
     have Hd:=hid hd
     have Hcell:=hid (show (wr.setCell ⟨w.heap.size+1+1,m,none⟩ (.int .i64 (d:Int))).cell? ⟨w.heap.size+1+1,m,none⟩=some (.int .i64 (d:Int)) by
      rw [(HG.out.set_ m (.int .i64 (d:Int))).cell,List.getElem?_set_self (by rw [List.length_map,List.length_set,mA]; exact hlk)])
     clear g1 g3 hd
     go_wp2
     go_roundw
     case rel =>
      refine ⟨d,by have:=Hd.out; omega,HN.out,HB.out.far (by simp; omega) _,HZ.out.far (by simp) _,?_,Hbel.out.setCell (by simp; omega) _⟩
      rw [<-HSS.out]
      exact HG.out.set_ m _
     case measure=>have:=Hd.out; rw [Hcell.out,ce]; simp [intOf]; omega
    ·have HN:=hid (show c=ofN p top by
      rw [<-Hoc.out]
      by_cases hc3:c=3
      ·subst hc3; rfl
      ·rw [HOC.out (by omega),if_neg (fun h=>hgo ⟨h.1,by omega,h.2⟩)])
     have cases3:decide (0 < p)=false\/(decide (0 < p)=true/\decide ((c:Int) < 3)=false)\/(decide (0 < p)=true/\decide ((c:Int) < 3)=true/\decide (p*2 ^ d<=top)=false/\IntKind.i64.wrap (p*2 ^ d)=p*2 ^ d):=by
      by_cases h1:0 < p
      ·by_cases h2:c < 3
       ·exact .inr (.inr ⟨decide_eq_true h1,decide_eq_true (by omega),decide_eq_false (fun h3=>hgo ⟨h1,h2,h3⟩),MI ⟨by omega,by omega⟩ (by omega)⟩)
       ·exact .inr (.inl ⟨decide_eq_true h1,decide_eq_false (by omega)⟩)
      ·exact .inl (decide_eq_false h1)
     clear hgo
     rcases cases3 with e1 | ⟨e1,e2⟩ | ⟨e1,e2,e3,e5⟩
     all_goals
      go_wp2
      go_roundw
      case rel=>exact ⟨m+1,by omega,by go_num,HB.out,HZ.out,by rw [<-HSt.out,<-HN.out]; exact HG.out,Hbel.out⟩
      case measure=>simp [intOf]; omega
  ·have hm4:m=4:=by omega
   subst hm4
   have t1:¬ (((4:Nat):Int) < 4):=by omega
   have hH:=hid (show wr.heap[w.heap.size+1+1]? = some (.cells ((qG b 4).map (Value.int .i64)).toArray 45 (0,0)) from HG.out)
   have hH2:=hid (show wr.heap[w.heap.size+1]? = some (.cells (List.replicate 4 (Value.int .i64 0)).toArray 45 (0,0)) from HZ.out)
   have H1:=hid (e9 (qG b 4))
   have hsz2:((qG b 4).map (Value.int .i64)).toArray.size=4:=by simp [mA]
   obtain ⟨xs,hxs⟩:∃ xs,((qG b 4).map (Value.int .i64)).toArray=xs:=⟨_,rfl⟩
   rw [hxs] at hH H1 hsz2
   have HE:=hid hxs
   clear hxs
   have HF2:=hid (show (Tryz.prog.info? 45).map (·.size)=some xs.size by rw [hsz2]; exact bY)
   have Hsz:=hid hsz2
   clear hsz2 hB hZ hG
   go_wp2_with (first | (refine aB rfl 45 (.tmp 4) rfl (w.heap.size+1+1) rfl _ xs _ _ hH.out Tryz.underlying45 rfl HF2.out ?_) | (refine aA rfl 45 (.tmp 2) (.tmp 43) rfl (w.heap.size+1) rfl _ _ xs rfl hH2.out HF2.out (by rw [Hsz.out]; simp) H1.out ?_))
   refine bodyPost_ret (v:=.agg xs) (results_cell_row Tryz.results233 _ _ (w.heap.size+1) 45 xs (0,0) _ rfl (bB wr _ _ _ xs hH2.out) Tryz.underlying45 rfl HF2.out) rfl ?_
   exact ⟨by rw [<-HE.out]; rfl,aO Hbel.out _ (by omega) _⟩
end
section
open Go.Lib (hid)
open Go.RowKit
theorem QC (w s m:List Int) (k:Nat):cM w s m (k+1)=if 0 < bgt w k/\bgt s k < 23/\(cM w s m k < 0\/bgt m (cM w s m k).toNat - bgt s (cM w s m k).toNat < bgt m k - bgt s k) then (k:Int) else cM w s m k:=rfl
def Mid (l:List Int):Prop:=∀ (k:Nat) (x:Int),l[k]? = some x->-1000000000<=x/\x<=1000000000
theorem aBQ (f:FrameV) (tv:Value) (mk:List Int) (w:World) (h:f.Len) (hm:mk.length=4) (hs:ScB f.scale) (hw:∀ (k:Nat) (x:Int),f.width[k]? = some x->0<=x) (hmid:Mid mk) :
  Calls Tryz.prog 266 #[.agg (aY f tv),aT mk] w fun e w'=>e=.returned (.int .i64 (cM f.width f.scale mk 4))/\Below w.heap.size w w':=by
 obtain ⟨g,ts,s,wd,q⟩:=f
 have HS:=hid (fun (j:Nat) (x:Int) (hx:s[j]? = some x)=>wA h tv (f:=⟨g,ts,s,wd,q⟩) (j:=j) (v:=.int .i64 x) (by rw [List.getElem?_map]; show Option.map _ s[j]? = _; rw [hx]; rfl))
 have HWp:=hid (fun (j:Nat) (v:Value) (hv:(wd.map (Value.int .i64))[j]? = some v)=>p8 h tv (f:=⟨g,ts,s,wd,q⟩) hv)
 obtain ⟨_,hls,hlw,_⟩:=h
 simp only at hls hlw hs hw ⊢
 have HL:=hid hls
 have HLw:=hid hlw
 have HLm:=hid hm
 have Hs:=hid hs
 have Hw:=hid hw
 have Hmid:=hid hmid
 have HF4:=hid (show (Tryz.prog.info? 45).map (·.size)=some (wd.map (Value.int .i64)).length by rw [List.length_map,hlw]; exact bY)
 unfold aT
 have HCm:=hid (fun (k:Nat) (x:Int) (h:mk[k]? = some x)=>eP h)
 have HCw:=hid (fun (k:Nat) (x:Int) (h:wd[k]? = some x)=>eP h)
 generalize (mk.map (Value.int .i64)).toArray=mv at *
 generalize hwv:wd.map (Value.int .i64)=wv at *
 generalize aY ⟨g,ts,s,wd,q⟩ tv=fc at *
 have H2:=hid (wF w (.cells fc 50) (.cells mv 45))
 clear hls hlw hm hs hw hmid hwv
 have HP:=hid (fun j v (hv:wv[j]? = some v)=>(show ((w.alloc (.cells fc 50)).alloc (.cells mv 45)).cell? ⟨w.heap.size,9+j,none⟩=some v by
  rw [cell_of_row _ _ _ fc 50 (0,0) H2.out.1]; exact HWp.out j v hv))
 go_enter Tryz.func266,Tryz.ntmps266
 go_wp2_with (refine aN rfl 45 (.tmp 8) rfl w.heap.size 9 rfl wv _ HP.out Tryz.underlying45 rfl HF4.out ?_)
 go_loopw [5,10] (fun b i wr=>∃ (m:Nat),m<=4/\i=.int .i64 m/\b=.int .i64 (cM wd s mk m)/\wr.heap[w.heap.size]? = some (.cells fc 50 (0,0))/\wr.heap[w.heap.size+1]? = some (.cells mv 45 (0,0))/\Below w.heap.size w wr) (fun _ i _=>4 - (intOf i).toNat)
 case atStart=>exact ⟨0,by omega,rfl,rfl,H2.out.1,H2.out.2.1,H2.out.2.2.2⟩
 case round =>
  obtain ⟨m,hm4,rfl,rfl,hF,hM,hbel⟩:=hrel
  have HFr:=hid hF
  have HMr:=hid hM
  have Hbel:=hid hbel
  have hbd:=mO wd s mk m
  have HN:=hid (QC wd s mk m)
  obtain ⟨B,hBB⟩:∃ B,cM wd s mk m=B:=⟨_,rfl⟩
  rw [hBB] at hbd HN ⊢
  have HBB:=hid hBB
  clear hF hM hbel H2 HP hBB
  by_cases hlt:m < 4
  ·have t1:(m:Int) < 4:=by omega
   obtain ⟨W,hW⟩:=aE (k:=m) HLw.out hlt
   obtain ⟨S,hS⟩:=aE (k:=m) HL.out hlt
   obtain ⟨M,hMk⟩:=aE (k:=m) HLm.out hlt
   have hW0:=Hw.out m W hW
   have hSb:=Hs.out.2 m hlt
   have hMb:=Hmid.out m M hMk
   have hcS:=HS.out _ _ hS
   have hcM:=HCm.out m M hMk
   have hix:=bR (P:=Tryz.prog) Tryz.underlying45 hlt (fun W=>by kernel_rfl) (fun W=>by kernel_rfl) (HCw.out m W hW)
   rw [aD hS] at hSb
   rw [aD hW,aD hS,aD hMk] at HN
   have hx5:=dW HFr.out
   have hcell:∀ j,wr.cell? ⟨w.heap.size,j,none⟩=fc[j]?:=fun j=>cell_of_row wr w.heap.size j fc 50 (0,0) HFr.out
   have hcs:wr.cell? ⟨w.heap.size,5+m,none⟩=some (.int .i64 S):=(hcell _).trans hcS
   clear hW hS hMk hcell
   by_cases h0:W=0
   ·have e0:(W == 0)=true:=beq_iff_eq.2 h0
    have HK:=hid (show cM wd s mk (m+1)=B by rw [HN.out,if_neg (by omega)])
    have H0:=hid h0
    clear h0 hx5
    go_wp2
    go_roundw
    case rel=>exact ⟨m+1,by omega,by go_num,jB HK.out.symm,HFr.out,HMr.out,Hbel.out⟩
    case measure=>simp [intOf]; omega
   ·have e0:(W == 0)=false:=beq_eq_false_iff_ne.2 h0
    by_cases h1:23<=S
    ·have e1:decide (23<=S)=true:=decide_eq_true h1
     have HK:=hid (show cM wd s mk (m+1)=B by rw [HN.out,if_neg (by omega)])
     have H0:=hid h0
     clear h0 hx5
     go_wp2
     go_roundw
     case rel=>exact ⟨m+1,by omega,by go_num,jB HK.out.symm,HFr.out,HMr.out,Hbel.out⟩
     case measure=>simp [intOf]; omega
    ·have e1:decide (23<=S)=false:=decide_eq_false h1
     have hw1:IntKind.i64.wrap (M - S)=M - S:=IntWalk.i64_in _ (by omega)
     have hy5:=dW HMr.out
     by_cases h2:B < 0
     ·have e2:decide (B < 0)=true:=decide_eq_true h2
      have HK:=hid (show cM wd s mk (m+1)=(m:Int) by rw [HN.out,if_pos ⟨by omega,by omega,.inl h2⟩])
      have H0:=hid h0
      clear h0
      go_wp2
      refine aR (by kernel_rfl) (by kernel_rfl) ?_
      repeat (go_big_quiet_step (fail))
      refine wpQuiet_nil ?_
      intro w5 hw'
      have hb5:=aK hw'
      have F5:=hid (aF HFr.out hb5)
      have M5:=hid (aF HMr.out hb5)
      have B5:=hid (aC Hbel.out hb5)
      clear hw' hb5 hx5 hy5
      go_wp2
      go_roundw
      case rel=>exact ⟨m+1,by omega,by go_num,jB HK.out.symm,F5.out,M5.out,B5.out⟩
      case measure=>simp [intOf]; omega
     ·obtain ⟨b,hb⟩:=Int.eq_ofNat_of_zero_le (show 0<=B by omega)
      subst hb
      have hb4:b < 4:=by omega
      obtain ⟨Sb,hSb2⟩:=aE (k:=b) HL.out hb4
      obtain ⟨Mb,hMb2⟩:=aE (k:=b) HLm.out hb4
      have hSbb:=Hs.out.2 b hb4
      rw [aD hSb2] at hSbb
      have hMbb:=Hmid.out b Mb hMb2
      have hcSb:=HS.out _ _ hSb2
      have hcMb:=HCm.out b Mb hMb2
      have hw2:IntKind.i64.wrap (Mb - Sb)=Mb - Sb:=IntWalk.i64_in _ (by omega)
      have e2:decide ((b:Int) < 0)=false:=decide_eq_false h2
      have tb:(b:Int) < 4:=by omega
      rw [Int.toNat_natCast,aD hSb2,aD hMb2] at HN
      have H0:=hid (show 0 < W by omega)
      clear h0 hSb2 hMb2
      by_cases h3:Mb - Sb < M - S
      ·have HK:=hid (show cM wd s mk (m+1)=(m:Int) by rw [HN.out,if_pos ⟨H0.out,by omega,.inr h3⟩])
       have e3:decide (Mb - Sb < M - S)=true:=decide_eq_true h3
       go_wp2
       refine aR (by kernel_rfl) (by kernel_rfl) ?_
       repeat (go_big_quiet_step (fail))
       refine wpQuiet_nil ?_
       intro w5 hw'
       have hb5:=aK hw'
       have F5:=hid (aF HFr.out hb5)
       have M5:=hid (aF HMr.out hb5)
       have B5:=hid (aC Hbel.out hb5)
       clear hw' hb5 hx5 hy5
       go_wp2
       go_roundw
       case rel=>exact ⟨m+1,by omega,by go_num,jB HK.out.symm,F5.out,M5.out,B5.out⟩
       case measure=>simp [intOf]; omega
      ·have HK:=hid (show cM wd s mk (m+1)=(b:Int) by rw [HN.out,if_neg (fun hh=>by rcases hh.2.2 with x | x; exact h2 x; exact h3 x)])
       have e3:decide (Mb - Sb < M - S)=false:=decide_eq_false h3
       go_wp2
       refine aR (by kernel_rfl) (by kernel_rfl) ?_
       repeat (go_big_quiet_step (fail))
       refine wpQuiet_nil ?_
       intro w5 hw'
       have hb5:=aK hw'
       have F5:=hid (aF HFr.out hb5)
       have M5:=hid (aF HMr.out hb5)
       have B5:=hid (aC Hbel.out hb5)
       clear hw' hb5 hx5 hy5
       go_wp2
       go_roundw
       case rel=>exact ⟨m+1,by omega,by go_num,jB HK.out.symm,F5.out,M5.out,B5.out⟩
       case measure=>simp [intOf]; omega
  ·have hm':m=4:=by omega
   subst hm'
   have t1:¬ (((4:Nat):Int) < 4):=by omega
   go_wp2
   go_ret
   exact ⟨cE HBB.out.symm,Hbel.out⟩
end
end Go.Proofs.YtnbbfblaipjcmaaGreatDoor
