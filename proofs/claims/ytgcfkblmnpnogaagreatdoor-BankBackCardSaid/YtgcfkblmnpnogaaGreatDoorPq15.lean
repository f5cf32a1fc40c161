/- CodeA, CodeB, CodeF, CodeG, CodeE, CodeH. Conditions: as each theorem states. -/
import Derived.Deep.OwnRows
import Derived.Test.YtgcfkblmnpnogaaGreatDoorPq14
import Derived.Test.YtgcfkblmnpnogaaGreatDoorPq09
import Derived.Test.YtgcfkblmnpnogaaGreatDoorPq01
set_option maxRecDepth 100000
set_option maxHeartbeats 4000000
namespace Go.Proofs.YtgcfkblmnpnogaaGreatDoor
section
open Go.RowKit
def countN (n:Nat):Nat:=(n+15) / 16
theorem Count_any (n:Nat) (w:World) (hn:n<=1000000000):Calls Tryz.prog 68 #[.int .i64 n] w fun e w'=>e=.returned (.int .i64 (countN n))/\w=w':=by
 by_cases h:(n:Int) < 1
 ·have hn0:n=0:=by omega
  subst hn0
  go_enter Tryz.func68,Tryz.ntmps68
  go_wp2
  go_ret
  exact ⟨rfl,rfl⟩
 ·have HC:=Lib.hid (show ((n:Int) - 1) / 16+1=(countN n:Int) by unfold countN; omega)
  have h0:(0:Int)<=(n:Int) - 1:=by omega
  go_enter Tryz.func68,Tryz.ntmps68
  go_wp2
  go_ret
  exact ⟨ret_int HC.out,rfl⟩
def coderA (size:Int):Array Value:=lapA.push (.int .i64 size)
theorem coderA_size (size:Int):(coderA size).size=33:=by simp [coderA,lapA_size]
theorem coderA_last (size:Int):(coderA size)[32]? = some (.int .i64 size):=by
 unfold coderA
 rw [Array.getElem?_push,if_pos lapA_size.symm]
def CoderAt (W:World) (g:Nat) (size:Int):Prop:=W.heap[g]? = some (.cells (coderA size) 210 (0,0))
theorem built_coder (size:Int):Tryz.prog.built 210 [(0,.agg lapA),(1,.int .i64 size)]=some (coderA size):=by kernel_rfl
theorem codeNew_no (size:Int) (w:World) (h:size < 24\/96 < size):Calls Tryz.prog 100 #[.int .i64 size] w fun e w'=>e=.returned (.tuple #[.pointer none,.int .i64 12])/\w=w':=by
 have hsd:decide (size < 24)=true\/(decide (size < 24)=false/\decide (96 < size)=true):=by
  by_cases h:size < 24
  ·exact .inl (decide_eq_true h)
  ·exact .inr ⟨decide_eq_false h,decide_eq_true (by omega)⟩
 clear h
 rcases hsd with e1 | ⟨e1,e2⟩
 all_goals
  go_enter Tryz.func100,Tryz.ntmps100
  go_wp2
  refine bodyPost_ret (results_tmp2 Tryz.results100 _ _ _) rfl ?_
  exact ⟨rfl,rfl⟩
theorem codeNew_any (size:Int) (w:World) (h1:24<=size) (h2:size<=96) :
  Calls Tryz.prog 100 #[.int .i64 size] w fun e w'=>∃ g,e=.returned (.tuple #[.pointer (some ⟨g,0,none⟩),.int .i64 0])/\w.heap.size<=g/\CoderAt w' g size/\Below w.heap.size w w':=by
 have e1:decide (size < 24)=false:=decide_eq_false (by omega)
 have e2:decide (96 < size)=false:=decide_eq_false (by omega)
 have HL:=Lib.hid lapNew_any
 have HT:=Lib.hid (built_coder size)
 have HC:=Lib.hid (fun (W:World) (g:Nat) (h:W.heap[g]? = some (.cells (coderA size) 210 (0,0)))=>(show CoderAt W g size from h))
 generalize coderA size=cv at *
 generalize lapA=lv at *
 clear h1 h2
 go_enter Tryz.func100,Tryz.ntmps100
 go_wp2_with (go_at_call 130; fail)
 refine (HL.out _).mono ?_
 rintro e w1 ⟨rfl,hb1⟩
 go_wp2_with (refine wpList_built rfl 210 _ rfl cv (by simpa [Act.eval,Act.put] using HT.out) ?_)
 refine bodyPost_ret (results_tmp2 Tryz.results100 _ _ _) rfl ?_
 exact ⟨w1.heap.size,rfl,hb1.size,HC.out _ _ (heap_alloc_new w1 _),bnext hb1 (bnew w1 _)⟩
theorem Size_any (g:Nat) (size:Int) (w:World) (h:CoderAt w g size):Calls Tryz.prog 134 #[.pointer (some ⟨g,0,none⟩)] w fun e w'=>e=.returned (.int .i64 size)/\w=w':=by
 have c:w.cell? ⟨g,32,none⟩=some (.int .i64 size):=(cell_of_row w g 32 _ _ _ h).trans (coderA_last size)
 clear h
 go_enter Tryz.func134,Tryz.ntmps134
 go_wp2
 go_ret
 exact ⟨rfl,rfl⟩
theorem CExact_any (g:Nat) (size:Int) (w:World) (h:CoderAt w g size):Calls Tryz.prog 191 #[.pointer (some ⟨g,0,none⟩)] w fun e w'=>e=.returned (.bool (decide (55<=size)))/\w=w':=by
 have H:=Lib.hid (Size_any g size w h)
 clear h
 go_enter Tryz.func191,Tryz.ntmps191
 go_wp2_with (go_at_call 134; refine H.out.mono ?_; rintro e w' ⟨rfl,rfl⟩)
 go_ret
 exact ⟨rfl,rfl⟩
end
section
open Go.Lib (hid)
open Go.RowKit
def in16 (x:Int):Bool:=decide (-32768<=x) && decide (x < 32768)
theorem cright_any (l:List Int) (A:Option Addr) (cap:Nat) (w:World) (hl:l.length<=1000000000) (hr:Row w w.heap.size A (l.map (.int .i64))) :
  Calls Tryz.prog 161 #[.slice A l.length cap] w fun e w'=>e=.returned (.bool (l.all in16))/\w=w':=by
 have Hr:=hid hr
 obtain ⟨n,hn⟩:∃ n,l.length=n:=⟨_,rfl⟩
 rw [hn] at hl ⊢
 have Hn:=hid hn
 clear hr hn
 go_enter Tryz.func161,Tryz.ntmps161
 go_wp2
 go_loop [7] (fun k=>∃ m:Nat,m<=n/\(l.take m).all in16=true/\k=.int .i64 m) (fun k=>(n - (intOf k)).toNat)
 case atStart=>exact ⟨0,by omega,rfl,rfl⟩
 case round =>
  obtain ⟨m,hm,hall,rfl⟩:=hrel
  have HA:=hid hall
  clear hall
  by_cases hlk:m < n
  ·have t1:(m:Int) < (n:Int):=by omega
   obtain ⟨x,hx⟩:=list_get (k:=m) Hn.out hlk
   obtain ⟨b,off,hA,hb,k0⟩:=Hr.out m (.int .i64 x) (by rw [List.getElem?_map,hx]; rfl)
   subst hA
   have HT:=hid (all_take_succ in16 hx)
   have HFa:=hid (fun h=>all_false_of in16 hx h)
   clear hx
   by_cases h0:x < -32768
   ·have d0:decide (x < -32768)=true:=decide_eq_true h0
    have hf:=hid (HFa.out (by unfold in16; rw [decide_eq_false (by omega)]; rfl))
    go_wp2
    go_ret
    exact ⟨ret_bool hf.out.symm,rfl⟩
   ·have d0:decide (x < -32768)=false:=decide_eq_false h0
    by_cases h1:32768<=x
    ·have d1:decide (32768<=x)=true:=decide_eq_true h1
     have hf:=hid (HFa.out (by unfold in16; rw [decide_eq_false (show ¬ x < 32768 by omega),Bool.and_false]))
     go_wp2
     go_ret
     exact ⟨ret_bool hf.out.symm,rfl⟩
    ·have d1:decide (32768<=x)=false:=decide_eq_false h1
     have hf:=hid (show in16 x=true by unfold in16; rw [decide_eq_true (show -32768<=x by omega),decide_eq_true (show x < 32768 by omega)]; rfl)
     go_wp2
     go_round
     case rel=>exact ⟨m+1,by omega,by rw [HT.out,HA.out,hf.out]; rfl,by go_num⟩
     case measure=>simp [intOf]; omega
  ·have hmn:m=n:=by omega
   have t1:¬ ((m:Int) < (n:Int)):=by omega
   have hf:=hid (all_take_all in16 (l:=l) (k:=m) (by rw [Hn.out]; omega) HA.out)
   go_wp2
   go_ret
   exact ⟨ret_bool hf.out.symm,rfl⟩
theorem inf_i64:(Tryz.prog.info? 2).map (fun i=>(i.zero,i.size,i.bytes))=some (some (.int .i64 0),1,8):=by kernel_rfl
def NewRow (W:World) (xs:List Int) (e:Ending) (w':World):Prop :=
 ∃ g,e=.returned (.slice (some ⟨g,0,none⟩) xs.length xs.length)/\W.heap.size<=g/\Blk w' g 2 (xs.map (.int .i64))/\Below W.heap.size W w'
def wideTo (l:List Int) (n m:Nat):List Int:=(List.range n).map fun k=>if k < m then bgt l k else 0
theorem wideTo_succ (l:List Int) {n m:Nat} (hm:m < n):(wideTo l n m).set m (bgt l m)=wideTo l n (m+1):=by
 refine range_map_set _ (fun k=>if k < m+1 then bgt l k else 0) hm ?_ (fun i hi=>?_)
 ·rw [if_pos (by omega)]
 ·by_cases h:i < m
  ·rw [if_pos h,if_pos (by omega)]
  ·rw [if_neg h,if_neg (by omega)]
theorem wideTo_all {l:List Int} {n:Nat} (hn:l.length=n):wideTo l n n=l:=by
 refine Eq.trans ?_ (self_map hn).symm
 unfold wideTo
 apply List.map_congr_left
 intro k hk
 rw [if_pos (List.mem_range.1 hk)]
theorem wideTo_get (l:List Int) {n m k:Nat} (hk:k < n) (hm:m<=k):(wideTo l n m)[k]? = some 0:=by
 unfold wideTo
 rw [range_map_get _ hk,if_neg (by omega)]
theorem wideTo_zero (l:List Int) (n:Nat):(wideTo l n 0).map (Value.int .i64)=List.replicate n (.int .i64 0):=by
 unfold wideTo
 apply List.ext_getElem?
 intro i
 rw [List.getElem?_map,List.getElem?_map,List.getElem?_replicate]
 rcases Nat.lt_or_ge i n with hi | hi
 ·rw [List.getElem?_range hi,if_pos hi]; simp
 ·rw [List.getElem?_eq_none (by simpa using hi),if_neg (by omega)]; rfl
theorem cwide_any (l:List Int) (A:Option Addr) (cap:Nat) (w:World) (hl:l.length<=1000000000) (hr:Row w w.heap.size A (l.map (.int .i64))) :
  Calls Tryz.prog 162 #[.slice A l.length cap] w (NewRow w l):=by
 have Hr:=hid hr
 unfold NewRow
 obtain ⟨n,hn⟩:∃ n,l.length=n:=⟨_,rfl⟩
 rw [hn] at hl ⊢
 have Hn:=hid hn
 obtain ⟨i0,hi,hz0,hz1,hz2⟩:∃ i,Tryz.prog.info? 2=some i/\i.zero=some (.int .i64 0)/\i.size=1/\i.bytes=8:=by
  have:=inf_i64
  cases h:Tryz.prog.info? 2 with
  | none=>rw [h] at this; cases this
  | some i=>rw [h] at this; simp at this; exact ⟨i,rfl,this.1,this.2.1,this.2.2⟩
 have Hms:=hid (show (madeCells #[Value.int .i64 0] n).toList=List.replicate n (.int .i64 0) from toList_madeCells_one _ _)
 obtain ⟨mc,hmc⟩:∃ mc,madeCells #[Value.int .i64 0] n=mc:=⟨_,rfl⟩
 rw [hmc] at Hms
 have hmc2:mc=((wideTo l n 0).map (Value.int .i64)).toArray:=by
  apply Array.toList_inj.1
  rw [Hms.out,wideTo_zero]
 have HB0:=hid (show Blk (w.alloc (.cells mc 2)) w.heap.size 2 ((wideTo l n 0).map (.int .i64)) by rw [hmc2]; exact Blk.new w _ _)
 clear hr hn hmc2 Hms
 go_enter Tryz.func162,Tryz.ntmps162
 go_wp2_with (refine wpList_make_row w rfl (.tmp 7) (.tmp 7) 224 rfl 2 i0 (.int .i64 0) Tryz.underlying224 hi hz0 hz1 rfl .i64 .i64 n rfl rfl (by rw [hz2]; omega) (by omega) ?_; rw [hmc])
 go_loopw [11] (fun i wr=>∃ m:Nat,m<=n/\i=.int .i64 m/\Blk wr w.heap.size 2 ((wideTo l n m).map (.int .i64))/\Below w.heap.size w wr) (fun i _=>n - (intOf i).toNat)
 case atStart=>exact ⟨0,by omega,rfl,HB0.out,bnew w _⟩
 case round =>
  obtain ⟨m,hm,rfl,hB,hbel⟩:=hrel
  have HB:=hid hB
  have Hbel:=hid hbel
  clear HB0
  by_cases hlk:m < n
  ·have t1:(m:Int) < (n:Int):=by omega
   obtain ⟨x,hx⟩:=list_get (k:=m) Hn.out hlk
   obtain ⟨b,off,hA,hb,k0⟩:=Hr.out m (.int .i64 x) (by rw [List.getElem?_map,hx]; rfl)
   have k1:=(Hbel.out.cell (p:=⟨b,off+m,none⟩) hb).trans k0
   subst hA
   have HS:=hid (show (wideTo l n m).set m x=wideTo l n (m+1) by rw [<-wideTo_succ l hlk,bgt_get hx])
   have ce:wr.cell? ⟨w.heap.size,m,none⟩=some (.int .i64 0):=by rw [hB.cell,List.getElem?_map,wideTo_get l hlk (Nat.le_refl m)]; rfl
   have fz:=hB.frozen m
   clear hx k0 hB hbel
   go_wp2
   go_roundw
   case rel =>
    refine ⟨m+1,by omega,by go_num,?_,Hbel.out.setCell (by simp) _⟩
    rw [<-HS.out,List.map_set]
    exact HB.out.set_ m _
   case measure=>simp [intOf]; omega
  ·have hmn:m=n:=by omega
   have t1:¬ ((m:Int) < (n:Int)):=by omega
   have HE:=hid (show wideTo l n m=l by rw [hmn]; exact wideTo_all Hn.out)
   go_wp2
   go_ret
   exact ⟨w.heap.size,rfl,Nat.le_refl _,by rw [<-HE.out]; exact HB.out,Hbel.out⟩
def flipZ (l:List Int) (n:Nat):List Int:=(List.range n).map fun k=>bgt l (n - 1 - k)
def flipTo (l:List Int) (n m:Nat):List Int:=(List.range n).map fun k=>if n<=k+m then bgt l (n - 1 - k) else 0
theorem flipTo_succ (l:List Int) {n m:Nat} (hm:m < n):(flipTo l n m).set (n - 1 - m) (bgt l m)=flipTo l n (m+1):=by
 refine range_map_set _ (fun k=>if n<=k+(m+1) then bgt l (n - 1 - k) else 0) (by omega) ?_ (fun i hi=>?_)
 ·rw [if_pos (by omega),show n - 1 - (n - 1 - m)=m by omega]
 ·by_cases h:n<=i+m
  ·rw [if_pos h,if_pos (by omega)]
  ·rw [if_neg h,if_neg (by omega)]
theorem flipTo_all (l:List Int) (n:Nat):flipTo l n n=flipZ l n:=by
 unfold flipTo flipZ
 apply List.map_congr_left
 intro k hk
 rw [if_pos (by omega)]
theorem flipTo_zero (l:List Int) (n:Nat):(flipTo l n 0).map (Value.int .i64)=List.replicate n (.int .i64 0):=by
 unfold flipTo
 apply List.ext_getElem?
 intro i
 rw [List.getElem?_map,List.getElem?_map,List.getElem?_replicate]
 rcases Nat.lt_or_ge i n with hi | hi
 ·rw [List.getElem?_range hi,if_pos hi]
  simp only [Option.map_some]
  rw [if_neg (by omega)]
 ·rw [List.getElem?_eq_none (by simpa using hi),if_neg (by omega)]; rfl
theorem flipTo_get (l:List Int) {n m:Nat} (hm:m < n):(flipTo l n m)[n - 1 - m]? = some 0:=by
 unfold flipTo
 rw [range_map_get _ (by omega),if_neg (by omega)]
theorem flipZ_len (l:List Int) (n:Nat):(flipZ l n).length=n:=by simp [flipZ]
theorem Flip_any (l:List Int) (A:Option Addr) (cap:Nat) (w:World) (hl:l.length<=1000000000) (hr:Row w w.heap.size A (l.map (.int .i64))) :
  Calls Tryz.prog 247 #[.slice A l.length cap] w (NewRow w (flipZ l l.length)):=by
 have Hr:=hid hr
 unfold NewRow
 rw [flipZ_len]
 obtain ⟨n,hn⟩:∃ n,l.length=n:=⟨_,rfl⟩
 rw [hn] at hl ⊢
 have Hn:=hid hn
 obtain ⟨i0,hi,hz0,hz1,hz2⟩:∃ i,Tryz.prog.info? 2=some i/\i.zero=some (.int .i64 0)/\i.size=1/\i.bytes=8:=by
  have:=inf_i64
  cases h:Tryz.prog.info? 2 with
  | none=>rw [h] at this; cases this
  | some i=>rw [h] at this; simp at this; exact ⟨i,rfl,this.1,this.2.1,this.2.2⟩
 have Hms:=hid (show (madeCells #[Value.int .i64 0] n).toList=List.replicate n (.int .i64 0) from toList_madeCells_one _ _)
 obtain ⟨mc,hmc⟩:∃ mc,madeCells #[Value.int .i64 0] n=mc:=⟨_,rfl⟩
 rw [hmc] at Hms
 have hmc2:mc=((flipTo l n 0).map (Value.int .i64)).toArray:=by
  apply Array.toList_inj.1
  rw [Hms.out,flipTo_zero]
 have HB0:=hid (show Blk (w.alloc (.cells mc 2)) w.heap.size 2 ((flipTo l n 0).map (.int .i64)) by rw [hmc2]; exact Blk.new w _ _)
 clear hr hn hmc2 Hms
 go_enter Tryz.func247,Tryz.ntmps247
 go_wp2_with (refine wpList_make_row w rfl (.tmp 7) (.tmp 7) 224 rfl 2 i0 (.int .i64 0) Tryz.underlying224 hi hz0 hz1 rfl .i64 .i64 n rfl rfl (by rw [hz2]; omega) (by omega) ?_; rw [hmc])
 go_loopw [11] (fun i wr=>∃ m:Nat,m<=n/\i=.int .i64 m/\Blk wr w.heap.size 2 ((flipTo l n m).map (.int .i64))/\Below w.heap.size w wr) (fun i _=>n - (intOf i).toNat)
 case atStart=>exact ⟨0,by omega,rfl,HB0.out,bnew w _⟩
 case round =>
  obtain ⟨m,hm,rfl,hB,hbel⟩:=hrel
  have HB:=hid hB
  have Hbel:=hid hbel
  clear HB0
  by_cases hlk:m < n
  ·have t1:(m:Int) < (n:Int):=by omega
   obtain ⟨x,hx⟩:=list_get (k:=m) Hn.out hlk
   obtain ⟨b,off,hA,hb,k0⟩:=Hr.out m (.int .i64 x) (by rw [List.getElem?_map,hx]; rfl)
   have k1:=(Hbel.out.cell (p:=⟨b,off+m,none⟩) hb).trans k0
   subst hA
   obtain ⟨r,hrr⟩:∃ r,n - 1 - m=r:=⟨_,rfl⟩
   have HS:=hid (show (flipTo l n m).set r x=flipTo l n (m+1) by rw [<-flipTo_succ l hlk,bgt_get hx,hrr])
   have ce:wr.cell? ⟨w.heap.size,r,none⟩=some (.int .i64 0):=by rw [hB.cell,List.getElem?_map,<-hrr,flipTo_get l hlk]; rfl
   have fz:=hB.frozen r
   have t2:(n:Int) - 1 - (m:Int)=(r:Int):=by omega
   have t3:(0:Int)<=(r:Int):=by omega
   have t4:(r:Int) < (n:Int):=by omega
   clear hx k0 hB hbel hrr
   go_wp2
   go_roundw
   case rel =>
    refine ⟨m+1,by omega,by go_num,?_,Hbel.out.setCell (by simp) _⟩
    rw [<-HS.out,List.map_set]
    exact HB.out.set_ r _
   case measure=>simp [intOf]; omega
  ·have hmn:m=n:=by omega
   have t1:¬ ((m:Int) < (n:Int)):=by omega
   have HE:=hid (show flipTo l n m=flipZ l n by rw [hmn]; exact flipTo_all l n)
   go_wp2
   go_ret
   exact ⟨w.heap.size,rfl,Nat.le_refl _,by rw [<-HE.out]; exact HB.out,Hbel.out⟩
end
section
open Go.RowKit
end
section
open Go.RowKit
end
section
open Go.Lib (hid)
open Go.RowKit
theorem toList_made_rep (z:Array Value) (v:Value) (hp:0 < z.size) (hz:∀ j,j < z.size->z[j]! = v) (n:Nat):(madeCells z n).toList=List.replicate n v:=by
 unfold madeCells
 rw [Array.toList_map,Array.toList_range]
 apply List.ext_getElem?
 intro j
 rw [List.getElem?_map,List.getElem?_replicate]
 rcases Nat.lt_or_ge j n with hj | hj
 ·rw [List.getElem?_range hj,if_pos hj]
  simp only [Option.map_some]
  rw [hz _ (Nat.mod_lt _ hp)]
 ·rw [List.getElem?_eq_none (by simpa using hj),if_neg (by omega)]; rfl
theorem wpList_make_rows {P:Program} (w:World) {ops:Array Oper} {rest:List Oper} {o:Oper} {a:Act} {Q:Exit->Act->World->Prop}
  (hg:o.guard=none) (l c:Operand) (t:TypeId) (hop:o.op=Op.makeSlice t l c)
  (e:TypeId) (i:TypeInfo) (z:Value) (size:Nat) (ht:P.underlying t=some (.slice e)) (hi:P.info? e=some i) (hz:i.zero=some z) (hsize:i.size=size)
  (kl kc:IntKind) (n:Nat) (hl:a.eval l=.int kl (n:Int)) (hc:a.eval c=.int kc (n:Int)) (hbytes:i.bytes*n<=281474976710656) (h63:n<=9223372036854775807)
  (hK:wpList P ops Q rest (a.put o.dst (.slice (some ⟨w.heap.size,0,none⟩) n n)) (w.alloc (.cells (madeCells z.cells (n*size)) e))) :
  wpList P ops Q (o :: rest) a w:=by
 refine wpList_plain hg fun K hK'=>?_
 have hb':(i.bytes:Int)*(n:Int)<=281474976710656:=by
  have h:((i.bytes*n:Nat):Int)<=281474976710656:=by omega
  rwa [Int.natCast_mul] at h
 have hrun:=run_make (P:=P) w t e i z ht hi hz kl kc n n (by omega) (Int.le_refl _) hb' (by omega)
 simp only [Int.toNat_natCast,hsize] at hrun
 unfold Oper.wp
 simp [execOp,hop,hl,hc,hrun,Result.andThen]
 exact hK' _ _ hK
theorem inf_blk:(Tryz.prog.info? 70).map (fun i=>(i.zero,i.size,i.bytes))=some (some (.agg (List.replicate 16 (Value.int .i64 0)).toArray),16,128):=by kernel_rfl
def padTo (l:List Int) (c m:Nat):List Int:=(List.range (c*16)).map fun k=>if k < m then bgt l k else 0
def padZ (l:List Int):List Int:=(List.range (countN l.length*16)).map (bgt l)
theorem padTo_succ (l:List Int) {c m:Nat} (hm:m < c*16):(padTo l c m).set m (bgt l m)=padTo l c (m+1):=by
 refine range_map_set _ (fun k=>if k < m+1 then bgt l k else 0) hm ?_ (fun i hi=>?_)
 ·rw [if_pos (by omega)]
 ·by_cases h:i < m
  ·rw [if_pos h,if_pos (by omega)]
  ·rw [if_neg h,if_neg (by omega)]
theorem bgt_out {l:List Int} {k:Nat} (h:l.length<=k):bgt l k=0:=by
 unfold bgt
 rw [List.getD_eq_getElem?_getD,List.getElem?_eq_none h]; rfl
theorem padTo_all (l:List Int):padTo l (countN l.length) l.length=padZ l:=by
 unfold padTo padZ
 apply List.map_congr_left
 intro k _
 split
 ·rfl
 ·rw [bgt_out (by omega)]
theorem padTo_get (l:List Int) {c m:Nat} (hm:m < c*16):(padTo l c m)[m]? = some 0:=by
 unfold padTo
 rw [range_map_get _ hm,if_neg (by omega)]
theorem padTo_zero (l:List Int) (c:Nat):(padTo l c 0).map (Value.int .i64)=List.replicate (c*16) (.int .i64 0):=by
 unfold padTo
 apply List.ext_getElem?
 intro i
 rw [List.getElem?_map,List.getElem?_map,List.getElem?_replicate]
 rcases Nat.lt_or_ge i (c*16) with hi | hi
 ·rw [List.getElem?_range hi,if_pos hi]; simp
 ·rw [List.getElem?_eq_none (by simpa using hi),if_neg (by omega)]; rfl
def NewBlocks (W:World) (c:Nat) (xs:List Int) (e:Ending) (w':World):Prop :=
 ∃ g,e=.returned (.slice (some ⟨g,0,none⟩) c c)/\W.heap.size<=g/\Blk w' g 70 (xs.map (.int .i64))/\Below W.heap.size W w'
theorem Blocks_any (l:List Int) (A:Option Addr) (cap:Nat) (w:World) (hl:l.length<=1000000000) (hr:Row w w.heap.size A (l.map (.int .i64))) :
  Calls Tryz.prog 192 #[.slice A l.length cap] w (NewBlocks w (countN l.length) (padZ l)):=by
 have Hr:=hid hr
 unfold NewBlocks
 rw [<-padTo_all]
 have HCn:=hid (fun W=>Count_any l.length W hl)
 have hcb:l.length<=countN l.length*16:=by unfold countN; omega
 have hcc:countN l.length<=1000000000:=by unfold countN; omega
 obtain ⟨n,hn⟩:∃ n,l.length=n:=⟨_,rfl⟩
 rw [hn] at hl hcb hcc HCn ⊢
 generalize countN n=c at *
 have Hn:=hid hn
 obtain ⟨i0,hi,hz0,hz1,hz2⟩:∃ i,Tryz.prog.info? 70=some i/\i.zero=some (.agg (List.replicate 16 (Value.int .i64 0)).toArray)/\i.size=16/\i.bytes=128:=by
  have:=inf_blk
  cases h:Tryz.prog.info? 70 with
  | none=>rw [h] at this; cases this
  | some i =>
   rw [h] at this
   simp only [Option.map_some,Option.some.injEq,Prod.mk.injEq] at this
   exact ⟨i,rfl,this.1,this.2.1,this.2.2⟩
 have Hms:=hid (show (madeCells (Value.agg (List.replicate 16 (Value.int .i64 0)).toArray).cells (c*16)).toList=List.replicate (c*16) (.int .i64 0) from toList_made_rep _ _ (by decide) (fun j hj=>by
  have hj16:j < 16:=hj
  have hk:j=0\/j=1\/j=2\/j=3\/j=4\/j=5\/j=6\/j=7\/j=8\/j=9\/j=10\/j=11\/j=12\/j=13\/j=14\/j=15:=by omega
  rcases hk with rfl | rfl | rfl | rfl | rfl | rfl | rfl | rfl | rfl | rfl | rfl | rfl | rfl | rfl | rfl | rfl <;> rfl) _)
 obtain ⟨mc,hmc⟩:∃ mc,madeCells (Value.agg (List.replicate 16 (Value.int .i64 0)).toArray).cells (c*16)=mc:=⟨_,rfl⟩
 rw [hmc] at Hms
 have hmc2:mc=((padTo l c 0).map (Value.int .i64)).toArray:=by
  apply Array.toList_inj.1
  rw [Hms.out,padTo_zero]
 have HB0:=hid (show Blk (w.alloc (.cells mc 70)) w.heap.size 70 ((padTo l c 0).map (.int .i64)) by rw [hmc2]; exact Blk.new w _ _)
 clear hr hn hmc2 Hms
 go_enter Tryz.func192,Tryz.ntmps192
 go_wp2_with (first | (go_at_call 68; refine (HCn.out _).mono ?_; rintro e w1 ⟨rfl,rfl⟩) | (refine wpList_make_rows w rfl (.tmp 8) (.tmp 8) 256 rfl 70 i0 (.agg (List.replicate 16 (Value.int .i64 0)).toArray) 16 Tryz.underlying256 hi hz0 hz1 .i64 .i64 c rfl rfl (by rw [hz2]; omega) (by omega) ?_; rw [hmc]))
 go_loopw [12] (fun i wr=>∃ m:Nat,m<=n/\i=.int .i64 m/\Blk wr w.heap.size 70 ((padTo l c m).map (.int .i64))/\Below w.heap.size w wr) (fun i _=>n - (intOf i).toNat)
 case atStart=>exact ⟨0,by omega,rfl,HB0.out,bnew w _⟩
 case round =>
  obtain ⟨m,hm,rfl,hB,hbel⟩:=hrel
  have HB:=hid hB
  have Hbel:=hid hbel
  clear HB0
  by_cases hlk:m < n
  ·have t1:(m:Int) < (n:Int):=by omega
   obtain ⟨x,hx⟩:=list_get (k:=m) Hn.out hlk
   obtain ⟨b,off,hA,hb,k0⟩:=Hr.out m (.int .i64 x) (by rw [List.getElem?_map,hx]; rfl)
   have k1:=(Hbel.out.cell (p:=⟨b,off+m,none⟩) hb).trans k0
   subst hA
   obtain ⟨q,hq⟩:∃ q,m / 16=q:=⟨_,rfl⟩
   obtain ⟨r,hrr⟩:∃ r,m % 16=r:=⟨_,rfl⟩
   have hqr:q*16+r=m:=by omega
   have hmc16:m < c*16:=by omega
   have HS:=hid (show (padTo l c m).set m x=padTo l c (m+1) by rw [<-padTo_succ l hmc16,bgt_get hx])
   have ce:wr.cell? ⟨w.heap.size,q*16+r,none⟩=some (.int .i64 0):=by rw [hqr,hB.cell,List.getElem?_map,padTo_get l hmc16]; rfl
   have fz:=hB.frozen (q*16+r)
   have t2:(m:Int) / 16=(q:Int):=by omega
   have t3:(m:Int) % 16=(r:Int):=by omega
   have t4:(q:Int) < (c:Int):=by omega
   have t5:(r:Int) < 16:=by omega
   have t6:(0:Int)<=(q:Int):=by omega
   have t7:(0:Int)<=(r:Int):=by omega
   have Hqr:=hid hqr
   clear hx k0 hB hbel hq hrr hqr
   go_wp2
   go_roundw
   case rel =>
    refine ⟨m+1,by omega,by go_num,?_,Hbel.out.setCell (by simp) _⟩
    rw [<-HS.out,List.map_set,Hqr.out]
    exact HB.out.set_ m _
   case measure=>simp [intOf]; omega
  ·have hmn:m=n:=by omega
   have t1:¬ ((m:Int) < (n:Int)):=by omega
   subst hmn
   go_wp2
   go_ret
   exact ⟨w.heap.size,rfl,Nat.le_refl _,HB.out,Hbel.out⟩
end
section
open Go.Lib (hid)
open Go.RowKit
theorem flat_take (l:List Int) (m:Nat):(l.take ((m+1)*16)).map (Value.int .i64)=(l.take (m*16)).map (Value.int .i64) ++ ((l.drop (m*16)).take 16).map (.int .i64):=by
 rw [<-List.map_append,show (m+1)*16=m*16+16 by omega,List.take_add]
def firstZ (l:List Int) (n:Int):List Int:=l.take (max (min n (l.length:Int)) 0).toNat
theorem LSamples_any (l:List Int) (c:Nat) (A:Option Addr) (cap:Nat) (k:Int) (w:World) (hl:l.length=c*16) (hc:c<=1000000) (hr:Row w w.heap.size A (l.map (.int .i64))) :
  Calls Tryz.prog 211 #[.slice A c cap,.int .i64 k] w (GapPost w (firstZ l k)):=by
 obtain ⟨i0,hi,hz0,hz1,hz2⟩:=info_parts inf_i64
 have Hr:=hid hr
 have Hl:=hid hl
 have hFe:firstZ l k=l.take (max (min k ((c*16:Nat):Int)) 0).toNat:=by unfold firstZ; rw [hl]
 rw [hFe]
 have HFb:=hid inf_block
 clear hr hl hFe
 go_enter Tryz.func211,Tryz.ntmps211
 go_wp2
 go_loopw [5,10] (fun o i wr=>∃ (m:Nat) (A':Option Addr) (cc:Nat),m<=c/\i=.int .i64 m/\o=.slice A' (m*16) cc/\cc<=9223372036854775807/\wr.ownsRow w.heap.size 2 1 (.slice A' (m*16) cc) (m*16) ((l.take (m*16)).map (.int .i64))/\Below w.heap.size w wr) (fun _ i _=>c - (intOf i).toNat)
 case atStart=>exact ⟨0,none,0,by omega,rfl,rfl,by omega,World.ownsRow_nil _ _ _ _,Below.refl _ _⟩
 case round =>
  obtain ⟨m,A',cc,hm,rfl,rfl,hc63,hown,hbel⟩:=hrel
  have Hown:=hid hown
  have Hbel:=hid hbel
  have Hge:=hid (own_block_ge hown)
  have Hc63:=hid hc63
  clear hown hbel hc63
  by_cases hlk:m < c
  ·have t3:(m:Int) < (c:Int):=by omega
   obtain ⟨xs,hxs⟩:∃ xs,((l.drop (m*16)).take 16).map (Value.int .i64)=xs:=⟨_,rfl⟩
   have hxl:xs.length=16:=by rw [<-hxs,List.length_map,List.length_take,List.length_drop,Hl.out]; omega
   have hx1:∀ u ∈ xs,u.oneCell'=true:=by
    intro u hu
    rw [<-hxs] at hu
    obtain ⟨y,_,rfl⟩:=List.mem_map.1 hu
    rfl
   obtain ⟨x0,hx0⟩:=list_get (k:=m*16) Hl.out (by omega)
   obtain ⟨b,off,hA,hb,_⟩:=Hr.out (m*16) (.int .i64 x0) (by rw [List.getElem?_map,hx0]; rfl)
   have HX:=hid (fun (j:Nat) (v:Value) (hv:xs[j]? = some v)=>(show wr.cell? ⟨b,off+m*16+j,none⟩=some v by
    have hj:j < 16:=by have:=(List.getElem?_eq_some_iff.1 hv).1; omega
    rw [<-hxs,List.getElem?_map,List.getElem?_take,if_pos hj,List.getElem?_drop] at hv
    obtain ⟨b',off',hA',hb',k0⟩:=Hr.out (m*16+j) v (by rw [List.getElem?_map]; exact hv)
    rw [hA] at hA'
    injection hA' with hA'
    injection hA' with e1 e2
    subst e1 e2
    rw [Nat.add_assoc]
    exact (Hbel.out.cell (p:=⟨b,off+(m*16+j),none⟩) hb).trans k0))
   subst hA
   have HS:=hid (show (l.take ((m+1)*16)).map (Value.int .i64)=(l.take (m*16)).map (Value.int .i64) ++ xs by rw [flat_take,hxs])
   have HFx:=hid (show (Tryz.prog.info? 70).map (·.size)=some xs.length by rw [hxl]; exact HFb.out)
   have HFy:=hid (show (Tryz.prog.info? 70).map (·.size)=some xs.toArray.size by rw [List.size_toArray,hxl]; exact HFb.out)
   have Hxl:=hid hxl
   have Hx1:=hid hx1
   have Hone:=hid (show xs.toArray.all (·.oneCell')=true by
    rw [Array.all_eq_true_iff_forall_mem]
    intro v hv
    exact hx1 v (by simpa using hv))
   clear hx0 hxs hxl hx1
   go_wp2_with (first | (refine wpList_load_part_w rfl 70 (.tmp 12) rfl b (off+m*16) rfl xs _ HX.out Tryz.underlying70 rfl HFx.out ?_) | (refine wpList_store_row_w rfl 70 (.tmp 7) (.tmp 13) rfl wr.heap.size rfl _ _ xs.toArray rfl (heap_alloc_new wr _) HFy.out (by show (16:Nat)=_; rw [List.size_toArray,Hxl.out]) Hone.out ?_; rw [World.setRow_alloc_new]) | (at_builtin; refine wpList_app _ rfl (.tmp 14) (.tmp 15) 224 rfl w.heap.size 2 i0 (.int .i64 0) 1 8 Tryz.underlying224 hi hz0 hz1 hz2 rfl (by omega) _ (m*16) _ rfl (Hown.out.alloc _) (wr.heap.size+1) (some ⟨wr.heap.size,0,none⟩) 16 16 xs rfl (by rw [Hxl.out]) (Row.new wr _ xs) Hx1.out (by omega) (by omega) (by have:=Hbel.out.size; simp; omega) ?_; intro A2 cc2 w2 hown2 hgrow hat hcc))
   go_roundw
   case rel =>
    have hb2:Below w.heap.size w w2:=(Hbel.out.alloc Hbel.out.size _).grown hgrow (by have:=Hbel.out.size; simp; omega) (fun g h=>Hge.out g h)
    rw [<-HS.out,show m*16+16=(m+1)*16 by omega] at hown2
    exact ⟨m+1,A2,cc2,by omega,by go_num,by rw [show (m+1)*16=m*16+16 by omega],own_cap hown2,hown2,hb2⟩
   case measure=>simp [intOf]; omega
  ·have t3:¬ ((m:Int) < (c:Int)):=by omega
   have hmc:m=c:=by omega
   subst hmc
   have hcap:=own_len Hown.out
   obtain ⟨N,hN⟩:∃ N,m*16=N:=⟨_,rfl⟩
   rw [hN] at Hown hcap ⊢
   have Hown2:=hid Hown.out
   have HlN:=hid (show l.length=N by rw [Hl.out,hN])
   have hT0:0<=max (min k (N:Int)) 0:=by omega
   obtain ⟨T,hT⟩:=Int.eq_ofNat_of_zero_le hT0
   have HT:=hid (show (max (min k (N:Int)) 0).toNat=T by rw [hT,Int.toNat_natCast])
   have hTN:T<=N:=by omega
   have hmin:∀ W,(Builtin.min_ #[3,3] 3 #[.int .i64 k,.int .i64 (N:Int)]).run Tryz.prog W=.ok (.int .i64 (min k (N:Int))) W:=fun W=>by
    have e:(if (N:Int) < k then (N:Int) else k)=min k (N:Int):=by split <;> omega
    simp [Builtin.min_,Builtin.min2,e]
   obtain ⟨kk,hkk⟩:∃ kk,min k (N:Int)=kk:=⟨_,rfl⟩
   rw [hkk] at hT hT0 hmin
   have hmax:∀ W,(Builtin.max_ #[3,3] 3 #[.int .i64 kk,.int .i64 0]).run Tryz.prog W=.ok (.int .i64 (T:Int)) W:=fun W=>by
    have e:(if kk < 0 then 0 else kk)=(T:Int):=by rw [<-hT]; split <;> omega
    simp [Builtin.max_,Builtin.max2,e]
   clear hT0 hT hkk
   have s1:(T:Int)<=(cc:Int):=by omega
   have s2:(0:Int)<=(T:Int):=by omega
   go_wp2
   go_ret
   rw [HT.out]
   have hlen:(l.take T).length=T:=by rw [List.length_take,HlN.out]; omega
   refine ⟨A',cc,by rw [hlen]; rfl,by rw [hlen]; omega,Hc63.out,?_,Hbel.out⟩
   rw [List.map_take]
   have:=(Row.of_own Hown2.out).take T
   rw [List.take_of_length_le (l:=l) (by rw [HlN.out]; exact Nat.le_refl _)] at this
   exact this
end
end Go.Proofs.YtgcfkblmnpnogaaGreatDoor
