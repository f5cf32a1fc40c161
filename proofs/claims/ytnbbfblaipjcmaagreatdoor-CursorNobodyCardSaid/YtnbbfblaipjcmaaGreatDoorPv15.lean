/- CodeA, CodeB, CodeF, CodeG, CodeE, CodeH, CodeC. Conditions: as each theorem states. -/
import Derived.Deep.OwnRows
import Derived.Test.YtnbbfblaipjcmaaGreatDoorPv14
import Derived.Test.YtnbbfblaipjcmaaGreatDoorPv09
import Derived.Test.YtnbbfblaipjcmaaGreatDoorPv01
set_option maxRecDepth 100000
set_option maxHeartbeats 8000000
namespace Go.Proofs.YtnbbfblaipjcmaaGreatDoor
section
open Go.RowKit
def aV (n:Nat):Nat:=(n+15) / 16
theorem xI (n:Nat) (w:World) (hn:n<=1000000000):Calls Tryz.prog 90 #[.int .i64 n] w fun e w'=>e=.returned (.int .i64 (aV n))/\w=w':=by
 by_cases h:(n:Int) < 1
 ·have hn0:n=0:=by omega
  subst hn0
  go_enter Tryz.func90,Tryz.ntmps90
  go_wp2
  go_ret
  exact ⟨rfl,rfl⟩
 ·have HC:=Lib.hid (show ((n:Int) - 1) / 16+1=(aV n:Int) by unfold aV; omega)
  have h0:(0:Int)<=(n:Int) - 1:=by omega
  go_enter Tryz.func90,Tryz.ntmps90
  go_wp2
  go_ret
  exact ⟨cE HC.out,rfl⟩
def kF (size:Int):Array Value:=fA.push (.int .i64 size)
theorem NU (size:Int):(kF size).size=33:=by simp [kF,iW]
theorem zC (size:Int):(kF size)[32]? = some (.int .i64 size):=by
 unfold kF
 rw [Array.getElem?_push,if_pos iW.symm]
def CoderAt (W:World) (g:Nat) (size:Int):Prop:=W.heap[g]? = some (.cells (kF size) 261 (0,0))
theorem NJ (size:Int):Tryz.prog.built 261 [(0,.agg fA),(1,.int .i64 size)]=some (kF size):=by kernel_rfl
theorem TM (size:Int) (w:World) (h:size < 24\/96 < size):Calls Tryz.prog 116 #[.int .i64 size] w fun e w'=>e=.returned (.tuple #[.pointer none,.int .i64 12])/\w=w':=by
 have hsd:decide (size < 24)=true\/(decide (size < 24)=false/\decide (96 < size)=true):=by
  by_cases h:size < 24
  ·exact .inl (decide_eq_true h)
  ·exact .inr ⟨decide_eq_false h,decide_eq_true (by omega)⟩
 clear h
 rcases hsd with e1 | ⟨e1,e2⟩
 all_goals
  go_enter Tryz.func116,Tryz.ntmps116
  go_wp2
  refine bodyPost_ret (results_tmp2 Tryz.results116 _ _ _) rfl ?_
  exact ⟨rfl,rfl⟩
theorem zA (size:Int) (w:World) (h1:24<=size) (h2:size<=96) :
  Calls Tryz.prog 116 #[.int .i64 size] w fun e w'=>∃ g,e=.returned (.tuple #[.pointer (some ⟨g,0,none⟩),.int .i64 0])/\w.heap.size<=g/\CoderAt w' g size/\Below w.heap.size w w':=by
 have e1:decide (size < 24)=false:=decide_eq_false (by omega)
 have e2:decide (96 < size)=false:=decide_eq_false (by omega)
 have HL:=Lib.hid EC
 have HT:=Lib.hid (NJ size)
 have HC:=Lib.hid (fun (W:World) (g:Nat) (h:W.heap[g]? = some (.cells (kF size) 261 (0,0)))=>(show CoderAt W g size from h))
 generalize kF size=cv at *
 generalize fA=lv at *
 clear h1 h2
 go_enter Tryz.func116,Tryz.ntmps116
 go_wp2_with (go_at_call 107; fail)
 refine (HL.out _).mono ?_
 rintro e w1 ⟨rfl,hb1⟩
 go_wp2_with (refine cX rfl 261 _ rfl cv (by simpa [Act.eval,Act.put] using HT.out) ?_)
 refine bodyPost_ret (results_tmp2 Tryz.results116 _ _ _) rfl ?_
 exact ⟨w1.heap.size,rfl,hb1.size,HC.out _ _ (heap_alloc_new w1 _),aC hb1 (aL w1 _)⟩
theorem M7 (g:Nat) (size:Int) (w:World) (h:CoderAt w g size):Calls Tryz.prog 176 #[.pointer (some ⟨g,0,none⟩)] w fun e w'=>e=.returned (.int .i64 size)/\w=w':=by
 have c:w.cell? ⟨g,32,none⟩=some (.int .i64 size):=(cell_of_row w g 32 _ _ _ h).trans (zC size)
 clear h
 go_enter Tryz.func176,Tryz.ntmps176
 go_wp2
 go_ret
 exact ⟨rfl,rfl⟩
theorem SD (g:Nat) (size:Int) (w:World) (h:CoderAt w g size):Calls Tryz.prog 231 #[.pointer (some ⟨g,0,none⟩)] w fun e w'=>e=.returned (.bool (decide (55<=size)))/\w=w':=by
 have H:=Lib.hid (M7 g size w h)
 clear h
 go_enter Tryz.func231,Tryz.ntmps231
 go_wp2_with (go_at_call 176; refine H.out.mono ?_; rintro e w' ⟨rfl,rfl⟩)
 go_ret
 exact ⟨rfl,rfl⟩
end
section
open Go.Lib (hid)
open Go.RowKit
def DZ (x:Int):Bool:=decide (-32768<=x) && decide (x < 32768)
theorem TR (l:List Int) (A:Option Addr) (cap:Nat) (w:World) (hl:l.length<=1000000000) (hr:Row w w.heap.size A (l.map (.int .i64))) :
  Calls Tryz.prog 200 #[.slice A l.length cap] w fun e w'=>e=.returned (.bool (l.all DZ))/\w=w':=by
 have Hr:=hid hr
 obtain ⟨n,hn⟩:∃ n,l.length=n:=⟨_,rfl⟩
 rw [hn] at hl ⊢
 have Hn:=hid hn
 clear hr hn
 go_enter Tryz.func200,Tryz.ntmps200
 go_wp2
 go_loop [7] (fun k=>∃ m:Nat,m<=n/\(l.take m).all DZ=true/\k=.int .i64 m) (fun k=>(n - (intOf k)).toNat)
 case atStart=>exact ⟨0,by omega,rfl,rfl⟩
 case round =>
  obtain ⟨m,hm,hall,rfl⟩:=hrel
  have HA:=hid hall
  clear hall
  by_cases hlk:m < n
  ·have t1:(m:Int) < (n:Int):=by omega
   obtain ⟨x,hx⟩:=aE (k:=m) Hn.out hlk
   obtain ⟨b,off,hA,hb,k0⟩:=Hr.out m (.int .i64 x) (by rw [List.getElem?_map,hx]; rfl)
   subst hA
   have HT:=hid (fS DZ hx)
   have HFa:=hid (fun h=>iS DZ hx h)
   clear hx
   by_cases h0:x < -32768
   ·have d0:decide (x < -32768)=true:=decide_eq_true h0
    have hf:=hid (HFa.out (by unfold DZ; rw [decide_eq_false (by omega)]; rfl))
    go_wp2
    go_ret
    exact ⟨dI hf.out.symm,rfl⟩
   ·have d0:decide (x < -32768)=false:=decide_eq_false h0
    by_cases h1:32768<=x
    ·have d1:decide (32768<=x)=true:=decide_eq_true h1
     have hf:=hid (HFa.out (by unfold DZ; rw [decide_eq_false (show ¬ x < 32768 by omega),Bool.and_false]))
     go_wp2
     go_ret
     exact ⟨dI hf.out.symm,rfl⟩
    ·have d1:decide (32768<=x)=false:=decide_eq_false h1
     have hf:=hid (show DZ x=true by unfold DZ; rw [decide_eq_true (show -32768<=x by omega),decide_eq_true (show x < 32768 by omega)]; rfl)
     go_wp2
     go_round
     case rel=>exact ⟨m+1,by omega,by rw [HT.out,HA.out,hf.out]; rfl,by go_num⟩
     case measure=>simp [intOf]; omega
  ·have hmn:m=n:=by omega
   have t1:¬ ((m:Int) < (n:Int)):=by omega
   have hf:=hid (gE DZ (l:=l) (k:=m) (by rw [Hn.out]; omega) HA.out)
   go_wp2
   go_ret
   exact ⟨dI hf.out.symm,rfl⟩
theorem W4:(Tryz.prog.info? 2).map (fun i=>(i.zero,i.size,i.bytes))=some (some (.int .i64 0),1,8):=by kernel_rfl
def uH (W:World) (xs:List Int) (e:Ending) (w':World):Prop :=
 ∃ g,e=.returned (.slice (some ⟨g,0,none⟩) xs.length xs.length)/\W.heap.size<=g/\Blk w' g 2 (xs.map (.int .i64))/\Below W.heap.size W w'
def kV (l:List Int) (n m:Nat):List Int:=(List.range n).map fun k=>if k < m then bgt l k else 0
theorem RX (l:List Int) {n m:Nat} (hm:m < n):(kV l n m).set m (bgt l m)=kV l n (m+1):=by
 refine dE _ (fun k=>if k < m+1 then bgt l k else 0) hm ?_ (fun i hi=>?_)
 ·rw [if_pos (by omega)]
 ·by_cases h:i < m
  ·rw [if_pos h,if_pos (by omega)]
  ·rw [if_neg h,if_neg (by omega)]
theorem WI {l:List Int} {n:Nat} (hn:l.length=n):kV l n n=l:=by
 refine Eq.trans ?_ (eN hn).symm
 unfold kV
 apply List.map_congr_left
 intro k hk
 rw [if_pos (List.mem_range.1 hk)]
theorem WJ (l:List Int) {n m k:Nat} (hk:k < n) (hm:m<=k):(kV l n m)[k]? = some 0:=by
 unfold kV
 rw [aJ _ hk,if_neg (by omega)]
theorem RY (l:List Int) (n:Nat):(kV l n 0).map (Value.int .i64)=List.replicate n (.int .i64 0):=by
 unfold kV
 apply List.ext_getElem?
 intro i
 rw [List.getElem?_map,List.getElem?_map,List.getElem?_replicate]
 rcases Nat.lt_or_ge i n with hi | hi
 ·rw [List.getElem?_range hi,if_pos hi]; simp
 ·rw [List.getElem?_eq_none (by simpa using hi),if_neg (by omega)]; rfl
theorem YP (l:List Int) (A:Option Addr) (cap:Nat) (w:World) (hl:l.length<=1000000000) (hr:Row w w.heap.size A (l.map (.int .i64))) :
  Calls Tryz.prog 201 #[.slice A l.length cap] w (uH w l):=by
 have Hr:=hid hr
 unfold uH
 obtain ⟨n,hn⟩:∃ n,l.length=n:=⟨_,rfl⟩
 rw [hn] at hl ⊢
 have Hn:=hid hn
 obtain ⟨i0,hi,hz0,hz1,hz2⟩:∃ i,Tryz.prog.info? 2=some i/\i.zero=some (.int .i64 0)/\i.size=1/\i.bytes=8:=by
  have:=W4
  cases h:Tryz.prog.info? 2 with
  | none=>rw [h] at this; cases this
  | some i=>rw [h] at this; simp at this; exact ⟨i,rfl,this.1,this.2.1,this.2.2⟩
 have Hms:=hid (show (madeCells #[Value.int .i64 0] n).toList=List.replicate n (.int .i64 0) from toList_madeCells_one _ _)
 obtain ⟨mc,hmc⟩:∃ mc,madeCells #[Value.int .i64 0] n=mc:=⟨_,rfl⟩
 rw [hmc] at Hms
 have hmc2:mc=((kV l n 0).map (Value.int .i64)).toArray:=by
  apply Array.toList_inj.1
  rw [Hms.out,RY]
 have HB0:=hid (show Blk (w.alloc (.cells mc 2)) w.heap.size 2 ((kV l n 0).map (.int .i64)) by rw [hmc2]; exact Blk.new w _ _)
 clear hr hn hmc2 Hms
 go_enter Tryz.func201,Tryz.ntmps201
 go_wp2_with (refine wpList_make_row w rfl (.tmp 7) (.tmp 7) 170 rfl 2 i0 (.int .i64 0) Tryz.underlying170 hi hz0 hz1 rfl .i64 .i64 n rfl rfl (by rw [hz2]; omega) (by omega) ?_; rw [hmc])
 go_loopw [11] (fun i wr=>∃ m:Nat,m<=n/\i=.int .i64 m/\Blk wr w.heap.size 2 ((kV l n m).map (.int .i64))/\Below w.heap.size w wr) (fun i _=>n - (intOf i).toNat)
 case atStart=>exact ⟨0,by omega,rfl,HB0.out,aL w _⟩
 case round =>
  obtain ⟨m,hm,rfl,hB,hbel⟩:=hrel
  have HB:=hid hB
  have Hbel:=hid hbel
  clear HB0
  by_cases hlk:m < n
  ·have t1:(m:Int) < (n:Int):=by omega
   obtain ⟨x,hx⟩:=aE (k:=m) Hn.out hlk
   obtain ⟨b,off,hA,hb,k0⟩:=Hr.out m (.int .i64 x) (by rw [List.getElem?_map,hx]; rfl)
   have k1:=(Hbel.out.cell (p:=⟨b,off+m,none⟩) hb).trans k0
   subst hA
   have HS:=hid (show (kV l n m).set m x=kV l n (m+1) by rw [<-RX l hlk,aD hx])
   have ce:wr.cell? ⟨w.heap.size,m,none⟩=some (.int .i64 0):=by rw [hB.cell,List.getElem?_map,WJ l hlk (Nat.le_refl m)]; rfl
   have fz:=hB.frozen m
   clear hx k0 hB hbel
   go_wp2
   go_roundw
   case rel =>
    refine ⟨m+1,by omega,by go_num,?_,Hbel.out.setCell (by simp) _⟩
    rw [<-HS.out,List.map_set]
    exact HB.out.set_ m _
   case measure=>simp [intOf]; omega
  ·have hmn:m=n:=by omega
   have t1:¬ ((m:Int) < (n:Int)):=by omega
   have HE:=hid (show kV l n m=l by rw [hmn]; exact WI Hn.out)
   go_wp2
   go_ret
   exact ⟨w.heap.size,rfl,Nat.le_refl _,by rw [<-HE.out]; exact HB.out,Hbel.out⟩
def nV (l:List Int) (n:Nat):List Int:=(List.range n).map fun k=>bgt l (n - 1 - k)
def kH (l:List Int) (n m:Nat):List Int:=(List.range n).map fun k=>if n<=k+m then bgt l (n - 1 - k) else 0
theorem OK (l:List Int) {n m:Nat} (hm:m < n):(kH l n m).set (n - 1 - m) (bgt l m)=kH l n (m+1):=by
 refine dE _ (fun k=>if n<=k+(m+1) then bgt l (n - 1 - k) else 0) (by omega) ?_ (fun i hi=>?_)
 ·rw [if_pos (by omega),show n - 1 - (n - 1 - m)=m by omega]
 ·by_cases h:n<=i+m
  ·rw [if_pos h,if_pos (by omega)]
  ·rw [if_neg h,if_neg (by omega)]
theorem UJ (l:List Int) (n:Nat):kH l n n=nV l n:=by
 unfold kH nV
 apply List.map_congr_left
 intro k hk
 rw [if_pos (by omega)]
theorem OL (l:List Int) (n:Nat):(kH l n 0).map (Value.int .i64)=List.replicate n (.int .i64 0):=by
 unfold kH
 apply List.ext_getElem?
 intro i
 rw [List.getElem?_map,List.getElem?_map,List.getElem?_replicate]
 rcases Nat.lt_or_ge i n with hi | hi
 ·rw [List.getElem?_range hi,if_pos hi]
  simp only [Option.map_some]
  rw [if_neg (by omega)]
 ·rw [List.getElem?_eq_none (by simpa using hi),if_neg (by omega)]; rfl
theorem UK (l:List Int) {n m:Nat} (hm:m < n):(kH l n m)[n - 1 - m]? = some 0:=by
 unfold kH
 rw [aJ _ (by omega),if_neg (by omega)]
theorem oT (l:List Int) (n:Nat):(nV l n).length=n:=by simp [nV]
theorem MT (l:List Int) (A:Option Addr) (cap:Nat) (w:World) (hl:l.length<=1000000000) (hr:Row w w.heap.size A (l.map (.int .i64))) :
  Calls Tryz.prog 250 #[.slice A l.length cap] w (uH w (nV l l.length)):=by
 have Hr:=hid hr
 unfold uH
 rw [oT]
 obtain ⟨n,hn⟩:∃ n,l.length=n:=⟨_,rfl⟩
 rw [hn] at hl ⊢
 have Hn:=hid hn
 obtain ⟨i0,hi,hz0,hz1,hz2⟩:∃ i,Tryz.prog.info? 2=some i/\i.zero=some (.int .i64 0)/\i.size=1/\i.bytes=8:=by
  have:=W4
  cases h:Tryz.prog.info? 2 with
  | none=>rw [h] at this; cases this
  | some i=>rw [h] at this; simp at this; exact ⟨i,rfl,this.1,this.2.1,this.2.2⟩
 have Hms:=hid (show (madeCells #[Value.int .i64 0] n).toList=List.replicate n (.int .i64 0) from toList_madeCells_one _ _)
 obtain ⟨mc,hmc⟩:∃ mc,madeCells #[Value.int .i64 0] n=mc:=⟨_,rfl⟩
 rw [hmc] at Hms
 have hmc2:mc=((kH l n 0).map (Value.int .i64)).toArray:=by
  apply Array.toList_inj.1
  rw [Hms.out,OL]
 have HB0:=hid (show Blk (w.alloc (.cells mc 2)) w.heap.size 2 ((kH l n 0).map (.int .i64)) by rw [hmc2]; exact Blk.new w _ _)
 clear hr hn hmc2 Hms
 go_enter Tryz.func250,Tryz.ntmps250
 go_wp2_with (refine wpList_make_row w rfl (.tmp 7) (.tmp 7) 170 rfl 2 i0 (.int .i64 0) Tryz.underlying170 hi hz0 hz1 rfl .i64 .i64 n rfl rfl (by rw [hz2]; omega) (by omega) ?_; rw [hmc])
 go_loopw [11] (fun i wr=>∃ m:Nat,m<=n/\i=.int .i64 m/\Blk wr w.heap.size 2 ((kH l n m).map (.int .i64))/\Below w.heap.size w wr) (fun i _=>n - (intOf i).toNat)
 case atStart=>exact ⟨0,by omega,rfl,HB0.out,aL w _⟩
 case round =>
  obtain ⟨m,hm,rfl,hB,hbel⟩:=hrel
  have HB:=hid hB
  have Hbel:=hid hbel
  clear HB0
  by_cases hlk:m < n
  ·have t1:(m:Int) < (n:Int):=by omega
   obtain ⟨x,hx⟩:=aE (k:=m) Hn.out hlk
   obtain ⟨b,off,hA,hb,k0⟩:=Hr.out m (.int .i64 x) (by rw [List.getElem?_map,hx]; rfl)
   have k1:=(Hbel.out.cell (p:=⟨b,off+m,none⟩) hb).trans k0
   subst hA
   obtain ⟨r,hrr⟩:∃ r,n - 1 - m=r:=⟨_,rfl⟩
   have HS:=hid (show (kH l n m).set r x=kH l n (m+1) by rw [<-OK l hlk,aD hx,hrr])
   have ce:wr.cell? ⟨w.heap.size,r,none⟩=some (.int .i64 0):=by rw [hB.cell,List.getElem?_map,<-hrr,UK l hlk]; rfl
   have fz:=hB.frozen r
   have t2:(n:Int) - 1 - (m:Int)=(r:Int):=by omega
   have t3:(0:Int)<=(r:Int):=by omega
   have t4:(r:Int) < (n:Int):=by omega
   clear hx k0 hB hbel hrr
   go_wp2
   go_roundw
   case rel =>
    refine ⟨m+1,by omega,by go_num,?_,Hbel.out.setCell (by simp) _⟩
    rw [<-HS.out,List.map_set]
    exact HB.out.set_ r _
   case measure=>simp [intOf]; omega
  ·have hmn:m=n:=by omega
   have t1:¬ ((m:Int) < (n:Int)):=by omega
   have HE:=hid (show kH l n m=nV l n by rw [hmn]; exact UJ l n)
   go_wp2
   go_ret
   exact ⟨w.heap.size,rfl,Nat.le_refl _,by rw [<-HE.out]; exact HB.out,Hbel.out⟩
end
section
open Go.RowKit
end
section
open Go.RowKit
end
section
open Go.Lib (hid)
open Go.RowKit
theorem mH (z:Array Value) (v:Value) (hp:0 < z.size) (hz:∀ j,j < z.size->z[j]! = v) (n:Nat):(madeCells z n).toList=List.replicate n v:=by
 unfold madeCells
 rw [Array.toList_map,Array.toList_range]
 apply List.ext_getElem?
 intro j
 rw [List.getElem?_map,List.getElem?_replicate]
 rcases Nat.lt_or_ge j n with hj | hj
 ·rw [List.getElem?_range hj,if_pos hj]
  simp only [Option.map_some]
  rw [hz _ (Nat.mod_lt _ hp)]
 ·rw [List.getElem?_eq_none (by simpa using hj),if_neg (by omega)]; rfl
theorem fY {P:Program} (w:World) {ops:Array Oper} {rest:List Oper} {o:Oper} {a:Act} {Q:Exit->Act->World->Prop}
  (hg:o.guard=none) (l c:Operand) (t:TypeId) (hop:o.op=Op.makeSlice t l c)
  (e:TypeId) (i:TypeInfo) (z:Value) (size:Nat) (ht:P.underlying t=some (.slice e)) (hi:P.info? e=some i) (hz:i.zero=some z) (hsize:i.size=size)
  (kl kc:IntKind) (n:Nat) (hl:a.eval l=.int kl (n:Int)) (hc:a.eval c=.int kc (n:Int)) (hbytes:i.bytes*n<=281474976710656) (h63:n<=9223372036854775807)
  (hK:wpList P ops Q rest (a.put o.dst (.slice (some ⟨w.heap.size,0,none⟩) n n)) (w.alloc (.cells (madeCells z.cells (n*size)) e))) :
  wpList P ops Q (o :: rest) a w:=by
 refine wpList_plain hg fun K hK'=>?_
 have hb':(i.bytes:Int)*(n:Int)<=281474976710656:=by
  have h:((i.bytes*n:Nat):Int)<=281474976710656:=by omega
  rwa [Int.natCast_mul] at h
 have hrun:=run_make (P:=P) w t e i z ht hi hz kl kc n n (by omega) (Int.le_refl _) hb' (by omega)
 simp only [Int.toNat_natCast,hsize] at hrun
 unfold Oper.wp
 simp [execOp,hop,hl,hc,hrun,Result.andThen]
 exact hK' _ _ hK
theorem WZ:(Tryz.prog.info? 48).map (fun i=>(i.zero,i.size,i.bytes))=some (some (.agg (List.replicate 16 (Value.int .i64 0)).toArray),16,128):=by kernel_rfl
def pD (l:List Int) (c m:Nat):List Int:=(List.range (c*16)).map fun k=>if k < m then bgt l k else 0
def fE (l:List Int):List Int:=(List.range (aV l.length*16)).map (bgt l)
theorem VF (l:List Int) {c m:Nat} (hm:m < c*16):(pD l c m).set m (bgt l m)=pD l c (m+1):=by
 refine dE _ (fun k=>if k < m+1 then bgt l k else 0) hm ?_ (fun i hi=>?_)
 ·rw [if_pos (by omega)]
 ·by_cases h:i < m
  ·rw [if_pos h,if_pos (by omega)]
  ·rw [if_neg h,if_neg (by omega)]
theorem KK {l:List Int} {k:Nat} (h:l.length<=k):bgt l k=0:=by
 unfold bgt
 rw [List.getD_eq_getElem?_getD,List.getElem?_eq_none h]; rfl
theorem Z7 (l:List Int):pD l (aV l.length) l.length=fE l:=by
 unfold pD fE
 apply List.map_congr_left
 intro k _
 split
 ·rfl
 ·rw [KK (by omega)]
theorem Z8 (l:List Int) {c m:Nat} (hm:m < c*16):(pD l c m)[m]? = some 0:=by
 unfold pD
 rw [aJ _ hm,if_neg (by omega)]
theorem VG (l:List Int) (c:Nat):(pD l c 0).map (Value.int .i64)=List.replicate (c*16) (.int .i64 0):=by
 unfold pD
 apply List.ext_getElem?
 intro i
 rw [List.getElem?_map,List.getElem?_map,List.getElem?_replicate]
 rcases Nat.lt_or_ge i (c*16) with hi | hi
 ·rw [List.getElem?_range hi,if_pos hi]; simp
 ·rw [List.getElem?_eq_none (by simpa using hi),if_neg (by omega)]; rfl
def xJ (W:World) (c:Nat) (xs:List Int) (e:Ending) (w':World):Prop :=
 ∃ g,e=.returned (.slice (some ⟨g,0,none⟩) c c)/\W.heap.size<=g/\Blk w' g 48 (xs.map (.int .i64))/\Below W.heap.size W w'
theorem BW (l:List Int) (A:Option Addr) (cap:Nat) (w:World) (hl:l.length<=1000000000) (hr:Row w w.heap.size A (l.map (.int .i64))) :
  Calls Tryz.prog 232 #[.slice A l.length cap] w (xJ w (aV l.length) (fE l)):=by
 have Hr:=hid hr
 unfold xJ
 rw [<-Z7]
 have HCn:=hid (fun W=>xI l.length W hl)
 have hcb:l.length<=aV l.length*16:=by unfold aV; omega
 have hcc:aV l.length<=1000000000:=by unfold aV; omega
 obtain ⟨n,hn⟩:∃ n,l.length=n:=⟨_,rfl⟩
 rw [hn] at hl hcb hcc HCn ⊢
 generalize aV n=c at *
 have Hn:=hid hn
 obtain ⟨i0,hi,hz0,hz1,hz2⟩:∃ i,Tryz.prog.info? 48=some i/\i.zero=some (.agg (List.replicate 16 (Value.int .i64 0)).toArray)/\i.size=16/\i.bytes=128:=by
  have:=WZ
  cases h:Tryz.prog.info? 48 with
  | none=>rw [h] at this; cases this
  | some i =>
   rw [h] at this
   simp only [Option.map_some,Option.some.injEq,Prod.mk.injEq] at this
   exact ⟨i,rfl,this.1,this.2.1,this.2.2⟩
 have Hms:=hid (show (madeCells (Value.agg (List.replicate 16 (Value.int .i64 0)).toArray).cells (c*16)).toList=List.replicate (c*16) (.int .i64 0) from mH _ _ (by decide) (fun j hj=>by
  have hj16:j < 16:=hj
  have hk:j=0\/j=1\/j=2\/j=3\/j=4\/j=5\/j=6\/j=7\/j=8\/j=9\/j=10\/j=11\/j=12\/j=13\/j=14\/j=15:=by omega
  rcases hk with rfl | rfl | rfl | rfl | rfl | rfl | rfl | rfl | rfl | rfl | rfl | rfl | rfl | rfl | rfl | rfl <;> rfl) _)
 obtain ⟨mc,hmc⟩:∃ mc,madeCells (Value.agg (List.replicate 16 (Value.int .i64 0)).toArray).cells (c*16)=mc:=⟨_,rfl⟩
 rw [hmc] at Hms
 have hmc2:mc=((pD l c 0).map (Value.int .i64)).toArray:=by
  apply Array.toList_inj.1
  rw [Hms.out,VG]
 have HB0:=hid (show Blk (w.alloc (.cells mc 48)) w.heap.size 48 ((pD l c 0).map (.int .i64)) by rw [hmc2]; exact Blk.new w _ _)
 clear hr hn hmc2 Hms
 go_enter Tryz.func232,Tryz.ntmps232
 go_wp2_with (first | (go_at_call 90; refine (HCn.out _).mono ?_; rintro e w1 ⟨rfl,rfl⟩) | (refine fY w rfl (.tmp 8) (.tmp 8) 262 rfl 48 i0 (.agg (List.replicate 16 (Value.int .i64 0)).toArray) 16 Tryz.underlying262 hi hz0 hz1 .i64 .i64 c rfl rfl (by rw [hz2]; omega) (by omega) ?_; rw [hmc]))
 go_loopw [12] (fun i wr=>∃ m:Nat,m<=n/\i=.int .i64 m/\Blk wr w.heap.size 48 ((pD l c m).map (.int .i64))/\Below w.heap.size w wr) (fun i _=>n - (intOf i).toNat)
 case atStart=>exact ⟨0,by omega,rfl,HB0.out,aL w _⟩
 case round =>
  obtain ⟨m,hm,rfl,hB,hbel⟩:=hrel
  have HB:=hid hB
  have Hbel:=hid hbel
  clear HB0
  by_cases hlk:m < n
  ·have t1:(m:Int) < (n:Int):=by omega
   obtain ⟨x,hx⟩:=aE (k:=m) Hn.out hlk
   obtain ⟨b,off,hA,hb,k0⟩:=Hr.out m (.int .i64 x) (by rw [List.getElem?_map,hx]; rfl)
   have k1:=(Hbel.out.cell (p:=⟨b,off+m,none⟩) hb).trans k0
   subst hA
   obtain ⟨q,hq⟩:∃ q,m / 16=q:=⟨_,rfl⟩
   obtain ⟨r,hrr⟩:∃ r,m % 16=r:=⟨_,rfl⟩
   have hqr:q*16+r=m:=by omega
   have hmc16:m < c*16:=by omega
   have HS:=hid (show (pD l c m).set m x=pD l c (m+1) by rw [<-VF l hmc16,aD hx])
   have ce:wr.cell? ⟨w.heap.size,q*16+r,none⟩=some (.int .i64 0):=by rw [hqr,hB.cell,List.getElem?_map,Z8 l hmc16]; rfl
   have fz:=hB.frozen (q*16+r)
   have t2:(m:Int) / 16=(q:Int):=by omega
   have t3:(m:Int) % 16=(r:Int):=by omega
   have t4:(q:Int) < (c:Int):=by omega
   have t5:(r:Int) < 16:=by omega
   have t6:(0:Int)<=(q:Int):=by omega
   have t7:(0:Int)<=(r:Int):=by omega
   have Hqr:=hid hqr
   clear hx k0 hB hbel hq hrr hqr
   go_wp2
   go_roundw
   case rel =>
    refine ⟨m+1,by omega,by go_num,?_,Hbel.out.setCell (by simp) _⟩
    rw [<-HS.out,List.map_set,Hqr.out]
    exact HB.out.set_ m _
   case measure=>simp [intOf]; omega
  ·have hmn:m=n:=by omega
   have t1:¬ ((m:Int) < (n:Int)):=by omega
   subst hmn
   go_wp2
   go_ret
   exact ⟨w.heap.size,rfl,Nat.le_refl _,HB.out,Hbel.out⟩
end
section
open Go.RowKit
def K8 (l:List Int) (n:Int):List Int:=l.take (max (min n (l.length:Int)) 0).toNat
end
section
open Go.Lib (hid)
open Go.RowKit
theorem WE {k:Nat} (hk:k < 8):bI[k*2]? = some (.int .i64 (bE k).p)/\bI[k*2+1]? = some (.int .i64 (bE k).u):=by
 have hk8:k=0\/k=1\/k=2\/k=3\/k=4\/k=5\/k=6\/k=7:=by omega
 rcases hk8 with rfl | rfl | rfl | rfl | rfl | rfl | rfl | rfl <;> exact ⟨rfl,rfl⟩
def nM (xs zs:List Int) (o k:Nat):List Int:=(List.range 8).map fun j=>if j < k then dG (bgt xs j) (bgt zs (o+j)) (bE j) else bgt xs j
def nN (xs zs:List Int) (o k:Nat):List Int:=(List.range zs.length).map fun j=>if o<=j/\j < o+k then dU (bgt xs (j - o)) (bgt zs j) (bE (j - o)) else bgt zs j
theorem RL {xs:List Int} (zs:List Int) (o:Nat) (h:xs.length=8):nM xs zs o 0=xs:=by
 refine Eq.trans ?_ (eN h).symm
 unfold nM
 apply List.map_congr_left
 intro j _
 rw [if_neg (by omega)]
theorem RN (xs zs:List Int) (o:Nat):nN xs zs o 0=zs:=by
 refine Eq.trans ?_ (eN (n:=zs.length) rfl).symm
 unfold nN
 apply List.map_congr_left
 intro j _
 rw [if_neg (by omega)]
theorem RK (xs zs:List Int) (o:Nat) {k:Nat} (hk:k < 8):(nM xs zs o k).set k (dG (bgt xs k) (bgt zs (o+k)) (bE k))=nM xs zs o (k+1):=by
 refine dE _ (fun j=>if j < k+1 then dG (bgt xs j) (bgt zs (o+j)) (bE j) else bgt xs j) hk ?_ (fun i hi=>?_)
 ·rw [if_pos (by omega)]
 ·by_cases h:i < k
  ·rw [if_pos h,if_pos (by omega)]
  ·rw [if_neg h,if_neg (by omega)]
theorem RM (xs zs:List Int) (o:Nat) {k:Nat} (hk:o+k < zs.length):(nN xs zs o k).set (o+k) (dU (bgt xs k) (bgt zs (o+k)) (bE k))=nN xs zs o (k+1):=by
 refine dE _ (fun j=>if o<=j/\j < o+(k+1) then dU (bgt xs (j - o)) (bgt zs j) (bE (j - o)) else bgt zs j) hk ?_ (fun i hi=>?_)
 ·rw [if_pos (by omega),show o+k - o=k by omega]
 ·by_cases h:o<=i/\i < o+k
  ·rw [if_pos h,if_pos (by omega)]
  ·rw [if_neg h,if_neg (by omega)]
theorem WC {xs:List Int} (zs:List Int) (o:Nat) {k:Nat} {x:Int} (hk:k < 8) (hx:xs[k]? = some x):(nM xs zs o k)[k]? = some x:=by
 unfold nM
 rw [aJ _ hk,if_neg (by omega),aD hx]
theorem WD (xs:List Int) {zs:List Int} {o k:Nat} {x:Int} (hx:zs[o+k]? = some x):(nN xs zs o k)[o+k]? = some x:=by
 have hk:=(List.getElem?_eq_some_iff.1 hx).1
 unfold nN
 rw [aJ _ hk,if_neg (by omega),aD hx]
def SJ (W:World) (ga gb:Nat) (ta tb:TypeId) (xs zs:List Int) (o:Nat) (e:Ending) (w':World):Prop :=
 e=.returned (.tuple #[])/\Blk w' ga ta ((nM xs zs o 8).map (.int .i64))/\Blk w' gb tb ((nN xs zs o 8).map (.int .i64))/\∀ B,B<=ga->B<=gb->B<=W.heap.size->Below B W w'
theorem F7 (xs zs:List Int) (ga gb o ca cb:Nat) (ta tb:TypeId) (w:World) (hx:xs.length=8) (hz:o+8<=zs.length) (hne:ga ≠ gb) (ha:Blk w ga ta (xs.map (.int .i64))) (hb:Blk w gb tb (zs.map (.int .i64)))
  (hxb:∀ k,k < 8->cJ (bgt xs k)) (hzb:∀ k,k < 8->cJ (bgt zs (o+k))) :
  Calls Tryz.prog 258 #[.agg bI,.slice (some ⟨ga,0,none⟩) 8 ca,.slice (some ⟨gb,o,none⟩) 8 cb] w (SJ w ga gb ta tb xs zs o):=by
 unfold SJ
 have Hx:=hid hx
 have Hz:=hid hz
 have Hxb:=hid hxb
 have Hzb:=hid hzb
 have HTg:=hid (fun k (hk:k < 8)=>WE hk)
 have hma:=ha.lt
 have hmb:=hb.lt
 have HA0:=hid (ha.alloc (.cells bI 100))
 have HB0:=hid (hb.alloc (.cells bI 100))
 generalize bI=tv at *
 have HM:=hid (heap_alloc_new w (.cells tv 100))
 have hmin:∀ W,(Builtin.min_ #[3,3,3] 3 #[.int .i64 8,.int .i64 8,.int .i64 8]).run Tryz.prog W=.ok (.int .i64 8) W:=fun W=>by simp [Builtin.min_,Builtin.min2]
 clear hx hz hxb hzb ha hb
 go_enter Tryz.func258,Tryz.ntmps258
 go_wp2
 go_loopw [12] (fun i wr=>∃ m:Nat,m<=8/\i=.int .i64 m/\Blk wr ga ta ((nM xs zs o m).map (.int .i64))/\Blk wr gb tb ((nN xs zs o m).map (.int .i64))/\wr.heap[w.heap.size]? = some (.cells tv 100 (0,0))/\∀ B,B<=ga->B<=gb->B<=w.heap.size->Below B w wr) (fun i _=>8 - (intOf i).toNat)
 case atStart=>exact ⟨0,by omega,rfl,by rw [RL zs o Hx.out]; exact HA0.out,by rw [RN]; exact HB0.out,HM.out,fun B _ _ h3=>(aL w _).mono h3⟩
 case round =>
  obtain ⟨m,hm,rfl,hA,hB,hM,hbel⟩:=hrel
  have HA:=hid hA
  have HB:=hid hB
  have HMr:=hid hM
  have Hbel:=hid hbel
  clear HA0 HB0 HM hbel
  by_cases hlk:m < 8
  ·have t1:(m:Int) < 8:=by omega
   obtain ⟨x,hxx⟩:=aE (k:=m) Hx.out hlk
   obtain ⟨z,hzz⟩:=aE (k:=o+m) (b:=zs) rfl (by have:=Hz.out; omega)
   have tx:=Hxb.out m hlk
   have tz:=Hzb.out m hlk
   rw [aD hxx] at tx
   rw [aD hzz] at tz
   have HSa:=hid (show (nM xs zs o m).set m (dG x z (bE m))=nM xs zs o (m+1) by rw [<-RK xs zs o hlk,aD hxx,aD hzz])
   have HSb:=hid (show (nN xs zs o m).set (o+m) (dU x z (bE m))=nN xs zs o (m+1) by rw [<-RM xs zs o (by have:=Hz.out; omega),aD hxx,aD hzz])
   have hca:((nM xs zs o m).map (Value.int .i64))[m]? = some (.int .i64 x):=by rw [List.getElem?_map,WC zs o hlk hxx]; rfl
   have hcb:((nN xs zs o m).map (Value.int .i64))[o+m]? = some (.int .i64 z):=by rw [List.getElem?_map,WD xs hzz]; rfl
   obtain ⟨hp,hu⟩:=HTg.out m hlk
   have HT:=hid (fun W=>kL x z (bE m) W (iQ hlk) tx tz)
   generalize bE m=tk at *
   obtain ⟨p,u⟩:=tk
   simp only at hp hu HT
   obtain ⟨X,hX⟩:∃ X,dG x z ⟨p,u⟩=X:=⟨_,rfl⟩
   obtain ⟨Z,hZ⟩:∃ Z,dU x z ⟨p,u⟩=Z:=⟨_,rfl⟩
   rw [hX,hZ] at HT
   rw [hX] at HSa
   rw [hZ] at HSb
   have x6:=(hA.cell m).trans hca
   have z6:=(hB.cell (o+m)).trans hcb
   have p6:=(cell_of_row wr w.heap.size (m*2) _ _ _ hM).trans hp
   have u6:=(cell_of_row wr w.heap.size (m*2+1) _ _ _ hM).trans hu
   have x5:=fun (v:GW wr)=>(jY hA v m).trans hca
   have z5:=fun (v:GW wr)=>(jY hB v (o+m)).trans hcb
   have p5:=fun (v:GW wr)=>(dW hM v (m*2)).trans hp
   have u5:=fun (v:GW wr)=>(dW hM v (m*2+1)).trans hu
   clear hxx hzz tx tz hp hu hX hZ hA hB hM
   go_wp2_with fail
   go_region_with ((go_at_call 259; refine (HT.out _).mono ?_; rintro e w5 ⟨rfl,hb5⟩; have hA5:=HA.out.drew.below hb5 HA.out.lt; have hB5:=HB.out.drew.below hb5 HB.out.lt; have HA5:=hid hA5; have HB5:=hid hB5; have ce:w5.cell? ⟨ga,m,none⟩=some (.int .i64 x):=(by rw [hA5.cell]; exact hca); have fz:=hA5.frozen m; have S1:=hid (hB5.far (p:=⟨ga,m,none⟩) (Ne.symm hne) (.int .i64 X)); have ce2:(w5.setCell ⟨ga,m,none⟩ (.int .i64 X)).cell? ⟨gb,o+m,none⟩=some (.int .i64 z):=(by rw [S1.out.cell]; exact hcb); have fz2:=S1.out.frozen (o+m); have HM5:=hid (aF (w:=wr.drew) (show wr.drew.heap[w.heap.size]? = _ from HMr.out) hb5); have Hb5:=hid (fun B h1 h2 h3=>(Hbel.out B h1 h2 h3).trans ((show Below B wr wr.drew from below_drewN (Below.refl _ _) 1).trans (hb5.mono (Nat.le_trans h3 ((Hbel.out B h1 h2 h3).size))))); clear hA5 hB5 hb5))
   all_goals
    clear x5 z5 p5 u5 x6 z6 p6 u6
    go_wp2
    go_roundw
    case rel =>
     refine ⟨m+1,by omega,by go_num,?_,?_,(Below.heap_setCell _ _ _ _ (by simp; omega)).trans ((Below.heap_setCell _ _ _ _ (by simp; omega)).trans HM5.out),fun B h1 h2 h3=>((Hb5.out B h1 h2 h3).setCell (by simpa using h1) _).setCell (by simpa using h2) _⟩
     ·rw [<-HSa.out,List.map_set]
      exact (HA5.out.set_ m _).far (by simpa using hne) _
     ·rw [<-HSb.out,List.map_set]
      exact S1.out.set_ (o+m) _
    case measure=>simp [intOf]; omega
  ·have hm8:m=8:=by omega
   subst hm8
   have t1:¬ (((8:Nat):Int) < 8):=by omega
   go_wp2
   refine bodyPost_end (v:=.tuple #[]) (results_none Tryz.results258 _ _ _) rfl ?_
   exact ⟨rfl,HA.out,HB.out,Hbel.out⟩
end
end Go.Proofs.YtnbbfblaipjcmaaGreatDoor
