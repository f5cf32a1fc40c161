/- BankC, BankD. Conditions: as each theorem states. -/
import Derived.Lib.BufferWrite
import Derived.Lib.SlBuf
import Derived.Test.YtnbbfblaipjcmaaGreatDoorPv31
import Derived.Test.YtnbbfblaipjcmaaGreatDoorPv09
set_option maxRecDepth 100000
namespace Go.Proofs.YtnbbfblaipjcmaaGreatDoor
section
open Go.RowKit Go.Lib
def lays (bs:List Nat):List (Nat × List Nat)->List Nat
 | []=>bs
 | p :: r=>lays (aS bs p.1 p.2) r
theorem ED (bs:List Nat) (a b:List (Nat × List Nat)):lays bs (a ++ b)=lays (lays bs a) b:=by
 induction a generalizing bs with
 | nil=>rfl
 | cons p r ih=>exact ih _
def nP (n:Nat) (l:List (Nat × List Nat)):Prop:=∀ p ∈ l,p.1+p.2.length<=n
theorem nA {n:Nat}:∀ {l:List (Nat × List Nat)} {bs:List Nat},bs.length=n->nP n l->(lays bs l).length=n
 | [],bs,h,_=>h
 | p :: r,bs,h,hf=>nA (l:=r) (by rw [cT (by rw [h]; exact hf p (by simp))]; exact h) (fun q hq=>hf q (by simp [hq]))
theorem EN (bs:List Nat) (g off n cap at_ size:Nat) (v:Int) (w:World) (hv:0<=v) (hb:BytesAt w g bs) (hn:off+n<=bs.length) (ha:at_+size<=n) (hl:n<=1000000000) (hs:size<=4) :
  Calls Tryz.prog 177 #[.slice (some ⟨g,off,none⟩) n cap,.int .i64 at_,.int .i64 size,.int .i64 v] w (gN w g (aS bs (off+at_) (cP size v.toNat))):=by
 have:=uY bs g off n cap at_ size v.toNat w hb hn ha hl hs
 rwa [Int.toNat_of_nonneg hv] at this
def jD (s:ByteArray):List Nat:=s.data.toList.map (·.toNat)
theorem eG (s:ByteArray):(jD s).length=s.size:=by
 unfold jD
 rw [List.length_map,<-Lib.size_eq]
theorem PY (s:ByteArray):u8s (jD s)=byteCells s.data.toList:=by
 unfold u8s jD byteCells
 rw [List.map_map]
 rfl
def dM (off:Nat) (m:MetaV):List (Nat × List Nat) :=
 [(off,jD m.name),(off+32,cP 4 m.length.toNat),(off+36,cP 4 m.rate.toNat),(off+40,cP 4 m.from_.toNat),(off+44,cP 4 m.to_.toNat),(off+48,cP 4 m.sums.toNat),(off+52,cP 4 m.first.toNat),(off+56,[m.channels.toNat])] ++ if m.loop=true then [(off+57,[1])] else []
theorem LG:(Tryz.prog.info? 5).map (·.size)=some 1:=by kernel_rfl
theorem AG (bs xs:List Nat) (o:Nat):(u8s (aS bs o xs))=(u8s bs).take o ++ u8s xs ++ (u8s bs).drop (o+xs.length):=by
 unfold u8s aS
 simp [List.map_take,List.map_drop]
theorem IZ (w:World) (g o n cap:Nat) (s:ByteArray) (bs:List Nat) (hb:BytesAt w g bs) (hle:s.size<=n) (hfit:o+s.size<=bs.length) (ty:TypeId) :
  (Builtin.copy_ #[30,9] ty #[.slice (some ⟨g,o,none⟩) n cap,.string s]).run Tryz.prog w=.ok (goInt s.size) (w.setRow g (u8s (aS bs o (jD s))).toArray):=by
 rw [run_copy_row_string w 30 9 ty 5 g o n cap s (u8s bs).toArray 5 Tryz.underlying30 LG hb hle (by simpa [jA] using hfit),AG,PY,eG]
theorem xP {w:World} {g:Nat} {bs xs:List Nat} (h:BytesAt w g bs):BytesAt (w.setRow g (u8s xs).toArray) g xs:=bB w g 5 (u8s bs).toArray (u8s xs).toArray h
theorem cZ {a w:World} {g:Nat} (h:a.grownBy w (some g)) (cs:Array Value):a.grownBy (w.setRow g cs) (some g) :=
 grownBy_trans h ⟨rfl,rfl,rfl,by simp [World.setRow],fun k _ hk=>setRow_other w g k cs (fun e=>hk (by rw [e]))⟩
end
section
open Go.RowKit Go.Lib
theorem BytesAt.alloc {w:World} {g:Nat} {bs:List Nat} (h:BytesAt w g bs) (o:Obj):BytesAt (w.alloc o) g bs:=Blk.alloc h o
theorem BytesAt.lt {w:World} {g:Nat} {bs:List Nat} (h:BytesAt w g bs):g < w.heap.size:=Blk.lt h
theorem BytesAt.below {w w':World} {B g:Nat} {bs:List Nat} (h:BytesAt w g bs) (hb:Below B w w') (hg:g < B):BytesAt w' g bs:=Blk.below h hb hg
theorem tC (bs:List Nat) {i x:Nat} (h:i < bs.length):bs.set i x=aS bs i [x]:=by
 refine List.ext_getElem? fun j=>?_
 rw [List.getElem?_set,lN (by simp; omega)]
 by_cases hij:i=j
 ·subst hij
  rw [if_pos rfl,if_pos h,if_pos (by simp)]
  simp
 ·rw [if_neg hij,if_neg (by simp; omega)]
set_option maxHeartbeats 16000000 in
theorem YX (bs:List Nat) (g off n cap:Nat) (nm:ByteArray) (len rate ch:Nat) (lp:Bool) (f t sums first:Nat) (w:World) (hb:BytesAt w g bs) (hn:off+n<=bs.length) (h58:58<=n) (hl:n<=1000000000) (hnm:nm.size<=32) (hch:ch<=255) :
  Calls Tryz.prog 178 #[.slice (some ⟨g,off,none⟩) n cap,.agg #[.string nm,.int .i64 len,.int .i64 rate,.int .i64 ch,.bool lp,.int .i64 f,.int .i64 t,.int .i64 sums,.int .i64 first]] w
   (gN w g (lays bs (dM off ⟨nm,len,rate,ch,lp,f,t,sums,first⟩))):=by
 have Hb:=hid hb
 have Hgl:=hid hb.lt
 have HCp:=hid (fun W ty (h:BytesAt W g bs)=>IZ W g off n cap nm bs h (by omega) (by omega) ty)
 have HNum:=hid (fun (bs':List Nat) (k v:Nat) (W:World) (h:BytesAt W g bs') (hlen:bs'.length=bs.length) (hk:k+4<=n)=>(show Calls Tryz.prog 177 #[.slice (some ⟨g,off,none⟩) n cap,.int .i64 k,.int .i64 (4:Nat),.int .i64 v] W (gN W g (aS bs' (off+k) (cP 4 v)))/\(aS bs' (off+k) (cP 4 v)).length=bs.length from
  ⟨uY bs' g off n cap k 4 v W h (by omega) hk hl (by omega),by rw [cT (by rw [bF]; omega),hlen]⟩))
 have HW:=hid (show dM off ⟨nm,len,rate,ch,lp,f,t,sums,first⟩=[(off,jD nm),(off+32,cP 4 len),(off+36,cP 4 rate),(off+40,cP 4 f),(off+44,cP 4 t),(off+48,cP 4 sums),(off+52,cP 4 first),(off+56,[ch])] ++ if lp=true then [(off+57,[1])] else [] from rfl)
 have HL0:=hid (show (aS bs off (jD nm)).length=bs.length from cT (by rw [eG]; omega))
 clear hb
 have hcp:(Builtin.copy_ #[30,9] 3 #[.slice (some ⟨g,off,none⟩) n cap,.string nm]).run Tryz.prog (w.alloc (.cells #[.string nm,.int .i64 len,.int .i64 rate,.int .i64 ch,.bool lp,.int .i64 f,.int .i64 t,.int .i64 sums,.int .i64 first] 37))=_:=HCp.out _ _ (Hb.out.alloc _)
 obtain ⟨w2,hw2⟩:∃ w2,(w.alloc (.cells #[.string nm,.int .i64 len,.int .i64 rate,.int .i64 ch,.bool lp,.int .i64 f,.int .i64 t,.int .i64 sums,.int .i64 first] 37)).setRow g (u8s (aS bs off (jD nm))).toArray=w2:=⟨_,rfl⟩
 rw [hw2] at hcp
 have Hbox:=hid (show Blk w2 w.heap.size 37 [.string nm,.int .i64 len,.int .i64 rate,.int .i64 ch,.bool lp,.int .i64 f,.int .i64 t,.int .i64 sums,.int .i64 first] by
  rw [<-hw2]
  exact (setRow_other _ g _ _ (by have:=Hgl.out; omega)).trans (Blk.new w 37 [.string nm,.int .i64 len,.int .i64 rate,.int .i64 ch,.bool lp,.int .i64 f,.int .i64 t,.int .i64 sums,.int .i64 first]))
 have x1:=aG Hbox.out
 have Hg2:=hid (show w.grownBy w2 (some g) by rw [<-hw2]; exact cZ (World.grownBy_alloc w _ _) _)
 have Hby:=hid (show BytesAt w2 g (aS bs off (jD nm)) by rw [<-hw2]; exact xP (Hb.out.alloc _))
 clear hw2 HCp Hb
 have ix0:∀ W,(Instr.index 282 (.agg #[.int .i64 (len:Int),.int .i64 (rate:Int),.int .i64 (f:Int),.int .i64 (t:Int),.int .i64 (sums:Int),.int .i64 (first:Int)]) (.int .i64 0)).run Tryz.prog W=.ok (.int .i64 (len:Int)) W:=fun W=>bR (P:=Tryz.prog) (k:=0) Tryz.underlying282 (by decide) (fun W=>by kernel_rfl) (fun W=>by kernel_rfl) rfl W
 have ix1:∀ W,(Instr.index 282 (.agg #[.int .i64 (len:Int),.int .i64 (rate:Int),.int .i64 (f:Int),.int .i64 (t:Int),.int .i64 (sums:Int),.int .i64 (first:Int)]) (.int .i64 1)).run Tryz.prog W=.ok (.int .i64 (rate:Int)) W:=fun W=>bR (P:=Tryz.prog) (k:=1) Tryz.underlying282 (by decide) (fun W=>by kernel_rfl) (fun W=>by kernel_rfl) rfl W
 have ix2:∀ W,(Instr.index 282 (.agg #[.int .i64 (len:Int),.int .i64 (rate:Int),.int .i64 (f:Int),.int .i64 (t:Int),.int .i64 (sums:Int),.int .i64 (first:Int)]) (.int .i64 2)).run Tryz.prog W=.ok (.int .i64 (f:Int)) W:=fun W=>bR (P:=Tryz.prog) (k:=2) Tryz.underlying282 (by decide) (fun W=>by kernel_rfl) (fun W=>by kernel_rfl) rfl W
 have ix3:∀ W,(Instr.index 282 (.agg #[.int .i64 (len:Int),.int .i64 (rate:Int),.int .i64 (f:Int),.int .i64 (t:Int),.int .i64 (sums:Int),.int .i64 (first:Int)]) (.int .i64 3)).run Tryz.prog W=.ok (.int .i64 (t:Int)) W:=fun W=>bR (P:=Tryz.prog) (k:=3) Tryz.underlying282 (by decide) (fun W=>by kernel_rfl) (fun W=>by kernel_rfl) rfl W
 have ix4:∀ W,(Instr.index 282 (.agg #[.int .i64 (len:Int),.int .i64 (rate:Int),.int .i64 (f:Int),.int .i64 (t:Int),.int .i64 (sums:Int),.int .i64 (first:Int)]) (.int .i64 4)).run Tryz.prog W=.ok (.int .i64 (sums:Int)) W:=fun W=>bR (P:=Tryz.prog) (k:=4) Tryz.underlying282 (by decide) (fun W=>by kernel_rfl) (fun W=>by kernel_rfl) rfl W
 have ix5:∀ W,(Instr.index 282 (.agg #[.int .i64 (len:Int),.int .i64 (rate:Int),.int .i64 (f:Int),.int .i64 (t:Int),.int .i64 (sums:Int),.int .i64 (first:Int)]) (.int .i64 5)).run Tryz.prog W=.ok (.int .i64 (first:Int)) W:=fun W=>bR (P:=Tryz.prog) (k:=5) Tryz.underlying282 (by decide) (fun W=>by kernel_rfl) (fun W=>by kernel_rfl) rfl W
 go_enter Tryz.func178,Tryz.ntmps178
 go_wp2
 clear x1 hcp
 refine wp_loop_rounds 7 ?_
 rw [rounds_succ]
 go_wp2_with (go_at_call 177; fail)
 obtain ⟨q0,p0⟩:=HNum.out _ 32 len w2 Hby.out HL0.out (by omega)
 refine q0.mono ?_
 rintro e y0 ⟨rfl,hy0,hg0⟩
 have Y0:=hid hy0
 have P0:=hid p0
 have G0:=hid (grownBy_trans Hg2.out hg0)
 have X0:=hid (Blk.grown Hbox.out hg0 (fun e=>by injection e with e; have:=Hgl.out; omega))
 clear q0 p0 hy0 hg0
 go_wp2
 rw [rounds_succ]
 go_wp2_with (go_at_call 177; fail)
 obtain ⟨q1,p1⟩:=HNum.out _ 36 rate y0 Y0.out P0.out (by omega)
 refine q1.mono ?_
 rintro e y1 ⟨rfl,hy1,hg1⟩
 have Y1:=hid hy1
 have P1:=hid p1
 have G1:=hid (grownBy_trans G0.out hg1)
 have X1:=hid (Blk.grown X0.out hg1 (fun e=>by injection e with e; have:=Hgl.out; omega))
 clear q1 p1 hy1 hg1
 go_wp2
 rw [rounds_succ]
 go_wp2_with (go_at_call 177; fail)
 obtain ⟨q2,p2⟩:=HNum.out _ 40 f y1 Y1.out P1.out (by omega)
 refine q2.mono ?_
 rintro e y2 ⟨rfl,hy2,hg2⟩
 have Y2:=hid hy2
 have P2:=hid p2
 have G2:=hid (grownBy_trans G1.out hg2)
 have X2:=hid (Blk.grown X1.out hg2 (fun e=>by injection e with e; have:=Hgl.out; omega))
 clear q2 p2 hy2 hg2
 go_wp2
 rw [rounds_succ]
 go_wp2_with (go_at_call 177; fail)
 obtain ⟨q3,p3⟩:=HNum.out _ 44 t y2 Y2.out P2.out (by omega)
 refine q3.mono ?_
 rintro e y3 ⟨rfl,hy3,hg3⟩
 have Y3:=hid hy3
 have P3:=hid p3
 have G3:=hid (grownBy_trans G2.out hg3)
 have X3:=hid (Blk.grown X2.out hg3 (fun e=>by injection e with e; have:=Hgl.out; omega))
 clear q3 p3 hy3 hg3
 go_wp2
 rw [rounds_succ]
 go_wp2_with (go_at_call 177; fail)
 obtain ⟨q4,p4⟩:=HNum.out _ 48 sums y3 Y3.out P3.out (by omega)
 refine q4.mono ?_
 rintro e y4 ⟨rfl,hy4,hg4⟩
 have Y4:=hid hy4
 have P4:=hid p4
 have G4:=hid (grownBy_trans G3.out hg4)
 have X4:=hid (Blk.grown X3.out hg4 (fun e=>by injection e with e; have:=Hgl.out; omega))
 clear q4 p4 hy4 hg4
 go_wp2
 rw [rounds_succ]
 go_wp2_with (go_at_call 177; fail)
 obtain ⟨q5,p5⟩:=HNum.out _ 52 first y4 Y4.out P4.out (by omega)
 refine q5.mono ?_
 rintro e y5 ⟨rfl,hy5,hg5⟩
 have Y5:=hid hy5
 have P5:=hid p5
 have G5:=hid (grownBy_trans G4.out hg5)
 have X5:=hid (Blk.grown X4.out hg5 (fun e=>by injection e with e; have:=Hgl.out; omega))
 clear q5 p5 hy5 hg5
 go_wp2
 obtain ⟨v6,hv6⟩:=aE (k:=off+56) P5.out (by omega)
 obtain ⟨v7,hv7⟩:=aE (k:=off+57) P5.out (by omega)
 have c6:=Y5.out.cell hv6
 have c7:=Y5.out.cell hv7
 have f5:=lW Y5.out
 have x5:=aG X5.out
 have hwc:(ch:Int) % 256=(ch:Int):=by omega
 have HB6:=hid (Y5.out.put (off+56) ch)
 have Hl6:=hid (show off+56 < (aS (aS (aS (aS (aS (aS (aS bs off (jD nm)) (off+32) (cP 4 len)) (off+36) (cP 4 rate)) (off+40) (cP 4 f)) (off+44) (cP 4 t)) (off+48) (cP 4 sums)) (off+52) (cP 4 first)).length by rw [P5.out]; omega)
 have Hl7:=hid (show off+57 < bs.length by omega)
 rw [rounds_succ]
 cases lp
 ·go_wp2
  refine bodyPost_end (v:=.tuple #[]) (results_none Tryz.results178 _ _ _) rfl ?_
  refine ⟨rfl,?_,grownBy_setB G5.out _ _⟩
  have h6:=HB6.out
  rw [tC _ Hl6.out] at h6
  rw [HW.out]
  exact h6
 ·have HB7:=hid (HB6.out.put (off+57) 1)
  go_wp2
  refine bodyPost_end (v:=.tuple #[]) (results_none Tryz.results178 _ _ _) rfl ?_
  refine ⟨rfl,?_,grownBy_setB (grownBy_setB G5.out _ _) _ _⟩
  have h7:=HB7.out
  rw [tC _ Hl6.out,tC _ (by rw [cT (by simp only [List.length_cons,List.length_nil]; exact Hl6.out),P5.out]; exact Hl7.out)] at h7
  rw [HW.out]
  exact h7
end
end Go.Proofs.YtnbbfblaipjcmaaGreatDoor
