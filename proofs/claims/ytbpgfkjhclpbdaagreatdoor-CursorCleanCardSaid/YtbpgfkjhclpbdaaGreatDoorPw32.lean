/- BankC, BankD. Conditions: as each theorem states. -/
import Derived.Lib.BufferWrite
import Derived.Lib.SlBuf
import Derived.Test.YtbpgfkjhclpbdaaGreatDoorPw31
set_option maxRecDepth 100000
namespace Go.Proofs.YtbpgfkjhclpbdaaGreatDoor
open Tryz
open Go.RowKit Go.Lib
def lays(bs:List Nat):List (Nat × List Nat)->List Nat
 | []=>bs
 | p::r=>lays (aW bs p.1 p.2) r
theorem GR(bs:List Nat)(a b:List (Nat × List Nat)):lays bs (a++b)=lays (lays bs a) b:=by
 induction a generalizing bs with
 | nil=>rfl
 | cons p r d=>exact d _
def oQ(n:Nat)(l:List (Nat × List Nat)):Prop:=∀ p∈l,p.1+p.2.length<=n
theorem n7{n:Nat}:∀ {l:List (Nat × List Nat)} {bs:List Nat},bs.length=n->oQ n l->(lays bs l).length=n
 | [],bs,h,_=>h
 | p::r,bs,h,hf=>n7 (l:=r) (by rw[dG (by rw[h];exact hf p (by simp))];exact h) (fun q d=>hf q (by simp[d]))
theorem IC(bs:List Nat)(g off n cap at_ size:Nat)(v:Int)(w:World)(z:0<=v)(hb:BytesAt w g bs)(h:off+n<=bs.length)(ha:at_+size<=n)(d:n<=1000000000)(t:size<=4):
  Calls prog 148 #[.slice (some ⟨g,off,none⟩) n cap,.int .i64 at_,.int .i64 size,.int .i64 v] w (iJ w g (aW bs (off+at_) (cY size v.toNat))):=by
 have:=wR bs g off n cap at_ size v.toNat w hb h ha d t
 rwa [aHT z]at this
def j1(s:ByteArray):List Nat:=s.data.toList.map (·.toNat)
theorem eY(s:ByteArray):(j1 s).length=s.size:=by
 unfold j1;rw[aF7,<-Lib.size_eq]
theorem TO(s:ByteArray):u8s (j1 s)=byteCells s.data.toList:=by
 unfold u8s j1 byteCells;rw[aHj]
 rfl
def d9(off:Nat)(m:aFK):List (Nat × List Nat) :=
 [(off,j1 m.name),(off+32,cY 4 m.length.toNat),(off+36,cY 4 m.rate.toNat),(off+40,cY 4 m.from_.toNat),(off+44,cY 4 m.to_.toNat),(off+48,cY 4 m.sums.toNat),(off+52,cY 4 m.first.toNat),(off+56,[m.channels.toNat])]++if m.loop=true then [(off+57,[1])] else []
theorem OG:(prog.info? 5).map (·.size)=some 1:=by kernel_rfl
theorem CU(bs xs:List Nat)(o:Nat):(u8s (aW bs o xs))=(u8s bs).take o++u8s xs++(u8s bs).drop (o+xs.length):=by
 unfold u8s aW;simp[List.map_take,List.map_drop]
theorem KS(w:World)(g o n cap:Nat)(s:ByteArray)(bs:List Nat)(hb:BytesAt w g bs)(h:s.size<=n)(d:o+s.size<=bs.length)(ty:TypeId):
  (Builtin.copy_ #[32,9] ty #[.slice (some ⟨g,o,none⟩) n cap,.string s]).run prog w=.ok (goInt s.size) (w.setRow g (u8s (aW bs o (j1 s))).toArray):=by
 rw[run_copy_row_string w 32 9 ty 5 g o n cap s (u8s bs).toArray 5 underlying32 OG hb h (by simpa[jW] using d),CU,TO,eY]
theorem zU{w:World}{g:Nat}{bs xs:List Nat}(h:BytesAt w g bs):BytesAt (w.setRow g (u8s xs).toArray) g xs:=bA w g 5 (u8s bs).toArray (u8s xs).toArray h
theorem eC{a w:World}{g:Nat}(h:a.grownBy w (some g))(d:Array Value):a.grownBy (w.setRow g d) (some g) :=
 aHi h ⟨rfl,rfl,rfl,by simp[World.setRow],fun k _ hk=>aHy w g k d (fun e=>hk (by rw[e]))⟩
theorem BytesAt.alloc{w:World}{g:Nat}{bs:List Nat}(h:BytesAt w g bs)(o:Obj):BytesAt (w.alloc o) g bs:=Blk.alloc h o
theorem BytesAt.lt{w:World}{g:Nat}{bs:List Nat}(h:BytesAt w g bs):g<w.heap.size:=Blk.lt h
theorem BytesAt.below{w w':World}{B g:Nat}{bs:List Nat}(h:BytesAt w g bs)(hb:Below B w w')(d:g<B):BytesAt w' g bs:=Blk.below h hb d
theorem uR(bs:List Nat){i x:Nat}(h:i<bs.length):bs.set i x=aW bs i [x]:=by
 refine aGL fun j=>?_
 rw[aHu,mF (by simp;omega)]
 by_cases d:i=j
 ·subst d;rw[FN rfl,FN h,FN (by simp)];simp
 ·rw[sL d,sL (by simp;omega)]
set_option maxHeartbeats 16000000 in
theorem aBc(bs:List Nat)(g off n cap:Nat)(nm:ByteArray)(len rate ch:Nat)(lp:Bool)(f t sums first:Nat)(w:World)(hb:BytesAt w g bs)(hn:off+n<=bs.length)(cB:58<=n)(hl:n<=1000000000)(cE:nm.size<=32)(cC:ch<=255):
  Calls prog 149 #[.slice (some ⟨g,off,none⟩) n cap,.agg #[.string nm,.int .i64 len,.int .i64 rate,.int .i64 ch,.bool lp,.int .i64 f,.int .i64 t,.int .i64 sums,.int .i64 first]] w
   (iJ w g (lays bs (d9 off ⟨nm,len,rate,ch,lp,f,t,sums,first⟩))):=by
 have O:=hid hb;have d:=hid hb.lt;have aI:=hid (fun W ty (h:BytesAt W g bs)=>KS W g off n cap nm bs h (by omega) (by omega) ty);have z:=hid (fun (F:List Nat) (k v:Nat) (W:World) (h:BytesAt W g F) (bZ:F.length=bs.length) (hk:k+4<=n)=>(show Calls prog 148 #[.slice (some ⟨g,off,none⟩) n cap,.int .i64 k,.int .i64 (4:Nat),.int .i64 v] W (iJ W g (aW F (off+k) (cY 4 v)))/\(aW F (off+k) (cY 4 v)).length=bs.length from
  ⟨wR F g off n cap k 4 v W h (by omega) hk hl (by omega),by rw[dG (by rw[bG];omega),bZ]⟩))
 have HW:=hid (show d9 off ⟨nm,len,rate,ch,lp,f,t,sums,first⟩=[(off,j1 nm),(off+32,cY 4 len),(off+36,cY 4 rate),(off+40,cY 4 f),(off+44,cY 4 t),(off+48,cY 4 sums),(off+52,cY 4 first),(off+56,[ch])]++if lp=true then [(off+57,[1])] else [] from rfl);have bD:=hid (show (aW bs off (j1 nm)).length=bs.length from dG (by rw[eY];omega));clear hb;have aN:(Builtin.copy_ #[32,9] 3 #[.slice (some ⟨g,off,none⟩) n cap,.string nm]).run prog (w.alloc (.cells #[.string nm,.int .i64 len,.int .i64 rate,.int .i64 ch,.bool lp,.int .i64 f,.int .i64 t,.int .i64 sums,.int .i64 first] 101))=_:=aI.out _ _ (O.out.alloc _);obtain⟨w2,G⟩:∃ w2,(w.alloc (.cells #[.string nm,.int .i64 len,.int .i64 rate,.int .i64 ch,.bool lp,.int .i64 f,.int .i64 t,.int .i64 sums,.int .i64 first] 101)).setRow g (u8s (aW bs off (j1 nm))).toArray=w2:=⟨_,rfl⟩;rw[G]at aN;have aK:=hid (show Blk w2 w.heap.size 101 [.string nm,.int .i64 len,.int .i64 rate,.int .i64 ch,.bool lp,.int .i64 f,.int .i64 t,.int .i64 sums,.int .i64 first] by
  rw[<-G];exact (aHy _ g _ _ (by have:=d.out;omega)).trans (Blk.new w 101 [.string nm,.int .i64 len,.int .i64 rate,.int .i64 ch,.bool lp,.int .i64 f,.int .i64 t,.int .i64 sums,.int .i64 first]))
 have x1:=aH aK.out;have bF:=hid (show w.grownBy w2 (some g) by rw[<-G];exact eC (World.grownBy_alloc w _ _) _);have bE:=hid (show BytesAt w2 g (aW bs off (j1 nm)) by rw[<-G];exact zU (O.out.alloc _));clear G aI O;have cG:∀ W,(Instr.index 255 (.agg #[.int .i64 (len:Int),.int .i64 (rate:Int),.int .i64 (f:Int),.int .i64 (t:Int),.int .i64 (sums:Int),.int .i64 (first:Int)]) (.int .i64 0)).run prog W=.ok (.int .i64 (len:Int)) W:=fun W=>cA (P:=prog) (k:=0) underlying255 (by decide) (fun W=>by kernel_rfl) (fun W=>by kernel_rfl) rfl W
 have cH:∀ W,(Instr.index 255 (.agg #[.int .i64 (len:Int),.int .i64 (rate:Int),.int .i64 (f:Int),.int .i64 (t:Int),.int .i64 (sums:Int),.int .i64 (first:Int)]) (.int .i64 1)).run prog W=.ok (.int .i64 (rate:Int)) W:=fun W=>cA (P:=prog) (k:=1) underlying255 (by decide) (fun W=>by kernel_rfl) (fun W=>by kernel_rfl) rfl W
 have cI:∀ W,(Instr.index 255 (.agg #[.int .i64 (len:Int),.int .i64 (rate:Int),.int .i64 (f:Int),.int .i64 (t:Int),.int .i64 (sums:Int),.int .i64 (first:Int)]) (.int .i64 2)).run prog W=.ok (.int .i64 (f:Int)) W:=fun W=>cA (P:=prog) (k:=2) underlying255 (by decide) (fun W=>by kernel_rfl) (fun W=>by kernel_rfl) rfl W
 have cJ:∀ W,(Instr.index 255 (.agg #[.int .i64 (len:Int),.int .i64 (rate:Int),.int .i64 (f:Int),.int .i64 (t:Int),.int .i64 (sums:Int),.int .i64 (first:Int)]) (.int .i64 3)).run prog W=.ok (.int .i64 (t:Int)) W:=fun W=>cA (P:=prog) (k:=3) underlying255 (by decide) (fun W=>by kernel_rfl) (fun W=>by kernel_rfl) rfl W
 have cK:∀ W,(Instr.index 255 (.agg #[.int .i64 (len:Int),.int .i64 (rate:Int),.int .i64 (f:Int),.int .i64 (t:Int),.int .i64 (sums:Int),.int .i64 (first:Int)]) (.int .i64 4)).run prog W=.ok (.int .i64 (sums:Int)) W:=fun W=>cA (P:=prog) (k:=4) underlying255 (by decide) (fun W=>by kernel_rfl) (fun W=>by kernel_rfl) rfl W
 have cL:∀ W,(Instr.index 255 (.agg #[.int .i64 (len:Int),.int .i64 (rate:Int),.int .i64 (f:Int),.int .i64 (t:Int),.int .i64 (sums:Int),.int .i64 (first:Int)]) (.int .i64 5)).run prog W=.ok (.int .i64 (first:Int)) W:=fun W=>cA (P:=prog) (k:=5) underlying255 (by decide) (fun W=>by kernel_rfl) (fun W=>by kernel_rfl) rfl W
 go_enter func149,ntmps149;go_wp2;clear x1 aN;refine aHD 7 ?_;rw[rounds_succ];go_wp2_with (go_at_call 148;fail)
 obtain⟨q0,p0⟩:=z.out _ 32 len w2 bE.out bD.out (by omega);refine q0.mono ?_;rintro e y0 ⟨rfl,aO,V⟩;have Y0:=hid aO;have P0:=hid p0;have G0:=hid (aHi bF.out V);have X0:=hid (Blk.grown aK.out V (fun e=>by injection e with e;have:=d.out;omega));clear q0 p0 aO V;go_wp2;rw[rounds_succ];go_wp2_with (go_at_call 148;fail)
 obtain⟨q1,p1⟩:=z.out _ 36 rate y0 Y0.out P0.out (by omega);refine q1.mono ?_;rintro e y1 ⟨rfl,aP,Z⟩;have Y1:=hid aP;have P1:=hid p1;have G1:=hid (aHi G0.out Z);have X1:=hid (Blk.grown X0.out Z (fun e=>by injection e with e;have:=d.out;omega));clear q1 p1 aP Z;go_wp2;rw[rounds_succ];go_wp2_with (go_at_call 148;fail)
 obtain⟨q2,p2⟩:=z.out _ 40 f y1 Y1.out P1.out (by omega);refine q2.mono ?_;rintro e y2 ⟨rfl,aQ,aA⟩;have Y2:=hid aQ;have P2:=hid p2;have G2:=hid (aHi G1.out aA);have X2:=hid (Blk.grown X1.out aA (fun e=>by injection e with e;have:=d.out;omega));clear q2 p2 aQ aA;go_wp2;rw[rounds_succ];go_wp2_with (go_at_call 148;fail)
 obtain⟨q3,p3⟩:=z.out _ 44 t y2 Y2.out P2.out (by omega);refine q3.mono ?_;rintro e y3 ⟨rfl,aR,aB⟩;have Y3:=hid aR;have P3:=hid p3;have G3:=hid (aHi G2.out aB);have X3:=hid (Blk.grown X2.out aB (fun e=>by injection e with e;have:=d.out;omega));clear q3 p3 aR aB;go_wp2;rw[rounds_succ];go_wp2_with (go_at_call 148;fail)
 obtain⟨q4,p4⟩:=z.out _ 48 sums y3 Y3.out P3.out (by omega);refine q4.mono ?_;rintro e y4 ⟨rfl,aS,aC⟩;have Y4:=hid aS;have P4:=hid p4;have G4:=hid (aHi G3.out aC);have X4:=hid (Blk.grown X3.out aC (fun e=>by injection e with e;have:=d.out;omega));clear q4 p4 aS aC;go_wp2;rw[rounds_succ];go_wp2_with (go_at_call 148;fail)
 obtain⟨q5,p5⟩:=z.out _ 52 first y4 Y4.out P4.out (by omega)
 refine q5.mono ?_;rintro e y5 ⟨rfl,aT,aD⟩;have J:=hid aT;have I:=hid p5;have G5:=hid (aHi G4.out aD);have X5:=hid (Blk.grown X4.out aD (fun e=>by injection e with e;have:=d.out;omega));clear q5 p5 aT aD;go_wp2;obtain⟨v6,b0⟩:=aE (k:=off+56) I.out (by omega);obtain⟨v7,b1⟩:=aE (k:=off+57) I.out (by omega);have c6:=J.out.cell b0;have c7:=J.out.cell b1;have f5:=mP J.out;have x5:=aH X5.out;have cF:(ch:Int) % 256=(ch:Int):=by omega
 have aG:=hid (J.out.put (off+56) ch);have U:=hid (show off+56<(aW (aW (aW (aW (aW (aW (aW bs off (j1 nm)) (off+32) (cY 4 len)) (off+36) (cY 4 rate)) (off+40) (cY 4 f)) (off+44) (cY 4 t)) (off+48) (cY 4 sums)) (off+52) (cY 4 first)).length by rw[I.out];omega);have bH:=hid (show off+57<bs.length by omega);rw[rounds_succ];cases lp
 ·go_wp2;refine aHN (v:=.tuple #[]) (aHJ results149 _ _ _) rfl ?_;refine⟨rfl,?_,aHI G5.out _ _⟩;have h6:=aG.out;rw[uR _ U.out]at h6;rw[HW.out];exact h6
 ·have bC:=hid (aG.out.put (off+57) 1);go_wp2;refine aHN (v:=.tuple #[]) (aHJ results149 _ _ _) rfl ?_;refine⟨rfl,?_,aHI (aHI G5.out _ _) _ _⟩;have h7:=bC.out;rw[uR _ U.out,uR _ (by rw[dG (by simp only[List.length_cons,List.length_nil];exact U.out),I.out];exact bH.out)]at h7;rw[HW.out];exact h7
end Go.Proofs.YtbpgfkjhclpbdaaGreatDoor
