/- ParF. Conditions: as each theorem states. -/
import Derived.Laws.Cover1
import Derived.Test.YtbpgfkjhclpbdaaGreatDoorPw46
namespace Go.Proofs.YtbpgfkjhclpbdaaGreatDoor
open Tryz
open Go.RowKit Go.Lib
theorem uG(bs:List Nat)(o i:Nat):(bs.drop o).getD i 0=bs.getD (o+i) 0:=by
 rw[aGz,aGz,aHp]
theorem TR(bs:List Nat)(o:Nat):wQ (bs.drop o) 0=wQ bs o:=by
 unfold wQ;rw[IW (X:=bs.drop o) (Y:=bs) (a:=0) (b:=o) (n:=32) (fun j _=>by rw[uG,aGn])]
theorem kW(bs:List Nat)(o k m:Nat):bU (bs.drop o) (0+k) m=bU bs (o+k) m :=
 yX m (fun j _=>by rw[uG];congr 1;omega)
theorem CI(bs:List Nat)(o:Nat):fU (bs.drop o) 0=fU bs o:=by
 unfold fU;rw[TR,kW,kW,kW,kW,kW,kW,uG,uG,aGn,aGn]
theorem WZ(bs:List Nat)(o:Nat):sE (bs.drop o) 0=sE bs o:=by
 unfold sE rW;rw[CI,uG,aGn,IW (X:=bs.drop o) (Y:=bs) (a:=0+58) (b:=o+58) (n:=6) (fun j _=>by rw[uG];congr 1;omega)]
theorem Row.drop_{w:World}{B b off:Nat}{vs:List Value}(h:Row w B (some ⟨b,off,none⟩) vs)(k:Nat):Row w B (some ⟨b,off+k,none⟩) (vs.drop k):=fun i v d=>by
 rw[aHp]at d;obtain⟨G,I,ha,hb,F⟩:=h (k+i) v d;injection ha with ha
 injection ha with t z
 subst t z;exact⟨b,off+k,rfl,hb,by rw[aG4];exact F⟩
theorem VG(l:List Nat)(k:Nat):(u8s l).drop k=u8s (l.drop k):=by simp[u8s,List.map_drop]
theorem VH(l:List Nat)(k:Nat):(u8s l).take k=u8s (l.take k):=by simp[u8s,List.map_take]
theorem NK(a b:ByteArray):Op.bytesLess a.toList b.toList=cB a b:=by
 have t:∀ (x y:List UInt8),Op.bytesLess x y=decide (compareBytes x y<0):=by
  intro x
  induction x with
  | nil=>intro y;cases y <;> simp[Op.bytesLess,compareBytes]
  | cons u r h =>
   intro y;cases y with
   | nil=>simp[Op.bytesLess,compareBytes]
   | cons v s =>
    unfold Op.bytesLess compareBytes;rw[h s]
    by_cases h1:u<v
    ·simp[h1]
    ·by_cases h2:v<u
     ·have d:u≠v:=fun e=>by subst e;exact h1 h2
      simp[h1,h2,d]
     ·have d:u=v:=VF (aJt (tV h2) (tV h1));simp[d]
 unfold cB;rw[aIa,aIa];exact t _ _
theorem RK{bs:List Nat}{k:Nat}(h:lE bs k=false):∀ c,k<=c->lE bs c=false
 | 0,d=>by rw[show k=0 by omega]at h;exact h
 | c+1,d=>by
  by_cases hk:k=c+1
  ·subst hk;exact h
  ·unfold lE;rw[RK h c (by omega)]
   rfl
theorem tC{bs:List Nat}:∀ c,lE bs c=true->∀ x∈eT bs c,x.right=true
 | 0,_,x,d=>by simp[eT]at d
 | c+1,h,x,d=>by
  unfold lE at h;simp only[aGu]at h;obtain⟨⟨h1,h2⟩,_⟩:=h;unfold eT at d;rw[aH0,aG2]at d;rcases aGJ.1 d with t|t
  ·exact tC c h1 x t
  ·simp only[aHF,aIH,aGx]at t;subst t;unfold sE at h2;simp only[aGu]at h2;exact h2.2.2
theorem aA6(bs:List Nat)(m:Nat):eT bs (m+1)=eT bs m++[fU bs (16+m*64)]:=by
 unfold eT;rw[aH0,aG2]
 rfl
theorem mS(bs:List Nat)(m:Nat):(eT bs m).length=m:=by simp[eT]
theorem aCY(bs:List Nat){m k:Nat}(h:k<m):(eT bs m)[k]? = some (fU bs (16+k*64)):=by
 unfold eT;rw[aF5,aHa h]
 rfl
theorem OC{w:World}{g:Nat}{o:Obj}(h:w.heap[g]? = some o):g<w.heap.size:=by
 rcases aGt g w.heap.size with h1|h1
 ·exact h1
 ·rw[aHl h1]at h;cases h
set_option maxRecDepth 100000 in
set_option maxHeartbeats 16000000 in
theorem aAO(bs:List Nat)(A:Option Addr)(n cap:Nat)(w:World)(hn:bs.length=n)(iK:n<=cap)(iG:cap<=9223372036854775807)(hl:n<=4000000)(hA:A=none->cap=0)(hr:Row w w.heap.size A (u8s bs))(hb:∀ x∈bs,x<256):
  Calls prog 54 #[.slice A n cap] w (J7 w bs):=by
 have eG:=hid (fun W=>(show Calls prog 98 #[.int .i64 0] W (fun e w'=>e=.returned (.int .i64 20)/\W=w') from mN 0 W (by omega) (by omega)));have fX:=hid (fun (k:Nat) W (hk:k<=65536)=>(show Calls prog 98 #[.int .i64 k] W (fun e w'=>e=.returned (.int .i64 (16+(k:Int)*64+4))/\W=w') from mN k W (by omega) (by omega)));have b2:=hid (fun W (a s:Nat) (hW:Below w.heap.size w W) (ha:a+s<=n) (hs:s<=4)=>(show Calls prog 62 #[.slice A n cap,.int .i64 a,.int .i64 s] W (fun e w'=>e=.returned (.int .i64 (bU bs a s:Nat))/\W=w') from IM bs A n cap a s W hn (hr.later hW) hb ha (by omega) hs));unfold J7
 by_cases iA:n<20
 ·have G:fB bs=2:=by unfold fB;rw[FN (by omega)]
  have t1:(n:Int)<20:=by omega
  rw[G];go_enter func54,ntmps54;go_wp2_with (go_at_call 98;refine (eG.out _).mono ?_;rintro e w2 ⟨rfl,rfl⟩)
  refine aGk (aGN results54 _ _ _) rfl ?_;exact .inl ⟨by omega,rfl,aGj _ _⟩
 ·obtain⟨y0,fD⟩:=aE (k:=0) hn (by omega);obtain⟨g,off,rfl,iH,_⟩:=hr 0 _ (eL fD);clear hA fD;have t1:¬ (n:Int)<20:=by omega
  have cW:=hid (fun W (j:Nat) (hW:Below w.heap.size w W) (hj:j<n)=>(show W.cell? ⟨g,off+j,none⟩=some (.int .u8 (bs.getD j 0:Nat)) from by
   have h1:(u8s bs)[j]? = some (.int .u8 (bs.getD j 0:Nat)):=by
    rw[eL (show bs[j]? = some (bs.getD j 0) by rw[aGz,TT (by omega)];rfl)]
   obtain⟨b',o',ha,_,hc⟩:=(hr.later hW) j _ h1;injection ha with ha
   injection ha with e1 e2
   subst e1 e2;exact hc))
  have eU:=hid (fun (j:Nat) (hj:j<n)=>(show bs.getD j 0<256 from by
   rw[aGz,TT (by omega)];exact hb _ (aIj _)))
  have cZ:=hid (fun W (hW:Below w.heap.size w W)=>run_convert_bytes_arg (P:=prog) W 32 5 underlying32 underlying5 g off 4 cap ((cC bs 0 4).map fun (x:Nat)=>(x:Int)) (by rw[aF7,eM]) (fun i hi=>by
   have e:((cC bs 0 4).map fun (x:Nat)=>(x:Int)).getD i 0=((bs.getD i 0:Nat):Int):=by
    rw[aGz,aF5,gR hi,aGn]
    rfl
   rw[e];exact cW.out W i hW (by omega)))
  rw[aAz]at cZ;obtain⟨s4,dO⟩:∃ s4:ByteArray,(⟨(pD (cC bs 0 4)).toArray⟩:ByteArray)=s4:=⟨_,rfl⟩;rw[dO]at cZ;have f7:=hid dO;obtain⟨c,hc⟩:∃ c,iV bs=c:=⟨_,rfl⟩;obtain⟨sz,cE⟩:∃ sz,lP bs=sz:=⟨_,rfl⟩;have iF:c<65536:=by rw[<-hc];exact qJ hb 8 2
  have iL:sz<256:=by rw[<-cE];exact eU.out 10 (by omega)
  have Hn:=hid hn;have Hr:=hid hr;have Hb:=hid hb;have Hc:=hid hc;have c1:=hid cE;clear hn hr hb dO;have f3:=hid (fun (z:GW w)=>(show Calls prog 62 #[.slice (some ⟨g,off,none⟩) n cap,.int .i64 8,.int .i64 2] z.1 (fun e w'=>e=.returned (.int .i64 (c:Nat))/\z.1=w') from by
   have:=b2.out z.1 8 2 z.2 (by omega) (by omega);rw[show bU bs 8 2=c from hc]at this;exact this))
  have hJ:=fun (z:GW w)=>(show z.1.cell? ⟨g,off+10,none⟩=some (.int .u8 (sz:Nat)) from by
   have:=cW.out z.1 10 z.2 (by omega);rw[show bs.getD 10 0=sz from cE]at this;exact this)
  have iO:IntKind.i64.wrap (sz:Int)=(sz:Int):=aGl _ (by omega);have iP:(10:Int)<(n:Int):=by omega
  clear hc cE;go_enter func54,ntmps54;go_wp2_with (go_at_call 98;refine (eG.out _).mono ?_;rintro e w2 ⟨rfl,rfl⟩)
  refine aU (by kernel_rfl) (by kernel_rfl) ?_
  repeat (go_big_quiet_step ((go_at_call 62;exact dA (f3.out _))))
  refine aGv ?_;intro w1 aK;have B1:=hid (aQ aK);clear aK hJ;have gT:=cZ.out w1 B1.out;have cR:=hid (fun (h:kC bs=true)=>(show fB bs=4 from by unfold fB;rw[sL (by rw[Hn.out];omega),FN h]));have bZ:=hid (fun (h0:kC bs=false) (h:kF bs=true)=>(show fB bs=12 from by unfold fB;rw[sL (by rw[Hn.out];omega),sL (by rw[h0];decide),FN h]));have f0:=hid (fun (h0:kC bs=false) (h1:kF bs=false) (h:n<20+c*64)=>(show fB bs=2 from by unfold fB;rw[sL (by rw[Hn.out];omega),sL (by rw[h0];decide),sL (by rw[h1];decide),FN (by rw[Hn.out,Hc.out];exact h)]));have f2:=hid (fun (h0:kC bs=false) (h1:kF bs=false) (h2:¬ n<20+c*64) (h:rV bs=true)=>(show fB bs=9 from by unfold fB;rw[sL (by rw[Hn.out];omega),sL (by rw[h0];decide),sL (by rw[h1];decide),sL (by rw[Hn.out,Hc.out];exact h2),FN h]));have f1:=hid (fun (h0:kC bs=false) (h1:kF bs=false) (h2:¬ n<20+c*64) (h3:rV bs=false) (h:lE bs c=false)=>(show fB bs=4 from by unfold fB;rw[sL (by rw[Hn.out];omega),sL (by rw[h0];decide),sL (by rw[h1];decide),sL (by rw[Hn.out,Hc.out];exact h2),sL (by rw[h3];decide),FN (by rw[Hc.out];exact h)]));have bK:=hid (fun (h0:kC bs=false) (h1:kF bs=false) (h2:¬ n<20+c*64) (h3:rV bs=false) (h:lE bs c=true)=>(show fB bs=if qI bs=true then 12 else 0 from by unfold fB;rw[sL (by rw[Hn.out];omega),sL (by rw[h0];decide),sL (by rw[h1];decide),sL (by rw[Hn.out,Hc.out];exact h2),sL (by rw[h3];decide),sL (by rw[Hc.out,h];decide)]));have a9:=hid (show s4.toList=[67,65,76,49] ↔ cC bs 0 4=[67,65,76,49] from by
   rw[aIa,<-f7.out];have hq:∀ x∈cC bs 0 4,x<256:=fun x hx=>by
    unfold cC at hx;obtain⟨j,hj,rfl⟩:=aGq.1 hx;exact eU.out _ (by have:=aGA.1 hj;omega)
   show pD (cC bs 0 4)=_ ↔ _;constructor
   ·intro h;have h2:=aGp (List.map UInt8.toNat) h;unfold pD at h2;rw[aHj]at h2;have h3:(cC bs 0 4).map (UInt8.toNat ∘ UInt8.ofNat)=cC bs 0 4:=(aGZ fun x hx=>by have:=hq x hx;simp;omega).trans (List.map_id _);rw[h3]at h2;exact h2
   ·intro h;rw[h]
    rfl)
  obtain⟨cG,dL⟩:∃ r,bU bs 11 4=r:=⟨_,rfl⟩;obtain⟨dY,dQ⟩:∃ r,bs.getD 15 0=r:=⟨_,rfl⟩;have bJ:=hid (show kC bs=(decide (cC bs 0 4≠[67,65,76,49])||(decide (cG≠0)||decide (dY≠0))) by unfold kC;rw[dL,dQ]);have eP:=hid (show Calls prog 62 #[.slice (some ⟨g,off,none⟩) n cap,.int .i64 11,.int .i64 4] w1 (fun e w'=>e=.returned (.int .i64 (cG:Nat))/\w1=w') from by
   have:=b2.out w1 11 4 B1.out (by omega) (by omega);rw[dL]at this;exact this)
  have gE:=cW.out w1 15 B1.out (by omega);rw[dQ]at gE;clear dL dQ
  by_cases q1:s4.toList=[67,65,76,49]
  rotate_left
  ·have G:=cR.out (by rw[bJ.out,aGs (show cC bs 0 4≠[67,65,76,49] from fun h=>q1 (a9.out.2 h))];rfl);go_wp2;refine aGk (aGN results54 _ _ _) rfl ?_;exact .inl ⟨by rw[G];decide,by rw[G];rfl,B1.out⟩
  have b1:=hid (show decide (cC bs 0 4≠[67,65,76,49])=false from aGm (fun h=>h (a9.out.1 q1)));go_wp2_with (go_at_call 62;fail)
  refine eP.out.mono ?_;rintro e w2 ⟨rfl,rfl⟩;clear eP gT q1
  by_cases q2:cG=0
  rotate_left
  ·have t2:((cG:Int) != 0)=true:=by rw[aHk];omega
   have G:=cR.out (by rw[bJ.out,b1.out,aGs q2];rfl);go_wp2;refine aGk (aGN results54 _ _ _) rfl ?_;exact .inl ⟨by rw[G];decide,by rw[G];rfl,B1.out⟩
  subst q2
  by_cases q3:dY=0
  rotate_left
  ·have t2:((dY:Int) != 0)=true:=by rw[aHk];omega
   have g9:(15:Int)<(n:Int):=by omega
   have G:=cR.out (by rw[bJ.out,b1.out,aGs q3];rfl);go_wp2;refine aGk (aGN results54 _ _ _) rfl ?_;exact .inl ⟨by rw[G];decide,by rw[G];rfl,B1.out⟩
  subst q3;have h0:kC bs=false:=by rw[bJ.out,b1.out];rfl
  have H0:=hid h0;clear h0;obtain⟨J,dM⟩:∃ r,bU bs 4 4=r:=⟨_,rfl⟩;have a8:=hid (show kF bs=(decide (sz<24)||(decide (96<sz)||(decide (64<c)||decide (J≠n)))) by unfold kF;rw[c1.out,Hc.out,dM,Hn.out]);have eQ:=hid (show Calls prog 62 #[.slice (some ⟨g,off,none⟩) n cap,.int .i64 4,.int .i64 4] w1 (fun e w'=>e=.returned (.int .i64 (J:Nat))/\w1=w') from by
   have:=b2.out w1 4 4 B1.out (by omega) (by omega);rw[dM]at this;exact this)
  clear dM;have g9:(15:Int)<(n:Int):=by omega
  by_cases q4:sz<24
  ·have t2:(sz:Int)<24:=by omega
   have G:=bZ.out H0.out (by rw[a8.out,aGs q4];rfl);go_wp2;refine aGk (aGN results54 _ _ _) rfl ?_;exact .inl ⟨by rw[G];decide,by rw[G];rfl,B1.out⟩
  have t2:¬ (sz:Int)<24:=by omega
  by_cases q5:96<sz
  ·have t3:(96:Int)<(sz:Int):=by omega
   have G:=bZ.out H0.out (by rw[a8.out,aGs q5];simp);go_wp2;refine aGk (aGN results54 _ _ _) rfl ?_;exact .inl ⟨by rw[G];decide,by rw[G];rfl,B1.out⟩
  have t3:¬ (96:Int)<(sz:Int):=by omega
  by_cases q6:64<c
  ·have t4:(64:Int)<(c:Int):=by omega
   have G:=bZ.out H0.out (by rw[a8.out,aGs q6];simp);go_wp2;refine aGk (aGN results54 _ _ _) rfl ?_;exact .inl ⟨by rw[G];decide,by rw[G];rfl,B1.out⟩
  have t4:¬ (64:Int)<(c:Int):=by omega
  go_wp2_with (go_at_call 62;fail)
  refine eQ.out.mono ?_;rintro e w2 ⟨rfl,rfl⟩;clear eQ
  by_cases q7:J=n
  rotate_left
  ·have t5:((J:Int) != (n:Int))=true:=by rw[aHk];omega
   have G:=bZ.out H0.out (by rw[a8.out,aGs q7];simp);go_wp2;refine aGk (aGN results54 _ _ _) rfl ?_;exact .inl ⟨by rw[G];decide,by rw[G];rfl,B1.out⟩
  subst q7;have h1:kF bs=false:=by rw[a8.out,aGm q4,aGm q5,aGm q6];simp
  have H1:=hid h1;clear h1 a8 bJ b1;have eH:=hid (fun W=>fX.out c W (by omega))
  by_cases q8:J<20+c*64
  ·have t6:(J:Int)<16+(c:Int)*64+4:=by omega
   have G:=f0.out H0.out H1.out q8;go_wp2_with (go_at_call 98;refine (eH.out _).mono ?_;rintro e w2 ⟨rfl,rfl⟩)
   refine aGk (aGN results54 _ _ _) rfl ?_;exact .inl ⟨by rw[G];decide,by rw[G];rfl,B1.out⟩
  have t6:¬ (J:Int)<16+(c:Int)*64+4:=by omega
  obtain⟨rs,dN⟩:∃ r,bU bs (16+c*64) 4=r:=⟨_,rfl⟩;obtain⟨C,hC⟩:∃ r,l6 (bs.take (16+c*64))=r:=⟨_,rfl⟩;have gL:=uD (bs.take (16+c*64));rw[hC]at gL;have cT:=hid (show rV bs=decide (C≠(rs:Int)) by unfold rV;rw[Hc.out,hC,dN]);have eR:=hid (show Calls prog 62 #[.slice (some ⟨g,off,none⟩) J cap,.int .i64 (16+(c:Int)*64),.int .i64 4] w1 (fun e w'=>e=.returned (.int .i64 (rs:Nat))/\w1=w') from by
   have:=b2.out w1 (16+c*64) 4 B1.out (by omega) (by omega);rw[dN,show ((16+c*64:Nat):Int)=16+(c:Int)*64 by push_cast;rfl]at this;exact this)
  have eF:=hid (show Calls prog 68 #[.slice (some ⟨g,off,none⟩) (16+c*64) cap] w1 (fun e w'=>e=.returned (.int .u32 C)/\w1=w') from by
   have h:=(Hr.out.later B1.out).take (16+c*64);rw[VH]at h;have:=rC (bs.take (16+c*64)) (some ⟨g,off,none⟩) cap w1 (by rw[aGB];omega) h;rw[aGB,Hn.out,aHM (by omega),hC]at this;exact this)
  have iN:IntKind.i64.wrap C=C:=aGl _ (by omega);clear dN hC;go_wp2_with (first|(go_at_call 98;refine (eH.out _).mono ?_;rintro e w2 ⟨rfl,rfl⟩)|(go_at_call 68;refine eF.out.mono ?_;rintro e w2 ⟨rfl,rfl⟩)|(go_at_call 62;fail))
  refine eR.out.mono ?_;rintro e w2 ⟨rfl,rfl⟩;clear eR eF
  by_cases q9:C=(rs:Int)
  rotate_left
  ·have t7:(C != (rs:Int))=true:=by rw[aHk];exact q9
   have G:=f2.out H0.out H1.out q8 (by rw[cT.out,aGs q9]);go_wp2;refine aGk (aGN results54 _ _ _) rfl ?_;exact .inl ⟨by rw[G];decide,by rw[G];rfl,B1.out⟩
  subst q9;have h2:rV bs=false:=by rw[cT.out];simp
  have H2:=hid h2;clear h2 cT;have eD:=hid (FC bs (some ⟨g,off,none⟩) J cap w1 Hn.out (by omega) nofun (Hr.out.later B1.out));go_wp2_with (go_at_call 99;fail)
  refine eD.out.mono ?_;rintro e w2 ⟨Ai,ci,rfl,gP,gQ,gS,bF,eX⟩;have B2:=hid (aC B1.out eX);have RI:=hid (Row.of_own bF);clear bF eX eD;obtain⟨w3,dP⟩:∃ w3,w2.alloc (.cells #[.slice Ai J ci,.int .i64 sz,.slice none 0 0] 146)=w3:=⟨_,rfl⟩;have X3:=hid (show Blk w3 w2.heap.size 146 [.slice Ai J ci,.int .i64 sz,.slice none 0 0] by rw[<-dP];exact Blk.new w2 _ [.slice Ai J ci,.int .i64 sz,.slice none 0 0]);have B3:=hid (show Below w2.heap.size w2 w3 by rw[<-dP];exact aP w2 _);go_wp2_with fail
  clear dP;obtain⟨i0,hi,⟨fQ,fE,fF⟩,e5,e6⟩:=AK;have fY:=hid (show (prog.info? 101).map (·.size)=some 9 by kernel_rfl);go_loopw [81] (fun v wr=>∃ (m:Nat) (Ad:Option Addr) (cd:Nat),m<=c/\v=.int .i64 m/\Blk wr w2.heap.size 146 [.slice Ai J ci,.int .i64 sz,.slice Ad m cd]/\wr.ownsRow (w2.heap.size+1) 101 9 (.slice Ad m cd) m (bB (eT bs m))/\Below w2.heap.size w2 wr/\lE bs m=true) (fun v _=>c-(intOf v).toNat)
  case atStart=>exact⟨0,none,0,by omega,rfl,X3.out,aHc _ _ _ _,B3.out,rfl⟩
  case round =>
   obtain⟨m,Ad,cd,hm,rfl,hx,bF,dG,e4⟩:=hrel;have Hx:=hid hx;have a2:=hid bF;have a1:=hid dG;have b3:=hid e4;have aX:=hid (bO bF);have a7:=hid (show Below w.heap.size w wr from aC B2.out dG);have fC:=hx.lt;clear hx bF dG e4
   by_cases hlt:m<c
   ·have u1:(m:Int)<(c:Int):=by omega
    have u2:(0:Int)<=(m:Int):=by omega
    have u3:16+m*64+64<=J:=by omega
    have bY:=hid (show Calls prog 100 #[.slice (some ⟨g,off+(16+m*64),none⟩) (J-(16+m*64)) (cap-(16+m*64))] wr (fun e w'=>e=.returned (.tuple #[.agg (fU bs (16+m*64)).cells.toArray,.bool (sE bs (16+m*64))])/\Below wr.heap.size wr w') from by
     have h:=(Hr.out.later a7.out).drop_ (16+m*64);rw[VG]at h;have:=aDK (bs.drop (16+m*64)) g (off+(16+m*64)) (J-(16+m*64)) (cap-(16+m*64)) wr (by rw[aHV,Hn.out]) (by omega) (by omega) (by omega) h (fun x hx=>Hb.out x (aJU hx))
     rwa [CI,WZ]at this)
    have bI:=hid (show lE bs (m+1)=(lE bs m&&sE bs (16+m*64)&&(decide (m=0)||cB (fU bs (16+(m-1)*64)).name (fU bs (16+m*64)).name)) from rfl);have cY:=hid (aA6 bs m);have eJ:=hid (fun (h:lE bs (m+1)=false)=>f1.out H0.out H1.out q8 H2.out (RK h c (by omega)));obtain⟨M,hM⟩:∃ M,fU bs (16+m*64)=M:=⟨_,rfl⟩;rw[hM]at bY bI cY;clear hM;obtain⟨nm,len,rate,ch,lp,f,t,sums,first⟩:=M;have fZ:=hid (tL ⟨nm,len,rate,ch,lp,f,t,sums,first⟩);obtain⟨ok,e7⟩:∃ ok,sE bs (16+m*64)=ok:=⟨_,rfl⟩;rw[e7]at bY bI;clear e7;have eK:=hid (show Calls prog 100 #[.slice (some ⟨g,off+(16+m*64),none⟩) (J-(16+m*64)) (cap-(16+m*64))] wr (fun e w'=>e=.returned (.tuple #[.agg #[.string nm,.int .i64 len,.int .i64 rate,.int .i64 ch,.bool lp,.int .i64 f,.int .i64 t,.int .i64 sums,.int .i64 first],.bool ok])/\Below wr.heap.size wr w') from bY.out);clear bY;go_wp2_with (go_at_call 100;fail)
    refine eK.out.mono ?_;rintro e F ⟨rfl,dE⟩;have B4:=hid dE;have G4:=dE.size;clear dE eK;go_wp2_with (refine aA rfl 101 (.tmp 8) (.tmp 91) rfl F.heap.size rfl _ _ #[.string nm,.int .i64 len,.int .i64 rate,.int .i64 ch,.bool lp,.int .i64 f,.int .i64 t,.int .i64 sums,.int .i64 first] rfl (LT F _) fY.out rfl fZ.out ?_;rw[aGT])
    obtain⟨w5,bG⟩:∃ w5,F.alloc (.cells #[.string nm,.int .i64 len,.int .i64 rate,.int .i64 ch,.bool lp,.int .i64 f,.int .i64 t,.int .i64 sums,.int .i64 first] 101)=w5:=⟨_,rfl⟩;rw[bG];have X5:=hid (show Blk w5 w2.heap.size 146 [.slice Ai J ci,.int .i64 sz,.slice Ad m cd] by rw[<-bG];exact (Hx.out.below B4.out Hx.out.lt).alloc _);have M5:=hid (show Blk w5 F.heap.size 101 [.string nm,.int .i64 len,.int .i64 rate,.int .i64 ch,.bool lp,.int .i64 f,.int .i64 t,.int .i64 sums,.int .i64 first] by rw[<-bG];exact Blk.new F _ [.string nm,.int .i64 len,.int .i64 rate,.int .i64 ch,.bool lp,.int .i64 f,.int .i64 t,.int .i64 sums,.int .i64 first]);have O5:=hid (show w5.ownsRow (w2.heap.size+1) 101 9 (.slice Ad m cd) m (bB (eT bs m)) by rw[<-bG];exact (cU a2.out B4.out).alloc _);have B5:=hid (show Below wr.heap.size wr w5 by rw[<-bG];exact aC B4.out (aP F _));clear bG;have Z:=hid (show some F.heap.size≠(Value.slice Ad m cd).ownBlock from fun e=>by
     rcases aHB m with h0|h0
     ·subst h0;rcases a2.out.2 with ⟨h1,_⟩|⟨g',h4,h6,h1,gM,gV,_⟩
      ·injection h1 with h1
       subst h1;simp[Value.ownBlock]at e
      ·injection h1 with h1
       subst h1;have h2:F.heap.size=g':=by simpa[Value.ownBlock] using e
       have h3:=OC gV;omega
     ·obtain⟨g',h1,gM,iJ⟩:=rO a2.out h0;subst h1;have h2:F.heap.size=g':=by simpa[Value.ownBlock] using e
      omega)
    cases ok with
    | false =>
     have G:=eJ.out (by rw[bI.out];simp);go_wp2_with fail
     refine aU (by kernel_rfl) (by kernel_rfl) ?_
     repeat (go_big_quiet_step (fail))
     refine aGv ?_;intro I aK;have B6:=hid (aQ aK);clear aK;go_wp2;refine aGk (aGN results54 _ _ _) rfl ?_;exact .inl ⟨by rw[G];decide,by rw[G];rfl,aC (aC a7.out B5.out) B6.out⟩
    | true =>
     have xd:=fun (z:GW w5)=>(show z.1.cell? ⟨w2.heap.size,2,none⟩=some (.slice Ad m cd) from aH (X5.out.below z.2 X5.out.lt) 2)
     have xn:=fun (z:GW w5)=>(show z.1.cell? ⟨F.heap.size,0,none⟩=some (.string nm) from aH (M5.out.below z.2 M5.out.lt) 0)
     by_cases bR:m=0
     ·have bP:lE bs (m+1)=true:=by rw[bI.out,b3.out,aGs bR];rfl
      have v1:decide ((0:Int)<(m:Int))=false:=aGm (by omega);have v2:decide (0<m)=false:=aGm (by omega);clear bR;go_wp2_with fail
      refine aU (by kernel_rfl) (by kernel_rfl) ?_
      repeat (go_big_quiet_step (fail))
      refine aGv ?_;intro I aK;have B6:=hid (aQ aK);clear aK;clear xd xn;have X6:=hid (X5.out.below B6.out X5.out.lt);have d:=hid (M5.out.below B6.out M5.out.lt);have O6:=hid (cU O5.out B6.out);have G5:=hid B5.out.size;have G6:=hid B6.out.size;have Gx:=hid fC;have cN:=hid bP;have HS:=hid (fun (W:World) (hW:Below I.heap.size I W)=>(show W.cell? ⟨w2.heap.size,2,none⟩=some (.slice Ad m cd)/\W.cell? ⟨F.heap.size,0,none⟩=some (.string nm)/\W.cell? ⟨F.heap.size,1,none⟩=some (.int .i64 len)/\W.cell? ⟨F.heap.size,2,none⟩=some (.int .i64 rate)/\W.cell? ⟨F.heap.size,3,none⟩=some (.int .i64 ch)/\W.cell? ⟨F.heap.size,4,none⟩=some (.bool lp)/\W.cell? ⟨F.heap.size,5,none⟩=some (.int .i64 f)/\W.cell? ⟨F.heap.size,6,none⟩=some (.int .i64 t)/\W.cell? ⟨F.heap.size,7,none⟩=some (.int .i64 sums)/\W.cell? ⟨F.heap.size,8,none⟩=some (.int .i64 first) from ⟨aH (X6.out.below hW X6.out.lt) 2,aH (d.out.below hW d.out.lt) 0,aH (d.out.below hW d.out.lt) 1,aH (d.out.below hW d.out.lt) 2,aH (d.out.below hW d.out.lt) 3,aH (d.out.below hW d.out.lt) 4,aH (d.out.below hW d.out.lt) 5,aH (d.out.below hW d.out.lt) 6,aH (d.out.below hW d.out.lt) 7,aH (d.out.below hW d.out.lt) 8⟩));have a9:=hid (fun (W W':World) (hW:Below I.heap.size I W) (V:W.grownBy W' (Value.slice Ad m cd).ownBlock)=>(show W'.cell? ⟨w2.heap.size,2,none⟩=some (.slice Ad m cd)/\W'.cell? ⟨F.heap.size,0,none⟩=some (.string nm)/\W'.cell? ⟨F.heap.size,1,none⟩=some (.int .i64 len)/\W'.cell? ⟨F.heap.size,2,none⟩=some (.int .i64 rate)/\W'.cell? ⟨F.heap.size,3,none⟩=some (.int .i64 ch)/\W'.cell? ⟨F.heap.size,4,none⟩=some (.bool lp)/\W'.cell? ⟨F.heap.size,5,none⟩=some (.int .i64 f)/\W'.cell? ⟨F.heap.size,6,none⟩=some (.int .i64 t)/\W'.cell? ⟨F.heap.size,7,none⟩=some (.int .i64 sums)/\W'.cell? ⟨F.heap.size,8,none⟩=some (.int .i64 first) from ⟨aH (Blk.grown (X6.out.below hW X6.out.lt) V (fun e=>by have:=aX.out _ e.symm;omega)) 2,aH (Blk.grown (d.out.below hW d.out.lt) V (Z.out)) 0,aH (Blk.grown (d.out.below hW d.out.lt) V (Z.out)) 1,aH (Blk.grown (d.out.below hW d.out.lt) V (Z.out)) 2,aH (Blk.grown (d.out.below hW d.out.lt) V (Z.out)) 3,aH (Blk.grown (d.out.below hW d.out.lt) V (Z.out)) 4,aH (Blk.grown (d.out.below hW d.out.lt) V (Z.out)) 5,aH (Blk.grown (d.out.below hW d.out.lt) V (Z.out)) 6,aH (Blk.grown (d.out.below hW d.out.lt) V (Z.out)) 7,aH (Blk.grown (d.out.below hW d.out.lt) V (Z.out)) 8⟩));have cO:=hid (fun (W W':World) (hW:Below I.heap.size I W) (V:W.grownBy W' (Value.slice Ad m cd).ownBlock)=>(show ∀ i,W'.frozen? ⟨w2.heap.size,i,none⟩=false from mP (Blk.grown (X6.out.below hW X6.out.lt) V (fun e=>by have:=aX.out _ e.symm;omega))));have cQ:=hid (fun (W:World) (hW:Below I.heap.size I W)=>cU O6.out hW);clear bP;go_wp2_with fail
      obtain⟨y2,z0,z1,z2,z3,z4,z5,z6,z7,z8⟩:=HS.out I (aGj _ _);have hK:=fun O=>b8 y2 O
      have hL:=fun O=>b8 z0 O
      have hN:=fun O=>b8 z1 O
      have hO:=fun O=>b8 z2 O
      have hP:=fun O=>b8 z3 O
      have hQ:=fun O=>b8 z4 O
      have hR:=fun O=>b8 z5 O
      have hS:=fun O=>b8 z6 O
      have hT:=fun O=>b8 z7 O
      have hU:=fun O=>b8 z8 O
      go_region_law (first|(refine UW (by rfl) _ _ _ (by rfl) (w2.heap.size+1) 101 i0 fQ 9 80 underlying144 hi fE e5 e6 fF (by omega) (.slice Ad m cd) m (bB (eT bs m)) (by rfl) (cQ.out _ (aC (fW I) (aP _ _))) (I.drew.heap.size+1) (some ⟨I.drew.heap.size,0,none⟩) 1 1 [.string nm,.int .i64 len,.int .i64 rate,.int .i64 ch,.bool lp,.int .i64 f,.int .i64 t,.int .i64 sums,.int .i64 first] (by rfl) (by rfl) (Row.new I.drew _ [.string nm,.int .i64 len,.int .i64 rate,.int .i64 ch,.bool lp,.int .i64 f,.int .i64 t,.int .i64 sums,.int .i64 first]) (tM ⟨nm,len,rate,ch,lp,f,t,sums,first⟩) (by omega) (by omega) (by simp;have:=Gx.out;have:=G5.out;have:=G6.out;omega) ?_;intro A2 c2 w9 bS aR dD gO;have gH:=cO.out _ _ (aC (fW I) (aP _ _)) aR;have gF:=(a9.out _ _ (aC (fW I) (aP _ _)) aR).1))
      all_goals
       have a4:=aC (fW I) (aP I.drew (.cells #[.string nm,.int .i64 len,.int .i64 rate,.int .i64 ch,.bool lp,.int .i64 f,.int .i64 t,.int .i64 sums,.int .i64 first] 101));have bN:=(nC (nC (nC a1.out B5.out (by have:=a1.out.size;omega)) B6.out (by have:=G5.out;omega)) a4 (by have:=G5.out;have:=G6.out;omega)).grown aR (by simp;have:=G5.out;have:=G6.out;omega) (fun k hk=>by have:=aX.out k hk;omega);have cM:=hid (aIS (p:=⟨w2.heap.size,2,none⟩) bN (LE _) (.slice A2 (m+1) c2));have cV:=hid ((Blk.grown (X6.out.below a4 X6.out.lt) aR (fun e=>by have:=aX.out _ e.symm;omega)).set_ 2 (.slice A2 (m+1) c2));have cP:=hid (show (w9.setCell ⟨w2.heap.size,2,none⟩ (.slice A2 (m+1) c2)).ownsRow (w2.heap.size+1) 101 9 (.slice A2 (m+1) c2) (m+1) (bB (eT bs (m+1))) from by
        rw[cY.out,n9];exact aIT bS (aJ1 _) _)
       clear a4 bN bS aR dD;go_wp2;go_roundw
       case rel=>exact⟨m+1,A2,c2,by omega,by go_num,cV.out,cP.out,cM.out,cN.out⟩
       case measure=>simp[intOf];omega
     ·have v1:(0:Int)<(m:Int):=by omega
      have v2:0<m:=by omega
      obtain⟨r,g4⟩:∃ r,m=r+1:=⟨m-1,by omega⟩;have gX:(m:Int)-1=(r:Int):=by omega
      have v3:(r:Int)<(m:Int):=by omega
      have v4:(0:Int)<=(r:Int):=by omega
      obtain⟨gd,dB,_,gU⟩:=rO O5.out (by omega);have fO:=fun (z:GW w5)=>(show z.1.cell? ⟨w2.heap.size,2,none⟩=some (.slice (some ⟨gd,0,none⟩) m cd) from by rw[xd z,dB])
      clear xd;obtain⟨pv,dK⟩:∃ pv,fU bs (16+r*64)=pv:=⟨_,rfl⟩;have fA:(eT bs m)[r]? = some pv:=by rw[aCY bs (by omega),dK]
      obtain⟨b',o',b5,_,e0⟩:=iD (Row.of_own O5.out) fA;rw[dB]at b5;injection b5 with b5
      injection b5 with e1 e2
      subst e1 e2;have xp:=fun (z:GW w5)=>(show z.1.cell? ⟨gd,r*9,none⟩=some (.string pv.name) from by
       have h:=(z.2.cell (p:=⟨gd,0+r*9+0,none⟩) gU).trans (e0 0 _ rfl)
       rwa [aGn,Nat.add_zero]at h)
      have eI:=hid (show lE bs (m+1)=cB pv.name nm by
       rw[bI.out,b3.out,aGm bR,show m-1=r by omega,dK];simp)
      have b9:=NK pv.name nm;have hY:=hid bR;clear bR g4 dK fA e0 dB
      by_cases bQ:cB pv.name nm=true
      ·have bP:lE bs (m+1)=true:=by rw[eI.out,bQ]
       rw[bQ]at b9;clear bQ;go_wp2_with fail
       refine aU (by kernel_rfl) (by kernel_rfl) ?_
       repeat (go_big_quiet_step (fail))
       refine aGv ?_;intro I aK;have B6:=hid (aQ aK);clear aK;clear fO xn xp b9 v1 v2 v3 v4 gX;have X6:=hid (X5.out.below B6.out X5.out.lt);have d:=hid (M5.out.below B6.out M5.out.lt);have O6:=hid (cU O5.out B6.out);have G5:=hid B5.out.size;have G6:=hid B6.out.size;have Gx:=hid fC;have cN:=hid bP;have HS:=hid (fun (W:World) (hW:Below I.heap.size I W)=>(show W.cell? ⟨w2.heap.size,2,none⟩=some (.slice Ad m cd)/\W.cell? ⟨F.heap.size,0,none⟩=some (.string nm)/\W.cell? ⟨F.heap.size,1,none⟩=some (.int .i64 len)/\W.cell? ⟨F.heap.size,2,none⟩=some (.int .i64 rate)/\W.cell? ⟨F.heap.size,3,none⟩=some (.int .i64 ch)/\W.cell? ⟨F.heap.size,4,none⟩=some (.bool lp)/\W.cell? ⟨F.heap.size,5,none⟩=some (.int .i64 f)/\W.cell? ⟨F.heap.size,6,none⟩=some (.int .i64 t)/\W.cell? ⟨F.heap.size,7,none⟩=some (.int .i64 sums)/\W.cell? ⟨F.heap.size,8,none⟩=some (.int .i64 first) from ⟨aH (X6.out.below hW X6.out.lt) 2,aH (d.out.below hW d.out.lt) 0,aH (d.out.below hW d.out.lt) 1,aH (d.out.below hW d.out.lt) 2,aH (d.out.below hW d.out.lt) 3,aH (d.out.below hW d.out.lt) 4,aH (d.out.below hW d.out.lt) 5,aH (d.out.below hW d.out.lt) 6,aH (d.out.below hW d.out.lt) 7,aH (d.out.below hW d.out.lt) 8⟩));have a9:=hid (fun (W W':World) (hW:Below I.heap.size I W) (V:W.grownBy W' (Value.slice Ad m cd).ownBlock)=>(show W'.cell? ⟨w2.heap.size,2,none⟩=some (.slice Ad m cd)/\W'.cell? ⟨F.heap.size,0,none⟩=some (.string nm)/\W'.cell? ⟨F.heap.size,1,none⟩=some (.int .i64 len)/\W'.cell? ⟨F.heap.size,2,none⟩=some (.int .i64 rate)/\W'.cell? ⟨F.heap.size,3,none⟩=some (.int .i64 ch)/\W'.cell? ⟨F.heap.size,4,none⟩=some (.bool lp)/\W'.cell? ⟨F.heap.size,5,none⟩=some (.int .i64 f)/\W'.cell? ⟨F.heap.size,6,none⟩=some (.int .i64 t)/\W'.cell? ⟨F.heap.size,7,none⟩=some (.int .i64 sums)/\W'.cell? ⟨F.heap.size,8,none⟩=some (.int .i64 first) from ⟨aH (Blk.grown (X6.out.below hW X6.out.lt) V (fun e=>by have:=aX.out _ e.symm;omega)) 2,aH (Blk.grown (d.out.below hW d.out.lt) V (Z.out)) 0,aH (Blk.grown (d.out.below hW d.out.lt) V (Z.out)) 1,aH (Blk.grown (d.out.below hW d.out.lt) V (Z.out)) 2,aH (Blk.grown (d.out.below hW d.out.lt) V (Z.out)) 3,aH (Blk.grown (d.out.below hW d.out.lt) V (Z.out)) 4,aH (Blk.grown (d.out.below hW d.out.lt) V (Z.out)) 5,aH (Blk.grown (d.out.below hW d.out.lt) V (Z.out)) 6,aH (Blk.grown (d.out.below hW d.out.lt) V (Z.out)) 7,aH (Blk.grown (d.out.below hW d.out.lt) V (Z.out)) 8⟩));have cO:=hid (fun (W W':World) (hW:Below I.heap.size I W) (V:W.grownBy W' (Value.slice Ad m cd).ownBlock)=>(show ∀ i,W'.frozen? ⟨w2.heap.size,i,none⟩=false from mP (Blk.grown (X6.out.below hW X6.out.lt) V (fun e=>by have:=aX.out _ e.symm;omega))));have cQ:=hid (fun (W:World) (hW:Below I.heap.size I W)=>cU O6.out hW);clear bP;go_wp2_with fail
       obtain⟨y2,z0,z1,z2,z3,z4,z5,z6,z7,z8⟩:=HS.out I (aGj _ _);have hK:=fun O=>b8 y2 O
       have hL:=fun O=>b8 z0 O
       have hN:=fun O=>b8 z1 O
       have hO:=fun O=>b8 z2 O
       have hP:=fun O=>b8 z3 O
       have hQ:=fun O=>b8 z4 O
       have hR:=fun O=>b8 z5 O
       have hS:=fun O=>b8 z6 O
       have hT:=fun O=>b8 z7 O
       have hU:=fun O=>b8 z8 O
       go_region_law (first|(refine UW (by rfl) _ _ _ (by rfl) (w2.heap.size+1) 101 i0 fQ 9 80 underlying144 hi fE e5 e6 fF (by omega) (.slice Ad m cd) m (bB (eT bs m)) (by rfl) (cQ.out _ (aC (fW I) (aP _ _))) (I.drew.heap.size+1) (some ⟨I.drew.heap.size,0,none⟩) 1 1 [.string nm,.int .i64 len,.int .i64 rate,.int .i64 ch,.bool lp,.int .i64 f,.int .i64 t,.int .i64 sums,.int .i64 first] (by rfl) (by rfl) (Row.new I.drew _ [.string nm,.int .i64 len,.int .i64 rate,.int .i64 ch,.bool lp,.int .i64 f,.int .i64 t,.int .i64 sums,.int .i64 first]) (tM ⟨nm,len,rate,ch,lp,f,t,sums,first⟩) (by omega) (by omega) (by simp;have:=Gx.out;have:=G5.out;have:=G6.out;omega) ?_;intro A2 c2 w9 bS aR dD gO;have gH:=cO.out _ _ (aC (fW I) (aP _ _)) aR;have gF:=(a9.out _ _ (aC (fW I) (aP _ _)) aR).1))
       all_goals
        have a4:=aC (fW I) (aP I.drew (.cells #[.string nm,.int .i64 len,.int .i64 rate,.int .i64 ch,.bool lp,.int .i64 f,.int .i64 t,.int .i64 sums,.int .i64 first] 101));have bN:=(nC (nC (nC a1.out B5.out (by have:=a1.out.size;omega)) B6.out (by have:=G5.out;omega)) a4 (by have:=G5.out;have:=G6.out;omega)).grown aR (by simp;have:=G5.out;have:=G6.out;omega) (fun k hk=>by have:=aX.out k hk;omega);have cM:=hid (aIS (p:=⟨w2.heap.size,2,none⟩) bN (LE _) (.slice A2 (m+1) c2));have cV:=hid ((Blk.grown (X6.out.below a4 X6.out.lt) aR (fun e=>by have:=aX.out _ e.symm;omega)).set_ 2 (.slice A2 (m+1) c2));have cP:=hid (show (w9.setCell ⟨w2.heap.size,2,none⟩ (.slice A2 (m+1) c2)).ownsRow (w2.heap.size+1) 101 9 (.slice A2 (m+1) c2) (m+1) (bB (eT bs (m+1))) from by
         rw[cY.out,n9];exact aIT bS (aJ1 _) _)
        clear a4 bN bS aR dD;go_wp2;go_roundw
        case rel=>exact⟨m+1,A2,c2,by omega,by go_num,cV.out,cP.out,cM.out,cN.out⟩
        case measure=>simp[intOf];omega
      ·have dJ:cB pv.name nm=false:=by simpa using bQ
       have G:=eJ.out (by rw[eI.out,dJ]);rw[dJ]at b9;clear bQ dJ;go_wp2_with fail
       refine aU (by kernel_rfl) (by kernel_rfl) ?_
       repeat (go_big_quiet_step (fail))
       refine aGv ?_;intro I aK;have B6:=hid (aQ aK);clear aK;clear fO xn xp b9;go_wp2;refine aGk (aGN results54 _ _ _) rfl ?_;exact .inl ⟨by rw[G];decide,by rw[G];rfl,aC (aC a7.out B5.out) B6.out⟩
   ·have gW:m=c:=by omega
    subst gW;have u1:¬ ((m:Int)<(m:Int)):=by omega
    have xq:wr.cell? ⟨w2.heap.size,2,none⟩=some (.slice Ad m cd):=aH Hx.out 2;obtain⟨A5,c5,h5,eV,c9⟩:=jK a2.out;injection h5 with e1 _ e3
    subst e1 e3;have gJ:=gK a2.out;have cX:=hid (mS bs m);have eE:=hid (WP (eT bs m) Ad m cd wr (mS bs m) (by omega) (fun h=>(c9 h).2) (Row.of_own a2.out));have eS:=hid (tC m b3.out);have bK:=hid (bK.out H0.out H1.out q8 H2.out b3.out);have dC:=(show qI bs=(decide (upZ (bX (lP bs) (eT bs (iV bs)) (iV bs)) 64≠bs.length)||(decide (4194304<bs.length)||!allEq aFK.same (dI (lP bs) (eT bs (iV bs)) (iV bs)) (eT bs (iV bs)))) from rfl);rw[Hc.out,c1.out,Hn.out]at dC;have b0:=hid dC;have gN:=GD (size:=(sz:Int)) (L:=eT bs m) (by omega) (by omega) (fun x hx=>rG (eS.out x hx)) (by rw[cX.out];omega) m;have iM:0<=upZ (bX sz (eT bs m) m) 64/\upZ (bX sz (eT bs m) m) 64<=1000000000:=by
     unfold upZ;generalize bX (sz:Int) (eT bs m) m=a at *
     omega
    have eO:=hid (fun A7 c7 w7 (ho:w7.ownsRow wr.heap.size 101 9 (.slice A7 m c7) m (bB (eT bs m))) (hz:wr.heap.size<=w7.heap.size)=>aBP (sz:Int) m c7 wr.heap.size (eT bs m) A7 w7 (mS bs m) (by omega) (fun x hx=>rG (eS.out x hx)) (by omega) (by omega) ho hz);have HEq:=hid (fun A7 c7 w8 (gZ:Row w8 w8.heap.size A7 (bB (dI sz (eT bs m) m))) (g0:Row w8 w8.heap.size Ad (bB (eT bs m)))=>JY (dI sz (eT bs m) m) (eT bs m) A7 Ad m c7 cd w8 (by rw[mC,mS]) (mS bs m) (by omega) gZ g0);have f4:=hid (Row.of_own a2.out);generalize upZ (bX (sz:Int) (eT bs m) m) 64=U at *
    obtain⟨q,hq⟩:∃ q,allEq aFK.same (dI sz (eT bs m) m) (eT bs m)=q:=⟨_,rfl⟩;rw[hq]at b0 HEq;have fV:=hid (fun (h:Ad=none)=>(c9 h).2);have f6:=hid eV;clear hq dC gN c9 eV;go_wp2_with (go_at_call 101;fail)
    refine eE.out.mono ?_;rintro e w7 ⟨A7,c7,rfl,iB,iC,iE,e8,dF⟩;have eN:=hid (eO.out A7 c7 w7 e8 dF.size);have B7:=hid dF;clear e8 dF xq eE eO;go_wp2_with (go_at_call 94;fail)
    refine eN.out.mono ?_;rintro e w8 ⟨rfl,e9,eY⟩;have B8:=hid (B7.out.trans eY);have R8:=hid (Row.of_own e9);have D8:=hid (f4.out.later B8.out);have X8:=hid (Hx.out.below B8.out Hx.out.lt);have E8:=hid (HEq.out A7 c7 w8 R8.out D8.out);clear e9 eY eN HEq;have g2:¬ (4194304:Int)<(J:Int):=by omega
    by_cases p1:U=(J:Int)
    rotate_left
    ·have g1:(U != (J:Int))=true:=by rw[aHk];exact p1
     have G:fB bs=12:=by rw[bK.out,b0.out,aGs (show U≠(J:Int) from p1)];rfl
     go_wp2;refine aGk (aGN results54 _ _ _) rfl ?_;exact .inl ⟨by rw[G];decide,by rw[G];rfl,aC a7.out B8.out⟩
    subst p1;have g3:((J:Int) != (J:Int))=false:=by simp
    have xq:=aH X8.out 2;go_wp2_with (go_at_call 102;fail)
    refine E8.out.mono ?_;rintro e w9 ⟨rfl,eZ⟩;have B9:=hid eZ;clear eZ xq E8;have hF:decide ((J:Int)≠(J:Int))=false:=by simp
    have b7:decide (4194304<J)=false:=aGm (by omega);cases q with
    | false =>
     have G:fB bs=12:=by rw[bK.out,b0.out,hF,b7];rfl
     clear hF b7;go_wp2;refine aGk (aGN results54 _ _ _) rfl ?_;exact .inl ⟨by rw[G];decide,by rw[G];rfl,aC (aC a7.out B8.out) B9.out⟩
    | true =>
     have G:fB bs=0:=by rw[bK.out,b0.out,hF,b7];rfl
     clear hF b7;have X9:=hid (X8.out.below B9.out X8.out.lt);have D9:=hid (D8.out.later B9.out);have I9:=hid (RI.out.later (((a1.out.trans (B8.out.mono a1.out.size))).trans (B9.out.mono (by have:=a1.out.size;have:=B8.out.size;omega))));go_wp2;refine aGk (aGN results54 _ _ _) rfl ?_;refine .inr ⟨G,w2.heap.size,rfl,B2.out.size,⟨Ai,ci,Ad,cd,?_,I9.out,?_,?_,gQ,?_,gJ,gS,?_⟩,aC (aC a7.out B8.out) B9.out⟩
     ·rw[Hn.out,Hc.out,cX.out,c1.out];exact X9.out
     ·rw[Hc.out];exact D9.out
     ·rw[Hn.out];exact gP
     ·rw[Hc.out,cX.out];exact f6.out
     ·exact fV.out
end Go.Proofs.YtbpgfkjhclpbdaaGreatDoor
