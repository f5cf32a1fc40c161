/- WrB, WrC, WrD, WrE, RdP, RdA, RdB, RtA, RtB. Conditions: as each theorem states. -/
import Derived.Laws.CopyOwn
import Derived.Deep.OwnRows
import Derived.Test.YtbpgfkjhclpbdaaGreatDoorPw19
import Derived.Test.YtbpgfkjhclpbdaaGreatDoorPw28
set_option maxRecDepth 100000
set_option maxHeartbeats 16000000
namespace Go.Proofs.YtbpgfkjhclpbdaaGreatDoor
open Tryz
open Go.Lib (hid)
section
open Go.RowKit
def nH(v:Int)(k:Nat):Bool:=decide (cG v<=k)
theorem aBj(v:Int):nH v 0=decide (v=0):=by
 unfold nH cG;rw[aH9,aGy,aGy];split
 ·rename_i h;simp[h]
 ·rename_i h;simp[h]
theorem zV(v:Int)(k:Nat):nH v (k+1)=(decide (-(2 ^ k)<=v)&&decide (v<2 ^ k)):=by
 have e:(2:Int) ^ k=((2 ^ k:Nat):Int):=by rw[Int.natCast_pow];rfl
 unfold nH;rw[aH9,aGy,aGu,aGy,aGy,e];exact⟨fun h=>qS h,fun h=>kY h.1 h.2⟩
theorem sU(v:Int)(k:Nat)(w:World)(hk:k<=57):
  Calls prog 157 #[.int .i64 v,.int .i64 k] w fun e w'=>e=.returned (.bool (nH v k))/\w=w':=by
 cases k with
 | zero =>
  rw[aBj];have W:((0:Nat):Int)<=0:=by omega
  by_cases h:v=0
  ·have z:(v == 0)=true:=aIl.2 h;go_enter func157,ntmps157;go_wp2
   go_ret
   exact⟨dU (by rw[h];rfl),rfl⟩
  ·have z:(v == 0)=false:=aG8.2 h;have H:=hid (aGm h);clear h;go_enter func157,ntmps157;go_wp2
   go_ret
   exact⟨dU H.out.symm,rfl⟩
 | succ k =>
  have d:=hid (zV v k);have U:(2:Int) ^ k<=2 ^ 56:=by
   rw[show (2:Int) ^ k=((2 ^ k:Nat):Int) by rw[Int.natCast_pow];rfl];exact aID.2 (aHR (by decide) (by omega))
  have V:(0:Int)<2 ^ k:=aHP (by decide);have G:IntKind.i64.wrap (-1*2 ^ k) = -(2 ^ k):=by rw[Int.neg_one_mul];exact aGl _ (by omega)
  have I:IntKind.i64.wrap (1*2 ^ k)=2 ^ k:=by rw[Int.one_mul];exact aGl _ (by omega)
  have J:IntKind.i64.wrap (-(2 ^ k)) = -(2 ^ k):=aGl _ (by omega);have O:IntKind.i64.wrap (2 ^ k)=2 ^ k:=aGl _ (by omega);obtain⟨P,F⟩:∃ P:Int,(2:Int) ^ k=P:=⟨_,rfl⟩;have W:¬ (((k+1:Nat):Int)<=0):=by omega
  have z:decide ((63:Int)<((k+1:Nat):Int))=false:=aGm (by omega);have t3:((k+1:Nat):Int)-1=(k:Int):=by omega
  have t4:(0:Int)<=(k:Int):=by omega
  have t5:(k:Int)<=64:=by omega
  rw[F]at d G I J O U V;generalize Z:((k+1:Nat):Int)=K at *
  have t6:¬ (63<K):=by omega
  have t7:¬ (K<=0):=by omega
  by_cases h1:-P<=v
  ·have t:decide (-P<=v)=true:=aGs h1;go_enter func157,ntmps157;go_wp2
   go_ret
   exact⟨dU (by rw[d.out,t];simp),rfl⟩
  ·have t:decide (-P<=v)=false:=aGm h1;go_enter func157,ntmps157;go_wp2
   go_ret
   exact⟨dU (by rw[d.out,t];simp),rfl⟩
theorem aCg(v:Int){k:Nat}(hk:k<=57):bits .and .u64 (IntKind.u64.wrap v) (2 ^ k-1)=(qP v k:Int):=by
 rw[aIo,bits_mask .u64 64 (by decide) wraps_u64 k (by omega) (v % 18446744073709551616) (by omega) (by omega)];have d:(2:Int) ^ k ∣ 18446744073709551616:=by
  refine⟨2 ^ (64-k),?_⟩;rw[<-Int.pow_add,show k+(64-k)=64 by omega];rfl
 rw[Int.emod_emod_of_dvd _ d];have h:(0:Int)<2 ^ k:=aHP (by decide);unfold qP;rw[aHT (aJI _ (by omega))]
theorem EN(g:Nat)(v:Int)(k:Nat)(L:List Nat)(w:World)(hk:k<=57)(h:nH v k=true)(hL:L.length+k<=100000)(t:WrAt w g L):
  Calls prog 214 #[.pointer (some ⟨g,0,none⟩),.int .i64 v,.int .i64 k] w fun e w'=>e=.returned (.tuple #[])/\WrAt w' g (L++cR (qP v k) k)/\Keeps g w w'/\Below g w w':=by
 have d:=hid (fun W=>sU v k W hk);rw[h]at d;have z:=hid (qX g (qP v k) k L w hk (aAC v k) hL t);have t1:decide ((k:Int)<0)=false:=aGm (by omega);have t2:decide ((57:Int)<(k:Int))=false:=aGm (by omega);have t0:(0:Int)<=(k:Int):=by omega
 have t3:(k:Int)<=64:=by omega
 have hA:=aCg v hk;have V:(2:Int) ^ k<=2 ^ 57:=by
  rw[show (2:Int) ^ k=((2 ^ k:Nat):Int) by rw[Int.natCast_pow];rfl];exact aID.2 (aHR (by decide) (by omega))
 have Z:(0:Int)<2 ^ k:=aHP (by decide);have I:IntKind.u64.wrap (1*2 ^ k)=2 ^ k:=by rw[Int.one_mul,aIo];omega
 have J:IntKind.u64.wrap (2 ^ k-1)=2 ^ k-1:=by rw[aIo];omega
 have O:IntKind.u64.wrap (2 ^ k)=2 ^ k:=by rw[aIo];omega
 obtain⟨U,F⟩:∃ U:Int,(2:Int) ^ k=U:=⟨_,rfl⟩;rw[F]at hA I J O V Z;clear t h;go_enter func214,ntmps214;go_wp2_with (first|(go_at_call 157;refine (d.out _).mono ?_;rintro e w1 ⟨rfl,rfl⟩)|(go_at_call 213;fail))
 refine z.out.mono ?_;rintro e w1 ⟨rfl,hW,G,hb⟩;go_wp2;refine aHN (v:=.tuple #[]) (aHJ results214 _ _ _) rfl ?_;exact⟨rfl,hW,G,hb⟩
theorem V7(g size:Nat)(L:List Nat)(w:World)(h0:0<L.length)(Z:(L.length+7) / 8<=size)(h1:size<=100000)(hL:L.length<=100000)(hw:WrAt w g L):
  Calls prog 215 #[.pointer (some ⟨g,0,none⟩),.int .i64 size] w fun e w'=>e=.returned (.tuple #[.slice (some ⟨w.heap.size,0,none⟩) size size,.int .i64 0]) /\
   w'=w.alloc (.cells (u8s (jL L++List.replicate (size-(L.length+7) / 8) 0)).toArray 5):=by
 obtain⟨_,s,d,z⟩:=hw;obtain⟨t,U,rfl,_,aE⟩:=z.form (by omega);have hf:u8s (jL L++List.replicate (size-(L.length+7) / 8) 0)=u8s (jL L)++List.replicate (size-(L.length+7) / 8) (.int .u8 0):=by
  unfold u8s;rw[aG2,aJm];rfl
 rw[hf];have O:(u8s (jL L)).length=(L.length+7) / 8:=by rw[jW,iS]
 have h8:=rY (jL L);obtain⟨n,W⟩:∃ n,(L.length+7) / 8=n:=⟨_,rfl⟩;rw[W]at Z z d O ⊢;have c0:w.cell? ⟨g,0,none⟩=some (.slice (some ⟨t,0,none⟩) n U):=aGo w g 0 _ _ _ d;have c2:w.cell? ⟨g,2,none⟩=some (.int .i64 0):=aGo w g 2 _ _ _ d;have aF:=hid (fun (j:Nat) (v:Value) (F:(u8s (jL L))[j]? = some v) (o:Obj)=>(show (w.alloc o).cell? ((⟨t,0,none⟩:Addr).add j)=some v by
  rw[show (⟨t,0,none⟩:Addr).add j=⟨t,0+j,none⟩ by unfold Addr.add;split <;> simp_all];refine b8 ?_ o;rw[aGn,z.cellAt j (by have:=(aGi.1 F).1;omega)];exact F))
 have Hg:=hid d;have gz:=hlt d;generalize u8s (jL L)=ps at *
 have t1:¬ ((size:Int)<0):=by omega
 have t2:¬ ((size:Int)<(n:Int)):=by omega
 have aO:0<n:=by omega
 obtain⟨i0,hi,aH,aA,aI⟩:∃ i,prog.info? 5=some i/\i.zero=some (.int .u8 0)/\i.size=1/\i.bytes=1:=by
  have:=tF;cases h:prog.info? 5 with
  | none=>rw[h]at this;cases this
  | some i=>rw[h]at this;simp at this;exact⟨i,rfl,this.1,this.2.1,this.2.2⟩
 have J:=hid (show (madeCells #[Value.int .u8 0] size).toList=List.replicate size (.int .u8 0) from aJf _ _);obtain⟨G,V⟩:∃ G,madeCells #[Value.int .u8 0] size=G:=⟨_,rfl⟩;rw[V]at J;have I:=hid O;have aN:=b8 c0 (.cells G 5);clear z d W h0 O hf aE;go_enter func215,ntmps215;go_wp2_with (first|(refine wpList_make_row w rfl (.tmp 28) (.tmp 28) 32 rfl 5 i0 (.int .u8 0) underlying32 hi aH aA rfl .i64 .i64 size rfl rfl (by rw[aI];omega) (by omega) ?_;rw[V])|(refine wpList_copy_own rfl (.tmp 30) (.tmp 34) 32 32 rfl 5 underlying32 (by rw[hi];simp[aA]) w.heap.size 0 size size ⟨t,0,none⟩ n U rfl rfl G 5 (LT w _) ps (by rw[I.out];exact (aHM Z).symm) (fun j v F=>aF.out j v F _) (by rw[I.out,<-Array.length_toList,J.out,aHQ];omega) h8 ?_;rw[aGT]))
 refine aGk (aGN results215 _ _ _) rfl ?_;refine⟨rfl,?_⟩;rw[J.out,I.out,List.drop_replicate]
end
section
open Go.RowKit
def TonesR(ts:List aFP):Prop:=(∀ t∈ts,0<=t.idx/\t.idx<16/\-8388608<=t.val/\t.val<8388608)/\ts.Pairwise fun x y=>x.idx<y.idx
theorem N8{v:Int}(h1:-8388608<=v)(h2:v<8388608):nH v 24=true:=by
 rw[zV,aGs (show -(2 ^ 23)<=v by omega),aGs (show v<2 ^ 23 by omega)];rfl
theorem J0(ts:List aFP)(A:Option Addr)(c:Nat)(w:World)(hr:Row w w.heap.size A (aV ts))(ht:TonesR ts)(hl:ts.length<=2):
  Calls prog 155 #[.slice A ts.length c] w fun e w'=>e=.returned (.bool true)/\Below w.heap.size w w':=by
 obtain⟨n,hn⟩:∃ n,ts.length=n:=⟨_,rfl⟩;have Hr:=hid hr;have aX:=hid ht.1;have aW:=hid ht.2;rw[hn]at hl ⊢;have Hn:=hid hn;clear hr ht hn;go_enter func155,ntmps155;go_wp2;go_loopw [7] (fun i wr=>∃ m:Nat,m<=n/\i=.int .i64 m/\Below w.heap.size w wr) (fun i _=>n-(intOf i).toNat)
 case atStart=>exact⟨0,by omega,rfl,aGj _ _⟩
 case round =>
  obtain⟨m,hm,rfl,aK⟩:=hrel;have O:=hid aK;clear aK
  by_cases a0:m<n
  ·obtain⟨t,ht⟩:=aE (k:=m) Hn.out a0;have a4:=aX.out t (aGh ht);obtain⟨g,off,hA,hg,G,U⟩:=oK Hr.out ht;have c0:=(O.out.cell (p:=⟨g,off+m*2,none⟩) hg).trans G;have c1:=(O.out.cell (p:=⟨g,off+m*2+1,none⟩) hg).trans U;have HP:=hid (fun (j:Nat) (u:aFP) (hj:m=j+1) (d:ts[j]? = some u)=>(show u.idx<t.idx by
    obtain⟨h1,Z⟩:=aGi.1 d;obtain⟨h2,e2⟩:=aGi.1 ht;have:=aIt.1 aW.out j m h1 h2 (by omega)
    rwa [Z,e2]at this))
   subst hA;have aT:=hid (fun (j:Nat) (u:aFP) (d:ts[j]? = some u)=>(show ∃ b o,some (⟨g,off,none⟩:Addr)=some ⟨b,o,none⟩/\b<w.heap.size/\w.cell? ⟨b,o+j*2,none⟩=some (.int .i64 u.idx)/\w.cell? ⟨b,o+j*2+1,none⟩=some (.int .i64 u.val) from oK Hr.out d));obtain⟨h,I⟩:=t;obtain⟨v1,v2,v3,v4⟩:=a4;simp only at c0 c1 v1 v2 v3 v4 HP;clear ht G U;have HF:=hid (show ∀ W,Calls prog 157 #[.int .i64 I,.int .i64 24] W fun e w'=>e=.returned (.bool true)/\W=w' from fun W=>(sU I 24 W (by omega)).mono fun e w' ⟨he,hw⟩=>⟨by rw[he,N8 v3 v4],hw⟩);have t1:(m:Int)<(n:Int):=by omega
   have t2:decide (h<0)=false:=aGm (by omega);have t3:decide ((16:Int)<=h)=false:=aGm (by omega);have aY:=Blk.new wr 156 [.int .i64 h,.int .i64 I];have aO:=iX aY;have J:=hid (aC O.out (aP wr (.cells #[.int .i64 h,.int .i64 I] 156)))
   by_cases aM:0<m
   ·obtain⟨j,rfl⟩:∃ j,m=j+1:=⟨m-1,by omega⟩;obtain⟨u,d⟩:=aE (k:=j) Hn.out (by omega);have a1:=HP.out j u rfl d;obtain⟨b,o,hA,hb,G,U⟩:=aT.out j u d;injection hA with hA
    injection hA with Z e2
    subst Z e2;have hk:=fun (x:GW (wr.alloc (.cells #[.int .i64 h,.int .i64 I] 156)))=>(show x.1.cell? ⟨g,off+j*2,none⟩=some (.int .i64 u.idx) from (J.out.trans (x.2.mono J.out.size)).cell (p:=⟨g,off+j*2,none⟩) hb |>.trans G)
    obtain⟨ui,uv⟩:=u;simp only at hk a1;have t4:decide ((0:Int)<((j+1:Nat):Int))=true:=aGs (by omega);have t5:decide (h<=ui)=false:=aGm (by omega);have t6:((j+1:Nat):Int)-1=(j:Int):=by omega
    have t7:(j:Int)<(n:Int):=by omega
    have t8:(0:Int)<=(j:Int):=by omega
    have t9:(0:Int)<(j:Int)+1:=by omega
    clear d G U aM;go_wp2_with fail
    refine aU (by kernel_rfl) (by kernel_rfl) ?_
    repeat (go_big_quiet_step ((go_at_call 157;exact dA (HF.out _))))
    refine aGv ?_;intro w5 F;have z:=aQ F;have V:=hid (aC J.out z);clear F z aO hk;go_wp2;go_roundw
    case rel=>exact⟨j+1+1,by omega,by go_num,V.out⟩
    case measure=>simp[intOf];omega
   ·have a2:m=0:=by omega
    subst a2;simp only[aIk,Nat.add_zero]at c0 c1;have t4:decide ((0:Int)<((0:Nat):Int))=false:=aGm (by omega);clear aM;go_wp2_with fail
    refine aU (by kernel_rfl) (by kernel_rfl) ?_
    repeat (go_big_quiet_step ((go_at_call 157;exact dA (HF.out _))))
    refine aGv ?_;intro w5 F;have z:=aQ F;have V:=hid (aC J.out z);clear F z aO;go_wp2;go_roundw
    case rel=>exact⟨0+1,by omega,by go_num,V.out⟩
    case measure=>simp[intOf];omega
  ·have a3:m=n:=by omega
   subst a3;have t1:¬ ((m:Int)<(m:Int)):=by omega
   have t2:decide ((m:Int)<=2)=true:=aGs (by omega);go_wp2
   go_ret
   exact⟨rfl,O.out⟩
end
section
open Go.RowKit
theorem aFQ.fits{f:aFJ}(h:aFQ f){k:Nat}(hk:k<16):nH (bgt f.q k) (bgt f.width (k / 4)).toNat=true:=by
 unfold nH;have:=h.q k hk;exact aGs (by omega)
theorem OB{g:List Int}(h:g.length=4/\∀ i,i<4->0<=bgt g i/\bgt g i<=3):iW g=true:=by
 unfold iW;rw[aGD];intro x d;obtain⟨i,hi,rfl⟩:=aHz.1 d;have:=h.2 i (by have:=h.1;omega);rw[aD (TT hi)]at this;unfold inB;rw[aGs this.1,aGs this.2];rfl
theorem aCG(f:aFJ)(A:Option Addr)(c:Nat)(w:World)(h:aFQ f)(hr:Row w w.heap.size A (aV f.tones)):
  Calls prog 117 #[.agg (aZ f (.slice A f.tones.length c))] w fun e w'=>e=.returned (.bool true)/\Below w.heap.size w w':=by
 have HG:=hid (fun W=>pG f.gains W h.gains.1);rw[OB h.gains]at HG;have HT:=hid (fun W (hW:Below w.heap.size w W)=>J0 f.tones A c W (hr.later hW) ⟨h.tidx,h.tinc⟩ h.tlen);have HS:=hid (fun W=>kD f.scale W h.scale.1);rw[h.scale.ok]at HS;have d:=h.len;have bE:=hid (fun k (hk:k<16)=>h.fits hk);have bF:=hid h.width;have t:=hid (fun (W:World) (g:Nat) hg=>eI (w:=W) (g:=g) d (tv:=.slice A f.tones.length c) hg);have a0:(f.gains.map (Value.int .i64)).length=4:=by simp[d.g]
 have z:(f.scale.map (Value.int .i64)).length=4:=by simp[d.s]
 have a2:(f.width.map (Value.int .i64)).length=4:=by simp[d.w]
 obtain⟨gg,ts,sc,wd,q⟩:=f;simp only at *
 have aS:=hid d.q;have aT:=hid d.w;simp only at aS aT;have a8:=hid (fun (k:Nat) (x:Int) (h:wd[k]? = some x)=>fG h);have a7:=hid (fun (k:Nat) (x:Int) (h:q[k]? = some x)=>(show (q.map (Value.int .i64))[k]? = some (.int .i64 x) by rw[aF5,h];rfl));generalize ts.length=n at *
 generalize aZ ⟨gg,ts,sc,wd,q⟩ (.slice A n c)=fc at *
 unfold aR at *
 generalize bN:gg.map (Value.int .i64)=gv at *
 generalize bR:sc.map (Value.int .i64)=sv at *
 generalize bS:wd.map (Value.int .i64)=wv at *
 generalize bQ:q.map (Value.int .i64)=qv at *
 have a9:=hid (show (prog.info? 40).map (·.size)=some gv.length by rw[a0];exact b9);have bA:=hid (show (prog.info? 40).map (·.size)=some sv.length by rw[z];exact b9);have bB:=hid (show (prog.info? 40).map (·.size)=some wv.length by rw[a2];exact b9);have I:=hid (LT w (.cells fc 45));have P:=t.out _ _ I.out;have P0:=hid P.1;have P3:=P.2.1;have aK:=hid (aP w (.cells fc 45));clear P hr h bN bR bS bQ a0 z a2 d;go_enter func117,ntmps117;go_wp2_with (first|(go_at_call 154;fail)|(refine aL rfl 40 (.tmp 7) rfl w.heap.size 0 rfl gv _ P0.out underlying40 rfl a9.out ?_))
 refine (HG.out _).mono ?_;rintro e w1 ⟨rfl,U⟩;have J:=hid (aF I.out U);have G:=hid (aC aK.out U);have Q:=t.out _ _ J.out;have p3:=Q.2.1;clear Q U P3 P0 I aK;go_wp2_with (go_at_call 155;fail)
 refine (HT.out _ G.out).mono ?_;rintro e w2 ⟨rfl,Z⟩;have O:=hid (aF J.out Z);have aM:=hid (aC G.out Z);have Q:=t.out _ _ O.out;have Q2:=hid Q.2.2.1;clear Q Z p3 J G;go_wp2_with (first|(go_at_call 156;fail)|(refine aL rfl 40 (.tmp 18) rfl w.heap.size 5 rfl sv _ Q2.out underlying40 rfl bA.out ?_))
 refine (HS.out _).mono ?_;rintro e w3 ⟨rfl,aA⟩;have bC:=hid (aF O.out aA);have a6:=hid (aC aM.out aA);have Q:=t.out _ _ bC.out;have Q3:=hid Q.2.2.2.1;have Q4:=hid Q.2.2.2.2;clear Q aA O aM;go_wp2_with (refine aL rfl 40 (.tmp 23) rfl w.heap.size 9 rfl wv _ Q3.out underlying40 rfl bB.out ?_)
 go_loop [25] (fun i=>∃ m:Nat,m<=4/\i=.int .i64 m) (fun i=>4-(intOf i).toNat)
 case atStart=>exact⟨0,by omega,rfl⟩
 case round =>
  obtain⟨m,hm,rfl⟩:=hrel
  by_cases aG:m<4
  ·have t1:(m:Int)<4:=by omega
   obtain⟨x,F⟩:=aE (k:=m) aT.out aG;have aH:=bF.out m aG;rw[aD F]at aH;obtain⟨W,rfl⟩:=aGF aH.1;have bW:W<=24:=by omega
   have Hx:=hid (aD F);have bX:=cA (P:=prog) underlying40 aG (fun W=>by kernel_rfl) (fun W=>by kernel_rfl) (a8.out _ _ F);have t2:decide ((W:Int)<0)=false:=aGm (by omega);have t3:decide ((24:Int)<(W:Int))=false:=aGm (by omega);have z:=pA w.heap.size 13 ((m:Int)*4) (((m:Int)+1)*4) (m*4) (m*4+4) (by omega) (by omega) (by omega) (by omega) (by omega);rw[show m*4+4-m*4=4 by omega]at z;clear F aH;go_wp2
   go_loop [43] (fun i=>∃ k:Nat,k<=4/\i=.int .i64 k) (fun i=>4-(intOf i).toNat)
   case atStart=>exact⟨0,by omega,rfl⟩
   case round =>
    obtain⟨k,hk,rfl⟩:=hrel
    by_cases bY:k<4
    ·have t4:(k:Int)<4:=by omega
     obtain⟨y,hy⟩:=aE (k:=m*4+k) aS.out (by omega);have ce:=Q4.out _ _ (a7.out _ _ hy);rw[<-Nat.add_assoc]at ce;have aB:=bE.out (m*4+k) (by omega);rw[aD hy,show (m*4+k) / 4=m by omega,Hx.out,Int.toNat_natCast]at aB;have HF:=hid (fun V=>sU y W V (by omega));rw[aB]at HF;clear hy aB;go_wp2_with (go_at_call 157;refine (HF.out _).mono ?_;rintro e w5 ⟨rfl,rfl⟩)
     go_round
     case rel=>exact⟨k+1,by omega,by go_num⟩
     case measure=>simp[intOf];omega
    ·have bO:k=4:=by omega
     subst bO;have t4:¬ (((4:Nat):Int)<4):=by omega
     go_wp2
     go_round
     case rel=>exact⟨m+1,by omega,by go_num⟩
     case measure=>simp[intOf];omega
  ·have bP:m=4:=by omega
   subst bP;have t1:¬ (((4:Nat):Int)<4):=by omega
   go_wp2
   go_ret
   exact⟨rfl,a6.out⟩
end
section
open Go.RowKit
def aM(f:aFJ)(size:Nat):List Nat:=jL (kL f)++List.replicate (size-((kL f).length+7) / 8) 0
def J3(W:World)(f:aFJ)(size:Nat)(e:Ending)(w':World):Prop :=
 ∃ g,e=.returned (.tuple #[.slice (some ⟨g,0,none⟩) size size,.int .i64 0])/\W.heap.size<=g/\w'.heap[g]? = some (.cells (u8s (aM f size)).toArray 5 (0,0))/\Below W.heap.size W w'
theorem qQ{n:Nat}(h:n<1000000):IntKind.u64.wrap (n:Int)=(n:Int):=by rw[aIo];omega
theorem WrAt.alloc{W:World}{g:Nat}{L:List Nat}(h:WrAt W g L)(o:Obj):WrAt (W.alloc o) g L:=by
 obtain⟨h1,v,h2,d⟩:=h;exact⟨h1,v,(aHg _ _ (hlt h2)).trans h2,d.alloc o⟩
theorem WrAt.new(W:World):WrAt (W.alloc (.cells #[.slice none 0 0,.int .i64 0,.int .i64 0] 315)) W.heap.size [] :=
 ⟨fun b hb=>by simp at hb,.slice none 0 0,LT W _,aHc _ _ _ _⟩
theorem wK{w w':World}{g B:Nat}{o:Obj}(h:w.heap[g]? = some o)(hb:Below B w w')(d:g<B):w'.heap[g]? = some o:=(hb.block g d).trans h
theorem aAH(f:aFJ)(A:Option Addr)(c size:Nat)(w:World)(h:aFQ f)(hr:Row w w.heap.size A (aV f.tones))(dK:gH f<=8*(size:Int))(d0:size<=10000):
  Calls prog 178 #[.agg (aZ f (.slice A f.tones.length c)),.int .i64 size] w (J3 w f size):=by
 have HR:=hid (fun W (hW:Below w.heap.size w W)=>aCG f A c W h (hr.later hW));have dD:=wI h;have dE:=SF h;have cQ:=hid (fun (W:World) (g:Nat) (hW:WrAt W g (kL f))=>V7 g size (kL f) W (by
  have:=p7 h;unfold kL;rw[List.length_append];omega) (by omega) (by omega) (by omega) hW)
 have HL:=h.len;have aO:=hid (fun (W:World) (g:Nat) hg=>eI (w:=W) (g:=g) HL (tv:=.slice A f.tones.length c) hg);have b7:(f.gains.map (Value.int .i64)).length=4:=by simp[HL.g]
 have cD:(f.q.map (Value.int .i64)).length=16:=by simp[HL.q]
 have hfz:=fX HL (.slice A f.tones.length c);have dA:=AA h;have dB:=AB h;have b2:=AC h;have b3:=p7 h;have c4:=hid (fun k (hk:k<16)=>h.fits hk);have HT:=hid (fun (m:Nat) (t:aFP) (ht:f.tones[m]? = some t)=>And.intro (oK hr ht) (h.tidx t (List.mem_of_getElem? ht)));have cS:=hid (fun (k:Nat) (x:Int) (d:f.gains[k]? = some x)=>And.intro (fG d) (show 0<=x/\x<=3 by
  have hk:k<4:=by have:=(List.getElem?_eq_some_iff.1 d).1;have:=HL.g;omega
  have:=h.gains.2 k hk
  rwa [aD d]at this))
 have cU:=hid (fun (k:Nat) (x:Int) (d:f.scale[k]? = some x)=>And.intro (show (f.scale.map (Value.int .i64))[k]? = some (.int .i64 x) by rw[List.getElem?_map,d];rfl) (show 0<=x/\x<=23 by
  have hk:k<4:=by have:=(List.getElem?_eq_some_iff.1 d).1;have:=HL.s;omega
  have:=h.scale.2 k hk
  rwa [aD d]at this))
 have bQ:=hid (fun (k:Nat) (x:Int) (d:f.width[k]? = some x)=>And.intro (show (f.width.map (Value.int .i64))[k]? = some (.int .i64 x) by rw[List.getElem?_map,d];rfl) (show 0<=x/\x<=24 by
  have hk:k<4:=by have:=(List.getElem?_eq_some_iff.1 d).1;have:=HL.w;omega
  have:=h.width k hk
  rwa [aD d]at this))
 have cT:=hid (fun (k:Nat) (x:Int) (d:f.q[k]? = some x)=>fG d);have c7:=hid (fun m (hm:m<=16)=>(show j7 f.width m<=1000 by
  have:=vQ f.width (16-m) m;rw[show m+(16-m)=16 by omega,DC]at this;have:=h.width 0 (by omega);have:=h.width 1 (by omega);have:=h.width 2 (by omega);have:=h.width 3 (by omega);omega))
 have dL:=h.tlen;have bU:=hid HL.g;have c6:=hid HL.s;have bW:=hid HL.w;have c5:=hid HL.q;have cY:=hid (show kL f=sI f++lQ f.width f.q 16 from rfl);have cO:=hid (show sI f=sH f++lB f.scale f.width 4 from rfl);have cN:=hid (show sH f=sG f++iY f.tones from rfl);have bO:=hid (show sG f=BW f++cR f.tones.length 2 from rfl);have cM:=hid (show BW f=vC++j3 f.gains from rfl);obtain⟨n,hn⟩:∃ n,f.tones.length=n:=⟨_,rfl⟩;rw[hn]at HR aO hfz b2 b3 dL bO ⊢;have Hn:=hid hn;obtain⟨fc,b6⟩:∃ fc,aZ f (.slice A n c)=fc:=⟨_,rfl⟩;rw[b6]at HR aO hfz ⊢;have cV:=hid (show (prog.info? 45).map (·.size)=some fc.size by rw[hfz];exact bZ);have cW:=hid (show (prog.info? 40).map (·.size)=some (f.gains.map (Value.int .i64)).length by rw[b7];exact b9);have cX:=hid (show (prog.info? 43).map (·.size)=some (f.q.map (Value.int .i64)).length by rw[cD];exact bJ);have z:=hid (LT w (.cells fc 45));have a8:=hid (aP w (.cells fc 45));clear h hr hn b6 hfz b7 cD HL dD dE dK;go_enter func178,ntmps178;go_wp2_with (first|(go_at_call 117;fail)|(refine aB rfl 45 (.tmp 2) rfl w.heap.size rfl _ fc _ _ z.out underlying45 rfl cV.out ?_))
 refine (HR.out _ a8.out).mono ?_;rintro e w1 ⟨rfl,bF⟩;have a1:=hid (aF z.out bF);have a3:=hid (aC a8.out bF);have cF:=hlt a1.out;have bT:=hid (WrAt.new w1);have bR:=hid (aF a1.out (aP w1 (.cells #[.slice none 0 0,.int .i64 0,.int .i64 0] 315)));have bP:=hid (aC a3.out (aP w1 (.cells #[.slice none 0 0,.int .i64 0,.int .i64 0] 315)));have bS:=hid (show Calls prog 213 #[.pointer (some ⟨w1.heap.size,0,none⟩),.int .u64 1,.int .i64 2] _ _ from qX w1.heap.size 1 2 [] _ (by omega) (by decide) (by simp) bT.out);clear bF z a8;go_wp2_with (go_at_call 213;fail)
 refine bS.out.mono ?_;rintro e w2 ⟨rfl,bL,_,a4⟩;obtain⟨G,hG⟩:∃ G,w1.heap.size=G:=⟨_,rfl⟩;rw[hG]at bL a4 cF ⊢;have V:w.heap.size<G:=cF;have aR:=hid (show WrAt w2 G vC from bL);have O:=hid (wK bR.out a4 V);have aG:=hid (bP.out.trans (a4.mono (aHv V)));have P:=aO.out _ _ O.out;have P0:=hid P.1;clear bL a4 P bS bT bR bP a1 a3;go_wp2_with (refine aL rfl 40 (.tmp 21) rfl w.heap.size 0 rfl (f.gains.map (Value.int .i64)) _ P0.out underlying40 rfl cW.out ?_)
 go_loopw [23] (fun i wr=>∃ m:Nat,m<=4/\i=.int .i64 m/\WrAt wr G (vC++j3 (f.gains.take m))/\wr.heap[w.heap.size]? = some (.cells fc 45 (0,0))/\Below w.heap.size w wr) (fun i _=>4-(intOf i).toNat)
 case atStart=>exact⟨0,by omega,rfl,aR.out,O.out,aG.out⟩
 case round =>
  obtain⟨m,hm,rfl,hW,hM,hB⟩:=hrel;have U:=hid hW;have z:=hid hM;have Z:=hid hB;clear hW hM hB aR O aG P0
  by_cases a7:m<4
  ·have t1:(m:Int)<4:=by omega
   obtain⟨x,d⟩:=aE (k:=m) bU.out a7;obtain⟨hc,h0,h3⟩:=cS.out m x d;obtain⟨J,rfl⟩:=aGF h0;have dF:=cA (P:=prog) underlying40 a7 (fun W=>by kernel_rfl) (fun W=>by kernel_rfl) hc;have hu:=qQ (n:=J) (by omega);have HS:=hid (show vC++j3 (f.gains.take (m+1))=vC++j3 (f.gains.take m)++cR J 2 by rw[BV d,Int.toNat_natCast,List.append_assoc]);have HP:=hid (show Calls prog 213 #[.pointer (some ⟨G,0,none⟩),.int .u64 J,.int .i64 2] wr _ from qX G J 2 _ wr (by omega) (by omega) (by
    rw[List.length_append,rF,List.length_take];show (cR 1 2).length+_+_<=_;rw[cJ];omega) U.out)
   clear d hc;go_wp2_with (go_at_call 213;fail)
   refine HP.out.mono ?_;rintro e w3 ⟨rfl,I,_,F⟩;rw[<-HS.out]at I;have aX:=hid I;have O:=hid (wK z.out F V);have aG:=hid (Z.out.trans (F.mono (aHv V)));clear I F;go_wp2;go_roundw
   case rel=>exact⟨m+1,by omega,by go_num,aX.out,O.out,aG.out⟩
   case measure=>simp[intOf];omega
  ·have dI:m=4:=by omega
   subst dI;have t1:¬ (((4:Nat):Int)<4):=by omega
   have aA:=U.out;rw[List.take_of_length_le (by rw[bU.out];exact LE _),<-cM.out]at aA;have HP:=hid (show Calls prog 213 #[.pointer (some ⟨G,0,none⟩),.int .u64 n,.int .i64 2] wr _ from qX G n 2 _ wr (by omega) (by omega) (by rw[dA];omega) aA);have P:=aO.out _ _ z.out;have p4:=P.2.1;have hu:=qQ (n:=n) (by omega);clear aA P U;go_wp2_with (go_at_call 213;fail)
   refine HP.out.mono ?_;rintro e w3 ⟨rfl,I,_,F⟩;rw[<-bO.out]at I;have aX:=hid I;have O:=hid (wK z.out F V);have aG:=hid (Z.out.trans (F.mono (aHv V)));have P:=aO.out _ _ O.out;have p5:=P.2.1;clear I F P p4;go_wp2;clear z Z;go_loopw [40] (fun i wr=>∃ m:Nat,m<=n/\i=.int .i64 m/\WrAt wr G (sG f++iY (f.tones.take m))/\wr.heap[w.heap.size]? = some (.cells fc 45 (0,0))/\Below w.heap.size w wr) (fun i _=>n-(intOf i).toNat)
   case atStart=>exact⟨0,by omega,rfl,by rw[show iY (f.tones.take 0)=[] from rfl,List.append_nil];exact aX.out,O.out,aG.out⟩
   case round =>
    obtain⟨m,hm,rfl,hW,hM,hB⟩:=hrel;have U:=hid hW;have z:=hid hM;have Z:=hid hB;clear hW hM hB aX O aG p5
    by_cases a7:m<n
    ·have t1:(m:Int)<(n:Int):=by omega
     obtain⟨t,ht⟩:=aE (k:=m) Hn.out a7;obtain⟨⟨g,off,hA,hg,k0,k1⟩,v1,v2,v3,v4⟩:=HT.out m t ht;have c0:=(Z.out.cell (p:=⟨g,off+m*2,none⟩) hg).trans k0;have c1:=(Z.out.cell (p:=⟨g,off+m*2+1,none⟩) hg).trans k1;have HS:=hid (show sG f++iY (f.tones.take (m+1))=sG f++iY (f.tones.take m)++cR t.idx.toNat 4++cR (qP t.val 24) 24 by rw[CZ ht,<-List.append_assoc];unfold U4;rw[<-List.append_assoc]);have cC:(sG f++iY (f.tones.take m)).length<=1000:=by rw[List.length_append,rX,List.length_take,dB];omega
     subst hA;obtain⟨ix,vl⟩:=t;simp only at c0 c1 v1 v2 v3 v4 HS;obtain⟨J,rfl⟩:=aGF v1;rw[Int.toNat_natCast]at HS;have hu:=qQ (n:=J) (by omega);have c3:=hid (U.out.alloc (.cells #[.int .i64 (J:Int),.int .i64 vl] 156));have a1:=hid (aF z.out (aP wr (.cells #[.int .i64 (J:Int),.int .i64 vl] 156)));have a3:=hid (aC Z.out (aP wr (.cells #[.int .i64 (J:Int),.int .i64 vl] 156)));have cZ:=hid (LT wr (.cells #[.int .i64 (J:Int),.int .i64 vl] 156));have dX:G<wr.heap.size:=by obtain⟨_,_,hh,_⟩:=U.out;exact hlt hh
     have HP:=hid (show Calls prog 213 #[.pointer (some ⟨G,0,none⟩),.int .u64 J,.int .i64 4] _ _ from qX G J 4 _ _ (by omega) (by omega) (by omega) c3.out);clear ht k0 k1;go_wp2_with (go_at_call 213;fail)
     refine HP.out.mono ?_;rintro e w3 ⟨rfl,I,b8,F⟩;have O:=hid (wK a1.out F V);have aG:=hid (a3.out.trans (F.mono (aHv V)));have n1:=aGo w3 wr.heap.size 1 _ _ _ (b8 _ _ _ _ cZ.out (by decide) (by omega));have bB:=hid (show Calls prog 214 #[.pointer (some ⟨G,0,none⟩),.int .i64 vl,.int .i64 24] w3 _ from EN G vl 24 _ w3 (by omega) (N8 v3 v4) (by rw[List.length_append,cJ];omega) I);clear I b8 F HP c0 c1;go_wp2_with (go_at_call 214;fail)
     refine bB.out.mono ?_;rintro e w4 ⟨rfl,aW,_,aU⟩;rw[<-HS.out]at aW;have bD:=hid aW;have bA:=hid (wK O.out aU V);have a9:=hid (aG.out.trans (aU.mono (aHv V)));clear aW aU n1;go_wp2;go_roundw
     case rel=>exact⟨m+1,by omega,by go_num,bD.out,bA.out,a9.out⟩
     case measure=>simp[intOf];omega
    ·have dZ:m=n:=by omega
     have t1:¬ ((m:Int)<(n:Int)):=by omega
     have aA:=U.out;rw[List.take_of_length_le (by rw[Hn.out];omega),<-cN.out]at aA;have aR:=hid aA;clear aA U;go_wp2;go_loopw [54] (fun i wr=>∃ m:Nat,m<=4/\i=.int .i64 m/\WrAt wr G (sH f++lB f.scale f.width m)/\wr.heap[w.heap.size]? = some (.cells fc 45 (0,0))/\Below w.heap.size w wr) (fun i _=>4-(intOf i).toNat)
     case atStart=>exact⟨0,by omega,rfl,by rw[show lB f.scale f.width 0=[] from rfl,List.append_nil];exact aR.out,z.out,Z.out⟩
     case round =>
      obtain⟨k,hk,rfl,hW,hM,hB⟩:=hrel;have U:=hid hW;have z:=hid hM;have Z:=hid hB;clear hW hM hB aR
      by_cases cB:k<4
      ·have t2:(k:Int)<4:=by omega
       obtain⟨x,d⟩:=aE (k:=k) c6.out cB;obtain⟨y,hy⟩:=aE (k:=k) bW.out cB;obtain⟨b5,x0,x1⟩:=cU.out k x d;obtain⟨a2,y0,y1⟩:=bQ.out k y hy;obtain⟨J,rfl⟩:=aGF x0;obtain⟨yn,rfl⟩:=aGF y0;have HS:=hid (show sH f++lB f.scale f.width (k+1)=sH f++lB f.scale f.width k++cR J 5++cR yn 5 by rw[oR,<-List.append_assoc];unfold QO;rw[aD d,aD hy,Int.toNat_natCast,Int.toNat_natCast,<-List.append_assoc]);have cC:(sH f++lB f.scale f.width k).length<=1000:=by rw[List.length_append,qZ,b2];omega
       have P:=aO.out _ _ z.out;have cx:=P.2.2.1 k _ b5;have d1:=qQ (n:=J) (by omega);have d2:=qQ (n:=yn) (by omega);have HP:=hid (show Calls prog 213 #[.pointer (some ⟨G,0,none⟩),.int .u64 J,.int .i64 5] _ _ from qX G J 5 _ _ (by omega) (by omega) (by omega) U.out);clear P d hy b5;go_wp2_with (go_at_call 213;fail)
       refine HP.out.mono ?_;rintro e w3 ⟨rfl,I,_,F⟩;have O:=hid (wK z.out F V);have aG:=hid (Z.out.trans (F.mono (aHv V)));have P:=aO.out _ _ O.out;have cy:=P.2.2.2.1 k _ a2;have bB:=hid (show Calls prog 213 #[.pointer (some ⟨G,0,none⟩),.int .u64 yn,.int .i64 5] w3 _ from qX G yn 5 _ w3 (by omega) (by omega) (by rw[List.length_append,cJ];omega) I);clear I F HP P cx a2;go_wp2_with (go_at_call 213;fail)
       refine bB.out.mono ?_;rintro e w4 ⟨rfl,aW,_,aU⟩;rw[<-HS.out]at aW;have bD:=hid aW;have bA:=hid (wK O.out aU V);have a9:=hid (aG.out.trans (aU.mono (aHv V)));clear aW aU cy;go_wp2;go_roundw
       case rel=>exact⟨k+1,by omega,by go_num,bD.out,bA.out,a9.out⟩
       case measure=>simp[intOf];omega
      ·have dH:k=4:=by omega
       subst dH;have t2:¬ (((4:Nat):Int)<4):=by omega
       have aA:=U.out;rw[<-cO.out]at aA;have aR:=hid aA;have P:=aO.out _ _ z.out;have P4:=hid P.2.2.2.2;clear aA U P;go_wp2_with (refine aL rfl 43 (.tmp 72) rfl w.heap.size 13 rfl (f.q.map (Value.int .i64)) _ P4.out underlying43 rfl cX.out ?_)
       go_loopw [74] (fun i wr=>∃ m:Nat,m<=16/\i=.int .i64 m/\WrAt wr G (sI f++lQ f.width f.q m)/\wr.heap[w.heap.size]? = some (.cells fc 45 (0,0))/\Below w.heap.size w wr) (fun i _=>16-(intOf i).toNat)
       case atStart=>exact⟨0,by omega,rfl,by rw[show lQ f.width f.q 0=[] from rfl,List.append_nil];exact aR.out,z.out,Z.out⟩
       case round =>
        obtain⟨j,hj,rfl,hW,hM,hB⟩:=hrel;have U:=hid hW;have z:=hid hM;have Z:=hid hB;clear hW hM hB aR P4
        by_cases a6:j<16
        ·have t3:(j:Int)<16:=by omega
         obtain⟨x,d⟩:=aE (k:=j) c5.out a6;obtain⟨q,hq⟩:∃ q,j / 4=q:=⟨_,rfl⟩;have dJ:q<4:=by omega
         obtain⟨y,hy⟩:=aE (k:=q) bW.out dJ;obtain⟨a2,y0,y1⟩:=bQ.out q y hy;obtain⟨yn,rfl⟩:=aGF y0;have cP:=hid (show ∀ W,Calls prog 115 #[.int .i64 j] W fun e w'=>e=.returned (.int .i64 (q:Int))/\W=w' from fun W=>(pJ j W a6).mono fun e w' ⟨he,hw⟩=>⟨he.trans (cL (by omega)),hw⟩);have bG:=c4.out j a6;rw[aD d,hq,aD hy,Int.toNat_natCast]at bG;have HS:=hid (show sI f++lQ f.width f.q (j+1)=sI f++lQ f.width f.q j++cR (qP x yn) yn by rw[pB,<-List.append_assoc];unfold UV;rw[aD d,hq,aD hy,Int.toNat_natCast]);have cC:(sI f++lQ f.width f.q j).length<=2000:=by rw[List.length_append,oJ,b3];have:=c7.out j (by omega);omega
         have dF:=cA (P:=prog) underlying43 a6 (fun W=>by kernel_rfl) (fun W=>by kernel_rfl) (cT.out _ _ d);have P:=aO.out _ _ z.out;have cy:=P.2.2.2.1 q _ a2;have t4:(q:Int)<4:=by omega
         have t5:(0:Int)<=(q:Int):=by omega
         have HP:=hid (EN G x yn _ wr (by omega) bG (by omega) U.out);clear P d hy a2 bG hq;go_wp2_with (first|(go_at_call 115;refine (cP.out _).mono ?_;rintro e w5 ⟨rfl,rfl⟩)|(go_at_call 214;fail))
         refine HP.out.mono ?_;rintro e w3 ⟨rfl,I,_,F⟩;rw[<-HS.out]at I;have aX:=hid I;have O:=hid (wK z.out F V);have aG:=hid (Z.out.trans (F.mono (aHv V)));clear I F cy;go_wp2;go_roundw
         case rel=>exact⟨j+1,by omega,by go_num,aX.out,O.out,aG.out⟩
         case measure=>simp[intOf];omega
        ·have dG:j=16:=by omega
         subst dG;have t3:¬ (((16:Nat):Int)<16):=by omega
         have aA:=U.out;rw[<-cY.out]at aA;have HP:=hid (cQ.out wr G aA);clear aA U;go_wp2_with (go_at_call 215;fail)
         refine HP.out.mono ?_;rintro e w3 ⟨rfl,rfl⟩;go_wp2;refine aGk (aGN results178 _ _ _) rfl ?_;exact⟨wr.heap.size,rfl,Z.out.size,LT wr _,aC Z.out (aP wr _)⟩
end
structure RdS where
 at_:Nat
 er:Int
def tA(B:List Nat)(i k:Nat):List Nat:=(List.range k).map fun j=>sD B (i+j)
def eV(B:List Nat)(s:RdS)(k:Nat):Nat:=if s.er≠0\/8*B.length<s.at_+k then 0 else AZ (tA B s.at_ k)
def dC(B:List Nat)(s:RdS)(k:Nat):RdS:=if s.er≠0 then s else if 8*B.length<s.at_+k then ⟨s.at_,2⟩ else ⟨s.at_+k,0⟩
def nW(s:RdS)(e:Int):RdS:=if s.er=0 then ⟨s.at_,e⟩ else s
def IQ(B:List Nat)(s:RdS)(k:Nat):Int:=if (dC B s k).er≠0\/k=0 then 0 else if eV B s k / 2 ^ (k-1)=1 then (eV B s k:Int)-2 ^ k else eV B s k
theorem aCQ(B:List Nat)(i:Nat):sD B i<=1:=by unfold sD;omega
theorem RJ(B:List Nat)(i k:Nat):(tA B i k).length=k:=by simp[tA]
theorem RH(B:List Nat)(i k:Nat):Bin (tA B i k):=fun b hb=>by
 unfold tA at hb;obtain⟨j,_,rfl⟩:=aGq.1 hb;exact aCQ _ _
theorem aA4(B:List Nat)(i k:Nat):tA B i (k+1)=tA B i k++[sD B (i+k)]:=by unfold tA;rw[aH0];simp
theorem rH(B:List Nat)(s:RdS)(k:Nat):eV B s k<2 ^ k:=by
 unfold eV;split
 ·exact aH8 k
 ·exact PN k _ (RJ _ _ _) (RH _ _ _)
def InB(B:List Nat)(s:RdS):Prop:=s.at_<=8*B.length
theorem kB{B:List Nat}{s:RdS}(h:InB B s)(k:Nat):InB B (dC B s k):=by
 unfold InB at *
 unfold dC;split
 ·exact h
 ·split
  ·exact h
  ·show s.at_+k<=_;omega
theorem RU{B:List Nat}{s:RdS}(h:InB B s)(e:Int):InB B (nW s e):=by
 unfold nW;split
 ·exact h
 ·exact h
/-! What is read of a frame. -/
def rd0(B:List Nat):RdS:=if eV B ⟨0,0⟩ 2=1 then dC B ⟨0,0⟩ 2 else nW (dC B ⟨0,0⟩ 2) 4
def gSt(B:List Nat):Nat->RdS
 | 0=>rd0 B
 | m+1=>dC B (gSt B m) 2
def gRd(B:List Nat)(m:Nat):List Int:=(List.range 4).map fun i=>if i<m then (eV B (gSt B i) 2:Int) else 0
def Q5(B:List Nat):Nat:=eV B (gSt B 4) 2
def tSt(B:List Nat):Nat->RdS
 | 0=>dC B (gSt B 4) 2
 | m+1=>dC B (dC B (tSt B m) 4) 24
def aAA(B:List Nat)(i:Nat):aFP:=⟨eV B (tSt B i) 4,IQ B (dC B (tSt B i) 4) 24⟩
def tRd(B:List Nat)(m:Nat):List aFP:=(List.range m).map (aAA B)
def bSt(B:List Nat):Nat->RdS
 | 0=>tSt B (Q5 B)
 | m+1=>if 23<eV B (bSt B m) 5\/24<eV B (dC B (bSt B m) 5) 5 then nW (dC B (dC B (bSt B m) 5) 5) 4 else dC B (dC B (bSt B m) 5) 5
def sOf(B:List Nat)(i:Nat):Nat:=eV B (bSt B i) 5
def wOf(B:List Nat)(i:Nat):Nat:=eV B (dC B (bSt B i) 5) 5
def sRd(B:List Nat)(m:Nat):List Int:=(List.range 4).map fun i=>if i<m then (sOf B i:Int) else 0
def wRd(B:List Nat)(m:Nat):List Int:=(List.range 4).map fun i=>if i<m then (wOf B i:Int) else 0
def qSt(B:List Nat):Nat->RdS
 | 0=>bSt B 4
 | m+1=>dC B (qSt B m) (wOf B (m / 4))
def qOf(B:List Nat)(i:Nat):Int:=IQ B (qSt B i) (wOf B (i / 4))
def qRd(B:List Nat)(m:Nat):List Int:=(List.range 16).map fun i=>if i<m then qOf B i else 0
def fH(B:List Nat):aFJ:=⟨gRd B 4,tRd B (Q5 B),sRd B 4,wRd B 4,qRd B 16⟩
def FM(B:List Nat)(s:RdS):Nat->RdS
 | 0=>s
 | n+1=>if s.er≠0\/8*B.length<=s.at_ then s else FM B (if eV B s 1=0 then dC B s 1 else nW (dC B s 1) 4) n
def FK(B:List Nat):Int:=(FM B (qSt B 16) (8*B.length)).er
theorem XR(B:List Nat):∀ m,InB B (gSt B m)
 | 0=>by
  show InB B (rd0 B);have d:InB B ⟨0,0⟩:=aG3 _;unfold rd0;split
  ·exact kB d 2
  ·exact RU (kB d 2) 4
 | m+1=>kB (XR B m) 2
theorem ZL(B:List Nat):∀ m,InB B (tSt B m)
 | 0=>kB (XR B 4) 2
 | m+1=>kB (kB (ZL B m) 4) 24
theorem WF(B:List Nat):∀ m,InB B (bSt B m)
 | 0=>ZL B _
 | m+1=>by
  have:=kB (kB (WF B m) 5) 5;unfold bSt;split
  ·exact RU this 4
  ·exact this
theorem aDT(B:List Nat):∀ m,InB B (qSt B m)
 | 0=>WF B 4
 | m+1=>kB (aDT B m) _
theorem oV(B:List Nat)(m:Nat):(gRd B m).length=4:=by simp[gRd]
theorem uP(B:List Nat)(m:Nat):(sRd B m).length=4:=by simp[sRd]
theorem uT(B:List Nat)(m:Nat):(wRd B m).length=4:=by simp[wRd]
theorem DV(B:List Nat)(m:Nat):(qRd B m).length=16:=by simp[qRd]
theorem XQ(B:List Nat):(fH B).Len:=⟨oV _ _,uP _ _,uT _ _,DV _ _⟩
theorem zH{α:Type}(n:Nat)(f g:Nat->α){m:Nat}(hm:m<n):((List.range n).map fun i=>if i<m then f i else g i).set m (f m)=(List.range n).map fun i=>if i<m+1 then f i else g i:=by
 apply aGL;intro i;rw[aHu];simp only[aF7,List.length_range]
 by_cases h:m=i
 ·subst h;rw[FN rfl,FN hm,aI _ hm,FN (by omega)]
 ·rw[sL h];rcases aGt i n with hi|hi
  ·rw[aI _ hi,aI _ hi]
   by_cases h2:i<m
   ·rw[FN h2,FN (by omega)]
   ·rw[sL h2,sL (by omega)]
  ·rw[aGr (by simpa using hi),aGr (by simpa using hi)]
/-! Bits that stand in bytes. -/
def Here(B:List Nat)(i:Nat)(L:List Nat):Prop:=i+L.length<=8*B.length/\∀ j,j<L.length->sD B (i+j)=L.getD j 0
theorem Here.left{B:List Nat}{i:Nat}{a b:List Nat}(h:Here B i (a++b)):Here B i a:=by
 refine⟨by have:=h.1;rw[aGG]at this;omega,fun j d=>?_⟩;rw[h.2 j (by rw[aGG];omega),aGz,aGU d,aGz]
theorem Here.right{B:List Nat}{i:Nat}{a b:List Nat}(h:Here B i (a++b)):Here B (i+a.length) b:=by
 refine⟨by have:=h.1;rw[aGG]at this;omega,fun j d=>?_⟩;rw[aG4,h.2 (a.length+j) (by rw[aGG];omega),aGz,aGP (by omega),aJr,aGz]
theorem Here.cut{B:List Nat}{i:Nat}{L:List Nat}(h:Here B i L):tA B i L.length=L:=by
 apply aGL;intro j;unfold tA;rcases aGt j L.length with d|d
 ·rw[aI _ d,h.2 j d,aGz,TT d];rfl
 ·rw[aGr (by simpa using d),aGr d]
theorem mV{B:List Nat}{i v k:Nat}(F:v<2 ^ k)(h:Here B i (cR v k)):eV B ⟨i,0⟩ k=v/\dC B ⟨i,0⟩ k=⟨i+k,0⟩:=by
 have z:=h.1;rw[cJ]at z;have d:=h.cut;rw[cJ]at d;have t:¬ ((0:Int)≠0):=by simp
 constructor
 ·unfold eV;rw[sL (by simp only[];omega)];show AZ (tA B i k)=v;rw[d,ZT v F]
 ·unfold dC;rw[sL t,sL (by simp only[];omega)]
theorem aD4{v:Int}{k:Nat}(hk:0<k)(h1:-(2 ^ (k-1))<=v)(h2:v<2 ^ (k-1)):(if qP v k / 2 ^ (k-1)=1 then (qP v k:Int)-2 ^ k else qP v k)=v:=by
 obtain⟨n,rfl⟩:∃ n,k=n+1:=⟨k-1,by omega⟩;rw[aIL]at *
 have F:(2:Int) ^ (n+1)=2 ^ n+2 ^ n:=by rw[aI0];omega
 have z:((2 ^ n:Nat):Int)=2 ^ n:=by rw[Int.natCast_pow];rfl
 have t:=aH8 n;rcases aIg v 0 with h|h
 ·have e:=aD3 (k:=n+1) (v:=v) (by omega) h;have d:qP v (n+1) / 2 ^ n=1:=by
   rw[aJZ t];omega
  rw[FN d,e];omega
 ·have e:=aEZ (k:=n+1) (v:=v) h (by omega);have d:¬ qP v (n+1) / 2 ^ n=1:=by
   rw[aI4 (by omega)];omega
  rw[sL d,e]
theorem SV{B:List Nat}{i k:Nat}{v:Int}(F:cG v<=k)(h:Here B i (cR (qP v k) k)):IQ B ⟨i,0⟩ k=v/\dC B ⟨i,0⟩ k=⟨i+k,0⟩:=by
 obtain⟨t,d⟩:=mV (aAC v k) h;refine⟨?_,d⟩;unfold IQ;rw[d,t];rcases aHB k with hk|hk
 ·subst hk;rw[FN (.inr rfl)];have:cG v=0:=by omega
  unfold cG at this;split at this
  ·rename_i z;exact z.symm
  ·omega
 ·rw[sL (by rintro (h|h) <;> first|exact h rfl|omega)];obtain⟨n,rfl⟩:∃ n,k=n+1:=⟨k-1,by omega⟩;have hb:=qS (k:=n) F;have G:((2 ^ n:Nat):Int)=2 ^ n:=by rw[Int.natCast_pow];rfl
  exact aD4 (by omega) (by rw[aIL];omega) (by rw[aIL];omega)
theorem aCn{v:Int}(h1:-8388608<=v)(h2:v<8388608):cG v<=24:=kY (k:=23) (by omega) (by omega)
/-! A frame's bits, read again. -/
theorem SJ(l:List Int)(m:Nat):j3 l=j3 (l.take m)++j3 (l.drop m):=by
 unfold j3;rw[<-List.flatten_append,<-List.map_append,aIK]
theorem U7(l:List aFP)(m:Nat):iY l=iY (l.take m)++iY (l.drop m):=by
 unfold iY;rw[<-List.flatten_append,<-List.map_append,aIK]
theorem Here.bands{B:List Nat}{p:Nat}{s w:List Int}{m:Nat}:∀ d,Here B p (lB s w (m+d))->Here B p (lB s w m)
 | 0,h=>h
 | d+1,h=>Here.bands d (by rw[<-Nat.add_assoc,oR]at h;exact h.left)
theorem Here.steps{B:List Nat}{p:Nat}{w q:List Int}{m:Nat}:∀ d,Here B p (lQ w q (m+d))->Here B p (lQ w q m)
 | 0,h=>h
 | d+1,h=>Here.steps d (by rw[<-Nat.add_assoc,pB]at h;exact h.left)
theorem GH{B:List Nat}{p:Nat}{l:List Int}(h:Here B p (j3 l))(F:∀ x∈l,0<=x/\x<=3){S:Nat->RdS}(t:S 0=⟨p,0⟩)(G:∀ m,S (m+1)=dC B (S m) 2):
  ∀ m,m<=l.length->S m=⟨p+2*m,0⟩/\∀ i,i<m->(eV B (S i) 2:Int)=bgt l i
 | 0,_=>⟨t,nofun⟩
 | m+1,hm=>by
  obtain⟨h1,h2⟩:=GH h F t G m (by omega);obtain⟨x,d⟩:=aE (b:=l) (k:=m) rfl (by omega);have hb:=F x (aGh d);rw[SJ l (m+1),BV d]at h;have z:=h.left.right;rw[rF,aGB,aHM (by omega)]at z;obtain⟨I,J⟩:=mV (by omega) z;refine⟨by rw[G,h1,J,Nat.mul_succ,aG4],fun i hi=>?_⟩
  by_cases O:i=m
  ·subst O;rw[h1,I,aD d];omega
  ·exact h2 i (by omega)
theorem GI{B:List Nat}{p:Nat}{l:List aFP}(h:Here B p (iY l))(J:∀ t∈l,0<=t.idx/\t.idx<16/\-8388608<=t.val/\t.val<8388608){S:Nat->RdS}(G:S 0=⟨p,0⟩)(O:∀ m,S (m+1)=dC B (dC B (S m) 4) 24):
  ∀ m,m<=l.length->S m=⟨p+28*m,0⟩/\∀ i,i<m->l[i]? = some ⟨eV B (S i) 4,IQ B (dC B (S i) 4) 24⟩
 | 0,_=>⟨G,nofun⟩
 | m+1,hm=>by
  obtain⟨h1,h2⟩:=GI h J G O m (by omega);obtain⟨x,z⟩:=aE (b:=l) (k:=m) rfl (by omega);have hb:=J x (aGh z);rw[U7 l (m+1),CZ z]at h;have d:=h.left.right;rw[rX,aGB,aHM (by omega)]at d;unfold U4 at d;obtain⟨U,F⟩:=mV (by omega) d.left;have I:=d.right;rw[cJ]at I;obtain⟨V,W⟩:=SV (aCn hb.2.2.1 hb.2.2.2) I;refine⟨by rw[O,h1,F,W,Nat.mul_succ,aG4,aG4],fun i hi=>?_⟩
  by_cases Z:i=m
  ·subst Z;rw[h1,U,F,V,z];obtain⟨ix,vl⟩:=x;simp only at hb ⊢;rw[aHT hb.1]
  ·exact h2 i (by omega)
theorem YY{f:aFJ}(h:aFQ f){size:Nat}(bR:gH f<=8*(size:Int)):fH (aM f size)=f/\FK (aM f size)=0:=by
 have bO:=wI h;have a9:(aM f size).length=size:=by
  unfold aM;rw[aGG,iS,aHQ];omega
 have aP:∀ i,sD (aM f size) i=(kL f).getD i 0:=fun i=>WH (FU f) _ i
 have hH:Here (aM f size) 0 (kL f):=⟨by rw[a9];omega,fun j _=>by rw[aGn];exact aP j⟩;have hZ:∀ i,(kL f).length<=i->sD (aM f size) i=0:=fun i hi=>by rw[aP];exact cD hi
 generalize aM f size=B at *
 have e5:kL f=sI f++lQ f.width f.q 16:=rfl;have e4:sI f=sH f++lB f.scale f.width 4:=rfl;have e3:sH f=sG f++iY f.tones:=rfl;have e2:sG f=BW f++cR f.tones.length 2:=rfl;have e1:BW f=vC++j3 f.gains:=rfl;rw[e5]at hH;have W:=hH.left;have Hq:=hH.right;rw[e4]at W;have V:=W.left;have Z:=W.right;rw[e3]at V;have U:=V.left;have Ht:=V.right;rw[e2]at U;have O:=U.left;have Hc:=U.right;rw[e1]at O;have H1:=O.left;have Hg:=O.right;rw[p7 h]at Hq;rw[AC h]at Z;rw[AB h]at Ht;rw[AA h]at Hc;rw[show vC.length=2 from rfl]at Hg;simp only[aGn]at Hq Z Ht Hc Hg;have aQ:=h.gains.1;have bE:=h.scale.1;have bS:=h.tlen;obtain⟨a1,a2⟩:=mV (v:=1) (k:=2) (by decide) H1;have r0:rd0 B=⟨2,0⟩:=by unfold rd0;rw[FN a1,a2]
 have aG:=fun m hm=>GH Hg (fun x t=>by
  obtain⟨i,hi,rfl⟩:=aHz.1 t;have:=h.gains.2 i (by omega)
  rwa [aD (TT hi)]at this) (S:=gSt B) r0 (fun _=>rfl) m hm
 rw[aQ]at aG;have g4:=(aG 4 (LE _)).1;obtain⟨c1,c2⟩:=mV (by omega) Hc;have hcnt:Q5 B=f.tones.length:=by unfold Q5;rw[g4];exact c1
 have t0:tSt B 0=⟨12,0⟩:=by show dC B (gSt B 4) 2=_;rw[g4];exact c2
 have aT:=fun m hm=>GI Ht h.tidx (S:=tSt B) t0 (fun _=>rfl) m hm
 have b0:bSt B 0=⟨12+28*f.tones.length,0⟩:=by show tSt B (Q5 B)=_;rw[hcnt];exact (aT _ (LE _)).1
 have J:∀ m,m<=4->bSt B m=⟨12+28*f.tones.length+10*m,0⟩/\∀ i,i<m->(sOf B i:Int)=bgt f.scale i/\(wOf B i:Int)=bgt f.width i:=by
  intro m
  induction m with
  | zero=>exact fun _=>⟨b0,nofun⟩
  | succ m I =>
   intro hm;obtain⟨F,i2⟩:=I (by omega);have t:=Here.bands (m:=m+1) (4-(m+1)) (by rw[show m+1+(4-(m+1))=4 by omega];exact Z);rw[oR]at t;have t:=t.right;rw[qZ]at t;unfold QO at t;have hs:=h.scale.2 m (by omega);have hw:=h.width m (by omega);obtain⟨G,z⟩:=mV (by omega) t.left;have t:=t.right;rw[cJ]at t;obtain⟨d3,d4⟩:=mV (by omega) t;have aS:sOf B m=(bgt f.scale m).toNat:=by unfold sOf;rw[F];exact G
   have aK:wOf B m=(bgt f.width m).toNat:=by unfold wOf;rw[F,z];exact d3
   refine⟨?_,fun i hi=>?_⟩
   ·show (if 23<sOf B m\/24<wOf B m then _ else dC B (dC B (bSt B m) 5) 5)=_;rw[aS,aK,sL (by omega),F,z,d4];rw[Nat.mul_succ,aG4,aG4]
   ·by_cases aH:i=m
    ·subst aH;rw[aS,aK];omega
    ·exact i2 i (by omega)
 have aR:∀ m,m<=16->qSt B m=⟨52+28*f.tones.length+j7 f.width m,0⟩/\∀ i,i<m->qOf B i=bgt f.q i:=by
  intro m
  induction m with
  | zero=>exact fun _=>⟨by show bSt B 4=_;rw[(J 4 (LE _)).1];congr 1;show _=_+0;omega,nofun⟩
  | succ m I =>
   intro hm;obtain⟨F,i2⟩:=I (by omega);have t:=Here.steps (m:=m+1) (16-(m+1)) (by rw[show m+1+(16-(m+1))=16 by omega];exact Hq);rw[pB]at t;have t:=t.right;rw[oJ]at t;unfold UV at t;have aK:=((J 4 (LE _)).2 (m / 4) (by omega)).2;have hw:wOf B (m / 4)=(bgt f.width (m / 4)).toNat:=by omega
   have hq:=h.q m (by omega);obtain⟨G,z⟩:=SV (by omega) t;have bD:qOf B m=bgt f.q m:=by unfold qOf;rw[F,hw];exact G
   refine⟨?_,fun i hi=>?_⟩
   ·show dC B (qSt B m) (wOf B (m / 4))=_;rw[F,hw,z,vR,<-Nat.add_assoc]
   ·by_cases aH:i=m
    ·subst aH;exact bD
    ·exact i2 i (by omega)
 constructor
 ·obtain⟨gg,ts,sc,wd,q⟩:=f;have k1:gRd B 4=gg:=gZ (oV _ _) aQ (fun j d=>by unfold gRd;rw[aD (aI _ d),FN d];exact (aG 4 (LE _)).2 j d);have k2:tRd B (Q5 B)=ts:=by
   rw[hcnt];apply aGL;intro j;rcases aGt j ts.length with d|d
   ·unfold tRd;rw[aI _ d];exact ((aT _ (LE _)).2 j d).symm
   ·rw[aGr (by simpa[tRd] using d),aGr d]
  have k3:sRd B 4=sc:=gZ (uP _ _) bE (fun j d=>by unfold sRd;rw[aD (aI _ d),FN d];exact ((J 4 (LE _)).2 j d).1);have k4:wRd B 4=wd:=gZ (uT _ _) h.wlen (fun j d=>by unfold wRd;rw[aD (aI _ d),FN d];exact ((J 4 (LE _)).2 j d).2);have k5:qRd B 16=q:=gZ (DV _ _) h.qlen (fun j d=>by unfold qRd;rw[aD (aI _ d),FN d];exact (aR 16 (LE _)).2 j d);unfold fH;rw[k1,k2,k3,k4,k5]
 ·have bC:∀ n i,(kL f).length<=i->(FM B ⟨i,0⟩ n).er=0:=by
   intro n
   induction n with
   | zero=>exact fun _ _=>rfl
   | succ n I =>
    intro i hi;unfold FM;split
    ·rfl
    ·rename_i hc
     have hlt:i+1<=8*B.length:=by simp at hc;omega
     have t:Here B i (cR 0 1):=⟨by rw[cJ];exact hlt,fun j d=>by
      rw[cJ]at d;obtain rfl:j=0:=by omega
      rw[hZ _ (by omega)];rfl⟩
     obtain⟨G,z⟩:=mV (by decide) t;rw[FN G,z];exact I (i+1) (by omega)
  unfold FK;rw[(aR 16 (LE _)).1];refine bC _ _ ?_;rw[e5,aGG,p7 h,oJ];exact LE _
section
open Go.RowKit
def kZ(W:World)(g:Nat)(A:Option Addr)(c n:Nat)(s:RdS):Prop:=W.heap[g]? = some (.cells #[.slice A n c,.int .i64 s.at_,.int .i64 s.er] 259 (0,0))
theorem kM{a b c:World}{row:Option Nat}(h:a.grownBy b row)(k:b.grownBy c row):a.grownBy c row :=
 ⟨k.os.trans h.os,k.tape.trans h.tape,k.output.trans h.output,aGE h.size k.size,fun i hi d=>(k.block i (aGM hi h.size) d).trans (h.block i hi d)⟩
theorem wJ(a:World)(row:Option Nat):a.grownBy a row:=⟨rfl,rfl,rfl,LE _,fun _ _ _=>rfl⟩
theorem nZ{W W':World}{row:Option Nat}(h:Below W.heap.size W W'):W.grownBy W' row :=
 ⟨h.os,h.tape,h.output,h.size,fun k hk _=>h.block k hk⟩
theorem jH{W:World}(g o:Nat)(v:Value):W.grownBy (W.setCell ⟨g,o,none⟩ v) (some g):=⟨rfl,rfl,rfl,by simp,fun k _ hk=>aHm _ _ _ _ (fun e=>hk (by rw[e]))⟩
def RBytesAt(W:World)(g:Nat)(A:Option Addr)(B:List Nat):Prop:=Row W W.heap.size A (u8s B)/\(B≠[]->∀ ad,A=some ad->ad.block≠g)
theorem RBytesAt.grown{W W':World}{g:Nat}{A:Option Addr}{B:List Nat}(h:RBytesAt W g A B)(t:W.grownBy W' (some g)):RBytesAt W' g A B:=by
 refine⟨fun i v d=>?_,h.2⟩;obtain⟨b,off,ha,hb,F⟩:=h.1 i v d;refine⟨b,off,ha,aGM hb t.size,?_⟩;rw[aH5 (w:=W) (t.block b hb (fun he=>by injection he with he;exact h.2 (fun z=>by rw[z]at d;simp[u8s]at d) _ ha he))];exact F
theorem NG(A:Option Addr)(c n:Nat)(w:World):Calls prog 111 #[.slice A n c] w fun e w' =>
  e=.returned (.pointer (some ⟨w.heap.size,0,none⟩))/\kZ w' w.heap.size A c n ⟨0,0⟩/\Below w.heap.size w w':=by
 unfold kZ;have H:=hid (LT w (.cells #[.slice A n c,.int .i64 0,.int .i64 0] 259));have d:=hid (aP w (.cells #[.slice A n c,.int .i64 0,.int .i64 0] 259));go_enter func111,ntmps111;go_wp2
 go_ret
 exact⟨rfl,H.out,d.out⟩
theorem PY(g:Nat)(A:Option Addr)(c n:Nat)(s:RdS)(er:Int)(w:World)(h:kZ w g A c n s):
  Calls prog 113 #[.pointer (some ⟨g,0,none⟩),.int .i64 er] w fun e w'=>e=.returned (.tuple #[])/\kZ w' g A c n (nW s er)/\w.grownBy w' (some g):=by
 obtain⟨a,d⟩:=s;unfold kZ at *
 have H:=hid h;have F:w.cell? ⟨g,2,none⟩=some (.int .i64 d):=aGo w g 2 _ _ _ h;have G:w.frozen? ⟨g,2,none⟩=false:=aIx w g 2 _ _ h;clear h
 by_cases he:d=0
 ·subst he;have z:((0:Int) == 0)=true:=rfl;go_enter func113,ntmps113;go_wp2;refine aHN (v:=.tuple #[]) (aHJ results113 _ _ _) rfl ?_;refine⟨rfl,?_,jH _ _ _⟩;rw[heap_setCell_same w g 2 _ _ _ H.out]
  rfl
 ·have z:(d == 0)=false:=aG8.2 he;have t:=hid (show nW ⟨a,d⟩ er=⟨a,d⟩ from sL he);rw[t.out];clear he;go_enter func113,ntmps113;go_wp2;refine aHN (v:=.tuple #[]) (aHJ results113 _ _ _) rfl ?_;exact⟨rfl,H.out,wJ _ _⟩
def CD(n:Nat)(s:RdS):Int:=if s.er=0 then 8*(n:Int)-(s.at_:Int) else 0
theorem P9(g:Nat)(A:Option Addr)(c n:Nat)(s:RdS)(w:World)(W:n<=1000000)(G:s.at_<=8*n)(h:kZ w g A c n s):
  Calls prog 153 #[.pointer (some ⟨g,0,none⟩)] w fun e w'=>e=.returned (.int .i64 (CD n s))/\Below w.heap.size w w':=by
 obtain⟨a,d⟩:=s;unfold kZ at h;have O:w.cell? ⟨g,0,none⟩=some (.slice A n c):=aGo w g 0 _ _ _ h;have U:w.cell? ⟨g,1,none⟩=some (.int .i64 a):=aGo w g 1 _ _ _ h;have V:w.cell? ⟨g,2,none⟩=some (.int .i64 d):=aGo w g 2 _ _ _ h;simp only at G;have H:=hid h;clear h
 by_cases he:d=0
 ·subst he;have I:((0:Int) != 0)=false:=rfl;have t:=hid (show CD n ⟨a,0⟩=8*(n:Int)-(a:Int) from FN rfl);rw[t.out];have J:=dR H.out;go_enter func153,ntmps153;go_wp2_with fail
  refine aU (by kernel_rfl) (by kernel_rfl) ?_
  repeat (go_big_quiet_step (fail))
  refine aGv ?_;intro Z z;have F:=hid (aQ z);clear z J;go_wp2
  go_ret
  exact⟨rfl,F.out⟩
 ·have I:(d != 0)=true:=by simp[he]
  have t:=hid (show CD n ⟨a,d⟩=0 from sL he);rw[t.out];clear he;go_enter func153,ntmps153;go_wp2
  go_ret
  exact⟨rfl,aGj _ _⟩
theorem aEb(B:List Nat)(i m:Nat):AZ (tA B i (m+1))=2*AZ (tA B i m)+sD B (i+m):=by rw[aA4,A8]
theorem MZ(B:List Nat)(g:Nat)(A:Option Addr)(c:Nat)(s:RdS)(k:Nat)(w:World)(hk:k<=57)(hn:B.length<=1000000)(hb:∀ x∈B,x<256)(hs:InB B s)(hB:RBytesAt w g A B)(h:kZ w g A c B.length s):
  Calls prog 112 #[.pointer (some ⟨g,0,none⟩),.int .i64 k] w fun e w'=>e=.returned (.int .u64 (eV B s k))/\kZ w' g A c B.length (dC B s k)/\w.grownBy w' (some g):=by
 obtain⟨a,t⟩:=s;unfold InB at hs;simp only at hs;have H:=hid h;have c2:w.cell? ⟨g,2,none⟩=some (.int .i64 t):=aGo w g 2 _ _ _ h;have t2:decide ((k:Int)<0)=false:=aGm (by omega);have t3:decide ((57:Int)<(k:Int))=false:=aGm (by omega);obtain⟨n,z⟩:∃ n,B.length=n:=⟨_,rfl⟩;rw[z]at hn hs H h ⊢;have HN:=hid z
 by_cases he:t=0
 ·subst he;have I:=hid (P9 g A c n ⟨a,0⟩ w hn hs h);rw[show CD n ⟨a,0⟩=8*(n:Int)-(a:Int) from FN rfl]at I;have t1:((0:Int) != 0)=false:=rfl
  by_cases hr:8*n<a+k
  ·have t4:8*(n:Int)-(a:Int)<(k:Int):=by omega
   have O:=hid (show eV B ⟨a,0⟩ k=0 from FN (.inr (by rw[z];exact hr)));have J:=hid (show dC B ⟨a,0⟩ k=⟨a,2⟩ by unfold dC;rw[sL (by simp),FN (by rw[z];exact hr)]);rw[O.out,J.out];have fz:∀ W,Below w.heap.size w W->W.frozen? ⟨g,2,none⟩=false:=fun W hW=>aIx W g 2 _ _ (aF h hW)
   have ck:∀ W,Below w.heap.size w W->W.cell? ⟨g,2,none⟩=some (.int .i64 0):=fun W hW=>aGo W g 2 _ _ _ (aF h hW)
   have FZ:=hid fz;have CK:=hid ck;obtain⟨K,U⟩:∃ K:Int,8*(n:Int)-(a:Int)=K:=⟨_,rfl⟩;rw[U]at I t4;clear h fz ck U;go_enter func112,ntmps112;go_wp2_with (go_at_call 153;fail)
   refine I.out.mono ?_;rintro e F ⟨rfl,d⟩;have f1:=FZ.out F d;have c1:=CK.out F d;have B1:=hid d;clear d;go_wp2
   go_ret
   refine⟨rfl,?_,kM (nZ B1.out) (jH _ _ _)⟩;show _=_;rw[heap_setCell_same F g 2 _ _ _ (aF H.out B1.out)]
   rfl
  ·have t4:¬ (8*(n:Int)-(a:Int)<(k:Int)):=by omega
   have O:=hid (show eV B ⟨a,0⟩ k=AZ (tA B a k) from sL (by rw[z];simp only[ne_eq,not_true_eq_false,false_or];exact hr));have J:=hid (show dC B ⟨a,0⟩ k=⟨a+k,0⟩ by unfold dC;rw[sL (by simp),sL (by rw[z];exact hr)]);rw[O.out,J.out];have a8:=hid hB;have Hb:=hid hb;obtain⟨K,U⟩:∃ K:Int,8*(n:Int)-(a:Int)=K:=⟨_,rfl⟩;rw[U]at I t4;clear h hB hb U;go_enter func112,ntmps112;go_wp2_with (go_at_call 153;fail)
   refine I.out.mono ?_;rintro e F ⟨rfl,d⟩;have R1:=hid (show kZ F g A c n ⟨a,0⟩ from aF H.out d);have G1:=hid (show w.grownBy F (some g) from nZ d);clear d H c2;go_wp2_with fail
   go_loopw [5,31] (fun v i wr=>∃ m:Nat,m<=k/\i=.int .i64 m/\v=.int .u64 (AZ (tA B a m))/\kZ wr g A c n ⟨a+m,0⟩/\w.grownBy wr (some g)) (fun _ i _=>k-(intOf i).toNat)
   case atStart=>exact⟨0,by omega,rfl,rfl,R1.out,G1.out⟩
   case round =>
    obtain⟨m,hm,rfl,rfl,hR,hG⟩:=hrel;have HR:=hid hR;have HG:=hid hG;clear R1 G1 hG
    by_cases bN:m<k
    ·have t5:(m:Int)<(k:Int):=by omega
     obtain⟨q,hq⟩:∃ q,(a+m) / 8=q:=⟨_,rfl⟩;obtain⟨p,hp⟩:∃ p,7-(a+m) % 8=p:=⟨_,rfl⟩;have bF:q<n:=by omega
     obtain⟨x,hx⟩:=aE (k:=q) HN.out bF;have bS:=Hb.out x (aGh hx);obtain⟨b,off,rfl,bD,aX⟩:=(a8.out.grown HG.out).1 q (.int .u8 (x:Int)) (eL hx);have Z:=hid (aEb B a m);have aW:sD B (a+m)=x / 2 ^ p % 2:=by unfold sD;rw[hq,hp,aGz,hx];rfl
     rw[aW]at Z;have bG:=PN m (tA B a m) (RJ _ _ _) (RH _ _ _);have bP:2 ^ m<=2 ^ 56:=aHR (by decide) (by omega);obtain⟨V,hV⟩:∃ V,AZ (tA B a m)=V:=⟨_,rfl⟩;rw[hV]at Z bG;rw[hV];obtain⟨y,hy⟩:∃ y,x / 2 ^ p % 2=y:=⟨_,rfl⟩;rw[hy]at Z;have bT:y<=1:=by omega
     have a2:(x:Int) / 2 ^ p=((x / 2 ^ p:Nat):Int):=by rw[show (2:Int) ^ p=((2 ^ p:Nat):Int) by rw[Int.natCast_pow];rfl];exact (Int.natCast_ediv x (2 ^ p)).symm
     have bH:x / 2 ^ p<=x:=Nat.div_le_self _ _;have hand:bits .and .u8 ((x:Int) / 2 ^ p) 1=(y:Int):=by
      rw[a2,show (1:Int)=2 ^ 1-1 from rfl,bits_mask .u8 8 (by decide) wraps_u8 1 (by decide) _ (Int.natCast_nonneg _) (by omega)];omega
     have bO:bits .or .u64 ((V:Int)*2) (y:Int)=((2*V+y:Nat):Int):=by
      have h0:(V:Int)*2=((2*V:Nat):Int):=by omega
      rw[h0,u64_or_nat _ _ (by omega) (by omega)]
      congr 1
      rcases aGt y 1 with h|h
      ·have:y=0:=by omega
       subst this;simp
      ·have:y=1:=by omega
       subst this;have:=aDL (x:=2*V) (s:=0) (b:=1) (by omega) (by omega);simpa using this
     have bQ:IntKind.u64.wrap ((V:Int)*2)=(V:Int)*2:=by rw[aIo];omega
     have bR:IntKind.u64.wrap (y:Int)=(y:Int):=by rw[aIo];omega
     have u1:((a+m:Nat):Int) / 8=(q:Int):=by omega
     have u2:(7:Int)-((a+m:Nat):Int) % 8=(p:Int):=by omega
     have u3:(0:Int)<=(q:Int):=by omega
     have u4:(q:Int)<(n:Int):=by omega
     have u5:(0:Int)<=(p:Int):=by omega
     have u6:(p:Int)<=8:=by omega
     have x5:=dR (show wr.heap[g]? = some (.cells #[.slice (some ⟨b,off,none⟩) n c,.int .i64 ((a+m:Nat):Int),.int .i64 0] 259 (0,0)) from HR.out);have y5:=fun (x:GW wr)=>(DQ x (p:=⟨b,off+q,none⟩) bD).trans aX
     obtain⟨am,aJ⟩:∃ am,a+m=am:=⟨_,rfl⟩;have aO:=hid aJ;rw[aJ]at u1 u2 x5;clear hx aX hR aW hy hV hq hp aJ a2 bH;go_wp2_with fail
     refine aU (by kernel_rfl) (by kernel_rfl) ?_
     repeat (go_big_quiet_step (fail))
     refine aGv ?_;intro G a1;have aK:=aQ a1;have R5:=hid (show kZ G g (some ⟨b,off,none⟩) c n ⟨a+m,0⟩ from aF HR.out aK);have G5:=hid (kM HG.out (nZ aK));have d1:G.cell? ⟨g,1,none⟩=some (.int .i64 (am:Int)):=by rw[<-aO.out];exact aGo G g 1 _ _ _ R5.out
     have z1:G.frozen? ⟨g,1,none⟩=false:=aIx G g 1 _ _ R5.out;clear a1 aK x5 y5;go_wp2;go_roundw
     case rel =>
      refine⟨m+1,by omega,by go_num,by rw[Z.out];exact aGp _ (by omega),?_,kM G5.out (jH _ _ _)⟩;show _=_;rw[heap_setCell_same G g 1 _ _ _ R5.out,<-aO.out];simp;omega
     case measure=>simp[intOf];omega
    ·have bE:m=k:=by omega
     subst bE;have t5:¬ ((m:Int)<(m:Int)):=by omega
     go_wp2
     go_ret
     exact⟨rfl,HR.out,HG.out⟩
 ·have t1:(t != 0)=true:=by simp[he]
  have O:=hid (show eV B ⟨a,t⟩ k=0 from FN (.inl he));have J:=hid (show dC B ⟨a,t⟩ k=⟨a,t⟩ from FN he);rw[O.out,J.out];clear he h;go_enter func112,ntmps112;go_wp2
  go_ret
  exact⟨rfl,H.out,wJ _ _⟩
end
section
open Go.RowKit
theorem QE(B:List Nat)(g:Nat)(A:Option Addr)(c:Nat)(s:RdS)(k:Nat)(w:World)(hk:k<=57)(hn:B.length<=1000000)(hb:∀ x∈B,x<256)(hs:InB B s)(hB:RBytesAt w g A B)(h:kZ w g A c B.length s):
  Calls prog 114 #[.pointer (some ⟨g,0,none⟩),.int .i64 k] w fun e w'=>e=.returned (.int .i64 (IQ B s k))/\kZ w' g A c B.length (dC B s k)/\w.grownBy w' (some g):=by
 have HG:=hid (MZ B g A c s k w hk hn hb hs hB h);have hlt:=rH B s k;have aK:IQ B s k=if (dC B s k).er≠0\/k=0 then 0 else if eV B s k / 2 ^ (k-1)=1 then (eV B s k:Int)-2 ^ k else eV B s k:=rfl
 have z:=hid aK;generalize IQ B s k=Z at *
 generalize eV B s k=V at *
 generalize dC B s k=S at *
 generalize B.length=n at *
 obtain⟨a,er⟩:=S;simp only at z;have aN:2 ^ k<=2 ^ 57:=aHR (by decide) (by omega);clear aK hb hs hB h
 by_cases he:er=0
 ·by_cases aI:k=0
  ·have F:=hid (show Z=0 by rw[z.out,FN (.inr aI)]);subst he aI;have t2:(((0:Nat):Int) == 0)=true:=rfl;rw[F.out];go_enter func114,ntmps114;go_wp2_with (go_at_call 112;fail)
   refine HG.out.mono ?_;rintro e t ⟨rfl,hR,O⟩;have G:=hid hR;have c2:t.cell? ⟨g,2,none⟩=some (.int .i64 0):=aGo t g 2 _ _ _ hR;clear hR;go_wp2
   go_ret
   exact⟨rfl,G.out,O⟩
  ·have J:Z=if V / 2 ^ (k-1)=1 then (V:Int)-2 ^ k else V:=by rw[z.out,sL (by rintro (h|h) <;> contradiction)]
   subst he;obtain⟨j,rfl⟩:∃ j,k=j+1:=⟨k-1,by omega⟩;rw[aIL]at J;have t2:(((j+1:Nat):Int) == 0)=false:=aG8.2 (by omega);have t3:((j+1:Nat):Int)-1=(j:Int):=by omega
   have t4:(0:Int)<=(j:Int):=by omega
   have t5:(j:Int)<=64:=by omega
   have aL:(V:Int) / 2 ^ j=((V / 2 ^ j:Nat):Int):=by rw[show (2:Int) ^ j=((2 ^ j:Nat):Int) by rw[Int.natCast_pow];rfl];exact (Int.natCast_ediv V (2 ^ j)).symm
   have aT:IntKind.i64.wrap (V:Int)=(V:Int):=aGl _ (by omega);have W:(2:Int) ^ (j+1)=((2 ^ (j+1):Nat):Int):=by rw[Int.natCast_pow];rfl
   have aO:IntKind.i64.wrap (1*2 ^ (j+1))=2 ^ (j+1):=by rw[Int.one_mul,W];exact aGl _ (by omega)
   have aP:IntKind.i64.wrap ((V:Int)-2 ^ (j+1))=(V:Int)-2 ^ (j+1):=by rw[W];exact aGl _ (by omega)
   have aQ:IntKind.i64.wrap (2 ^ (j+1))=2 ^ (j+1):=by rw[W];exact aGl _ (by omega)
   obtain⟨U,hU⟩:∃ U:Int,(2:Int) ^ (j+1)=U:=⟨_,rfl⟩;rw[hU]at aO aP aQ J;obtain⟨d,hd⟩:∃ d,V / 2 ^ j=d:=⟨_,rfl⟩;rw[hd]at aL J;have t6:(0:Int)<=((j+1:Nat):Int):=by omega
   have t7:((j+1:Nat):Int)<=64:=by omega
   obtain⟨I,aG⟩:∃ I,((d:Int) == 1)=I:=⟨_,rfl⟩;have aF:Z=if I then (V:Int)-U else V:=by
    rw[J];cases I
    ·have:=aG8.1 aG;rw[sL (by omega)];rfl
    ·have:=aIl.1 aG;rw[FN (by omega)];rfl
   have F:=hid aF;generalize hK:((j+1:Nat):Int)=K at *
   have aS:(2:Int) ^ K.toNat=U:=by rw[<-hK,Int.toNat_natCast];exact hU
   clear J aF aN hlt hU hK z W hd;cases I
   all_goals
    rw[F.out];go_enter func114,ntmps114;go_wp2_with (go_at_call 112;fail)
    refine HG.out.mono ?_;rintro e t ⟨rfl,hR,O⟩;have G:=hid hR;have c2:t.cell? ⟨g,2,none⟩=some (.int .i64 0):=aGo t g 2 _ _ _ hR;clear hR;go_wp2
    go_ret
    exact⟨rfl,G.out,O⟩
 ·have F:=hid (show Z=0 by rw[z.out,FN (.inl he)]);have t1:(er != 0)=true:=by simp[he]
  rw[F.out];clear he;go_enter func114,ntmps114;go_wp2_with (go_at_call 112;fail)
  refine HG.out.mono ?_;rintro e t ⟨rfl,hR,O⟩;have G:=hid hR;have c2:t.cell? ⟨g,2,none⟩=some (.int .i64 er):=aGo t g 2 _ _ _ hR;clear hR;go_wp2
  go_ret
  exact⟨rfl,G.out,O⟩
def aFm(g N:Nat)(w:World):Nat:=match w.cell? ⟨g,2,none⟩,w.cell? ⟨g,1,none⟩ with
 | some (.int _ e),some (.int _ a)=>if e=0 then N+1-a.toNat else 0
 | _,_=>0
theorem OP{w:World}{g:Nat}{A:Option Addr}{c n:Nat}{s:RdS}(N:Nat)(h:kZ w g A c n s):aFm g N w=if s.er=0 then N+1-s.at_ else 0:=by
 unfold kZ at h;unfold aFm;rw[show w.cell? ⟨g,1,none⟩=some (.int .i64 s.at_) from aGo w g 1 _ _ _ h,show w.cell? ⟨g,2,none⟩=some (.int .i64 s.er) from aGo w g 2 _ _ _ h];simp
def aEn(B:List Nat)(s:RdS):RdS:=if eV B s 1=0 then dC B s 1 else nW (dC B s 1) 4
theorem aA9{B:List Nat}{s:RdS}{f:Nat}(h1:s.er=0)(h2:s.at_<8*B.length):FM B s (f+1)=FM B (aEn B s) f:=by
 show (if s.er≠0\/8*B.length<=s.at_ then s else _)=_;rw[sL (by rintro (h|h) <;> omega)];rfl
theorem aBa{B:List Nat}{s:RdS}{f:Nat}(h:s.er≠0\/8*B.length<=s.at_):FM B s f=s:=by
 cases f with
 | zero=>rfl
 | succ f =>
  show (if s.er≠0\/8*B.length<=s.at_ then s else _)=_;rw[FN h]
theorem aDc{B:List Nat}{s:RdS}(h1:s.er=0)(h2:s.at_<8*B.length):dC B s 1=⟨s.at_+1,0⟩:=by
 unfold dC;rw[sL (by omega),sL (by omega)]
theorem aEd(B:List Nat)(g:Nat)(A:Option Addr)(c:Nat)(s:RdS)(w:World)(hn:B.length<=1000000)(hb:∀ x∈B,x<256)(hs:InB B s)(hB:RBytesAt w g A B)(h:kZ w g A c B.length s):
  Calls prog 116 #[.pointer (some ⟨g,0,none⟩)] w fun e w'=>e=.returned (.int .i64 (FM B s (8*B.length)).er)/\w.grownBy w' (some g):=by
 have HG:=hid (fun s W (hi:InB B s) (h:kZ W g A c B.length s) (hW:w.grownBy W (some g))=>MZ B g A c s 1 W (by omega) hn hb hi (hB.grown hW) h);have HL:=hid (fun s W (hi:InB B s) (h:kZ W g A c B.length s)=>P9 g A c B.length s W hn hi h);have HF:=hid (fun s W (h:kZ W g A c B.length s)=>PY g A c B.length s 4 W h);have H:=hid h;have HS:=hid hs;obtain⟨E,hE⟩:∃ E,FM B s (8*B.length)=E:=⟨_,rfl⟩;obtain⟨N,hN⟩:∃ N,8*B.length=N:=⟨_,rfl⟩;have t:=hid hN;rw[hE];have HE:=hid hE;clear hE hN h hs hb hB;go_enter func116,ntmps116;go_wp2;go_loopw [] (fun wr=>∃ (s':RdS) (f:Nat),InB B s'/\FM B s' f=E/\N<=s'.at_+f/\kZ wr g A c B.length s'/\w.grownBy wr (some g)) (fun wr=>aFm g N wr)
 case atStart=>exact⟨s,N,HS.out,by rw[<-t.out];exact HE.out,by omega,H.out,wJ _ _⟩
 case round =>
  obtain⟨s',f,hi,he,hf,hR,hG⟩:=hrel;have Z:=hid hi;have HQ:=hid he;have HR:=hid hR;have aP:=hid hG;have a1:=OP N hR;have aQ:=hid a1;unfold InB at hi;rw[t.out]at hi;have h2:∀ W,kZ W g A c B.length s'->W.cell? ⟨g,2,none⟩=some (.int .i64 s'.er):=fun W h=>aGo W g 2 _ _ _ h
  have H2:=hid h2;have I:=hid (HL.out s' wr Z.out HR.out);clear he hR hG a1 h2 H HE
  by_cases U:s'.er=0/\s'.at_<N
  ·obtain⟨d,hlt⟩:=U;have J:CD B.length s'=((N-s'.at_:Nat):Int):=by
    unfold CD;rw[FN d];have:=t.out;omega
   rw[J]at I;have t1:(0:Int)<((N-s'.at_:Nat):Int):=by omega
   obtain⟨K,hK⟩:∃ K:Int,((N-s'.at_:Nat):Int)=K:=⟨_,rfl⟩;rw[hK]at I t1;have O:=aDc d (show s'.at_<8*B.length by rw[t.out];exact hlt);obtain⟨z,rfl⟩:∃ z,f=z+1:=⟨f-1,by omega⟩;have aR:=hid (aA9 (f:=z) d (show s'.at_<8*B.length by rw[t.out];exact hlt));have aB:=hid (show aEn B s'=if eV B s' 1=0 then dC B s' 1 else nW (dC B s' 1) 4 from rfl);have aA:=hid (kB Z.out 1);have aO:=hid (show nW (⟨s'.at_+1,0⟩:RdS) 4=⟨s'.at_+1,4⟩ from rfl);obtain⟨v,hv⟩:∃ v,eV B s' 1=v:=⟨_,rfl⟩;have HV:=hid hv;rw[hv,O,aO.out]at aB;rw[O]at aA;have bC:=hid O;have H0:=hid d;clear hK J O hv d;go_wp2_with (go_at_call 153;fail)
   refine I.out.mono ?_;rintro e V ⟨rfl,F⟩;have R1:=hid (show kZ V g A c B.length s' from aF HR.out F);have G:=hid (kM aP.out (nZ F));clear F;go_wp2_with (go_at_call 112;fail)
   refine (HG.out s' V Z.out R1.out G.out).mono ?_;rintro e w2 ⟨rfl,aI,aZ⟩;rw[bC.out]at aI;have R2:=hid aI;have G2:=hid (kM G.out aZ);clear aI aZ R1 G;rw[HV.out];rcases aHB v with a4|a4
   ·subst a4;have t2:(((0:Nat):Int) != 0)=false:=rfl;have aC:=hid (show aEn B s'=⟨s'.at_+1,0⟩ from aB.out);go_wp2;go_roundw
    case rel=>exact⟨_,z,aA.out,by rw[<-aC.out,<-aR.out];exact HQ.out,by show N<=s'.at_+1+z;omega,R2.out,G2.out⟩
    case measure =>
     rw[OP N R2.out,aQ.out,FN H0.out];simp only[];split <;> omega
   ·have t2:((v:Int) != 0)=true:=by simp;omega
    have aC:=hid (show aEn B s'=⟨s'.at_+1,4⟩ by rw[aB.out,sL (by omega)]);have aN:=hid (HF.out _ w2 R2.out);rw[aO.out]at aN;go_wp2_with (go_at_call 113;fail)
    refine aN.out.mono ?_;rintro e w3 ⟨rfl,aY,a0⟩;have R3:=hid aY;have G3:=hid (kM G2.out a0);clear aY a0;go_wp2;go_roundw
    case rel=>exact⟨⟨s'.at_+1,4⟩,z,(show InB B ⟨s'.at_+1,4⟩ from aA.out),by rw[<-aC.out,<-aR.out];exact HQ.out,by show N<=s'.at_+1+z;omega,R3.out,G3.out⟩
    case measure =>
     rw[OP N R3.out,aQ.out,FN H0.out];simp only[];split <;> omega
  ·have J:CD B.length s'=0:=by
    unfold CD;have:=t.out
    by_cases d:s'.er=0
    ·rw[FN d];have:¬ s'.at_<N:=fun h=>U ⟨d,h⟩
     omega
    ·rw[sL d]
   rw[J]at I;have a7:=hid (show E.er=s'.er by
    rw[<-HQ.out,aBa]
    by_cases d:s'.er=0
    ·right;have:¬ s'.at_<N:=fun h=>U ⟨d,h⟩
     rw[t.out];omega
    ·exact .inl d)
   clear U J;go_wp2_with (go_at_call 153;fail)
   refine I.out.mono ?_;rintro e V ⟨rfl,F⟩;have c2:=H2.out V (aF HR.out F);have G:=hid (kM aP.out (nZ F));clear F;go_wp2
   go_ret
   exact⟨by rw[a7.out];rfl,G.out⟩
end
section
open Go.RowKit
theorem aC8{v:Int}(h:nH v 24=true):-8388608<=v/\v<8388608:=by
 rw[zV,aGu,aGy,aGy]at h;omega
theorem TonesR.snoc{ts:List aFP}{m:Nat}{t:aFP}(h:TonesR (ts.take m))(ht:ts[m]? = some t)(h1:0<=t.idx/\t.idx<16/\-8388608<=t.val/\t.val<8388608)(h2:∀ j u,m=j+1->ts[j]? = some u->u.idx<t.idx):TonesR (ts.take (m+1)):=by
 obtain⟨hm,rfl⟩:=aGi.1 ht;rw[aHG hm];refine⟨fun u G=>?_,?_⟩
 ·rcases aGJ.1 G with d|d
  ·exact h.1 u d
  ·rw[aGx]at d;rw[d];exact h1
 ·rw[List.pairwise_append];refine⟨h.2,List.pairwise_singleton _ _,fun a ha b hb=>?_⟩;rw[aGx]at hb;subst hb;obtain⟨i,hi,rfl⟩:=aHz.1 ha;rw[aGB]at hi;obtain⟨j,rfl⟩:∃ j,m=j+1:=⟨m-1,by omega⟩;have F:=h2 j ts[j] rfl (TT (by omega))
  by_cases z:i=j
  ·subst z;rw[aJQ];exact F
  ·have:=aIt.1 h.2 i j (by rw[aGB];omega) (by rw[aGB];omega) (by omega);rw[aJQ]at this ⊢;rw[aJQ]at this;omega
def vV(W:World)(ts:List aFP)(e:Ending)(w':World):Prop:=∃ b:Bool,e=.returned (.bool b)/\(b=true ↔ TonesR ts/\ts.length<=2)/\Below W.heap.size W w'
theorem IN(ts : List aFP)(A : Option Addr)(c : Nat)(w : World)(hlen : ts.length ≤ 9223372036854775807)(hr : Row w w.heap.size A (aV ts)):
    Calls prog 155 #[.slice A ts.length c] w (vV w ts) := by
  obtain ⟨n, hn⟩ : ∃ n, ts.length = n := ⟨_, rfl⟩
  have Hr := hid hr
  have HPost := hid (show vV w ts = fun e w' => ∃ b : Bool, e = .returned (.bool b) ∧ (b = true ↔ TonesR ts ∧ ts.length ≤ 2) ∧ Below w.heap.size w w' from rfl)
  rw [hn] at hlen ⊢
  have Hn := hid hn
  clear hr hn
  go_enter func155, ntmps155
  go_wp2
  go_loopw [7] (fun i wr => ∃ m : Nat, m ≤ n ∧ i = .int .i64 m ∧ TonesR (ts.take m) ∧ Below w.heap.size w wr) (fun i _ => n - (intOf i).toNat)
  case atStart => exact ⟨0, by omega, rfl, ⟨nofun, List.Pairwise.nil⟩, Below.refl _ _⟩
  case round =>
    obtain ⟨m, hm, rfl, hTR, hbel⟩ := hrel
    have HTR := hid hTR
    have Hbel := hid hbel
    clear hbel hTR
    by_cases hlk : m < n
    · obtain ⟨t, ht⟩ := aE (k := m) Hn.out hlk
      obtain ⟨g, off, hA, hg, k0, k1⟩ := oK Hr.out ht
      have c0 := (Hbel.out.cell (p := ⟨g, off + m * 2, none⟩) hg).trans k0
      have c1 := (Hbel.out.cell (p := ⟨g, off + m * 2 + 1, none⟩) hg).trans k1
      subst hA
      have HRow := hid (fun (j : Nat) (u : aFP) (hu : ts[j]? = some u) => (show ∃ b o, some (⟨g, off, none⟩ : Addr) = some ⟨b, o, none⟩ ∧ b < w.heap.size ∧ w.cell? ⟨b, o + j * 2, none⟩ = some (.int .i64 u.idx) ∧ w.cell? ⟨b, o + j * 2 + 1, none⟩ = some (.int .i64 u.val) from oK Hr.out hu))
      have HT := hid ht
      have HBad := hid (fun (h : TonesR ts) => And.intro (h.1 t (List.mem_of_getElem? ht)) (fun (j : Nat) (u : aFP) (hj : m = j + 1) (hu : ts[j]? = some u) => (show u.idx < t.idx by
        obtain ⟨h1, e1⟩ := List.getElem?_eq_some_iff.1 hu
        obtain ⟨h2, e2⟩ := List.getElem?_eq_some_iff.1 ht
        have := List.pairwise_iff_getElem.1 h.2 j m h1 h2 (by omega)
        rwa [e1, e2] at this)))
      obtain ⟨ix, vl⟩ := t
      simp only at c0 c1
      clear ht k0 k1
      have HF := hid (show ∀ W, Calls prog 157 #[.int .i64 vl, .int .i64 24] W fun e w' => e = .returned (.bool (nH vl 24)) ∧ W = w' from fun W => (sU vl 24 W (by omega)))
      have HFt := hid (fun (h : nH vl 24 = true) => aC8 h)
      have HFf := hid (fun (h : -8388608 ≤ vl ∧ vl < 8388608) => N8 h.1 h.2)
      obtain ⟨bv, hbv⟩ : ∃ bv, nH vl 24 = bv := ⟨_, rfl⟩
      rw [hbv] at HF HFt HFf
      clear hbv
      have t1 : (m : Int) < (n : Int) := by omega
      have hN1 := Blk.new wr 156 [.int .i64 ix, .int .i64 vl]
      have hy5 := iX hN1
      have HB2 := hid (aC Hbel.out (aP wr (.cells #[.int .i64 ix, .int .i64 vl] 156)))
      by_cases h1 : ix < 0
      · have t2 : decide (ix < 0) = true := decide_eq_true h1
        go_wp2_with fail
        refine aU (by kernel_rfl) (by kernel_rfl) ?_
        repeat (go_big_quiet_step ((go_at_call 157; exact dA (HF.out _))))
        refine wpQuiet_nil ?_
        intro w5 hw'
        have HB5 := hid (aC HB2.out (aQ hw'))
        (try clear hk)
        clear hw' hy5
        go_wp2
        go_ret
        refine ⟨false, rfl, ⟨nofun, fun h => ?_⟩, HB5.out⟩
        have := HBad.out h.1
        (try simp only at this)
        omega
      have t2 : decide (ix < 0) = false := decide_eq_false h1
      by_cases h2 : 16 ≤ ix
      · have t3 : decide ((16 : Int) ≤ ix) = true := decide_eq_true h2
        go_wp2_with fail
        refine aU (by kernel_rfl) (by kernel_rfl) ?_
        repeat (go_big_quiet_step ((go_at_call 157; exact dA (HF.out _))))
        refine wpQuiet_nil ?_
        intro w5 hw'
        have HB5 := hid (aC HB2.out (aQ hw'))
        (try clear hk)
        clear hw' hy5
        go_wp2
        go_ret
        refine ⟨false, rfl, ⟨nofun, fun h => ?_⟩, HB5.out⟩
        have := HBad.out h.1
        (try simp only at this)
        omega
      have t3 : decide ((16 : Int) ≤ ix) = false := decide_eq_false h2
      by_cases hm0 : 0 < m
      · obtain ⟨j, rfl⟩ : ∃ j, m = j + 1 := ⟨m - 1, by omega⟩
        obtain ⟨u, hu⟩ := aE (k := j) Hn.out (by omega)
        obtain ⟨b, o, hA, hb, k0, k1⟩ := HRow.out j u hu
        injection hA with hA
        injection hA with e1 e2
        subst e1 e2
        have HU := hid hu
        have hk := fun (x : GW (wr.alloc (.cells #[.int .i64 ix, .int .i64 vl] 156))) => (show x.1.cell? ⟨g, off + j * 2, none⟩ = some (.int .i64 u.idx) from (HB2.out.trans (x.2.mono HB2.out.size)).cell (p := ⟨g, off + j * 2, none⟩) hb |>.trans k0)
        obtain ⟨ui, uv⟩ := u
        simp only at hk
        have t4 : decide ((0 : Int) < ((j + 1 : Nat) : Int)) = true := decide_eq_true (by omega)
        have t6 : ((j + 1 : Nat) : Int) - 1 = (j : Int) := by omega
        have t7 : (j : Int) < (n : Int) := by omega
        have t8 : (0 : Int) ≤ (j : Int) := by omega
        have t9 : (0 : Int) < (j : Int) + 1 := by omega
        clear hu k0 k1 hm0
        by_cases h3 : ix ≤ ui
        · have t5 : decide (ix ≤ ui) = true := decide_eq_true h3
          go_wp2_with fail
          refine aU (by kernel_rfl) (by kernel_rfl) ?_
          repeat (go_big_quiet_step ((go_at_call 157; exact dA (HF.out _))))
          refine wpQuiet_nil ?_
          intro w5 hw'
          have HB5 := hid (aC HB2.out (aQ hw'))
          (try clear hk)
          clear hw' hy5
          go_wp2
          go_ret
          refine ⟨false, rfl, ⟨nofun, fun h => ?_⟩, HB5.out⟩
          have := HBad.out h.1
          have := this.2 j _ rfl HU.out
          (try simp only at this)
          omega
        have t5 : decide (ix ≤ ui) = false := decide_eq_false h3
        cases bv
        · have HFg := hid (show (-8388608 ≤ vl ∧ vl < 8388608) → False from fun h => (by cases HFf.out h))
          clear HFt HFf
          go_wp2_with fail
          refine aU (by kernel_rfl) (by kernel_rfl) ?_
          repeat (go_big_quiet_step ((go_at_call 157; exact dA (HF.out _))))
          refine wpQuiet_nil ?_
          intro w5 hw'
          have HB5 := hid (aC HB2.out (aQ hw'))
          (try clear hk)
          clear hw' hy5
          go_wp2
          go_ret
          refine ⟨false, rfl, ⟨nofun, fun h => ?_⟩, HB5.out⟩
          have := HBad.out h.1
          exact (HFg.out ⟨this.1.2.2.1, this.1.2.2.2⟩).elim
        · have HFg := hid (HFt.out rfl)
          clear HFt HFf
          go_wp2_with fail
          refine aU (by kernel_rfl) (by kernel_rfl) ?_
          repeat (go_big_quiet_step ((go_at_call 157; exact dA (HF.out _))))
          refine wpQuiet_nil ?_
          intro w5 hw'
          have HB5 := hid (aC HB2.out (aQ hw'))
          (try clear hk)
          clear hw' hy5
          go_wp2
          go_roundw
          case rel => exact ⟨j + 1 + 1, by omega, by go_num, HTR.out.snoc HT.out ⟨by omega, by omega, HFg.out⟩ (fun j' u' hj hu => by
                      have hjj : j' = j := by omega
                      subst hjj
                      have := Option.some.inj (hu.symm.trans HU.out)
                      subst this
                      show ui < ix
                      omega), HB5.out⟩
          case measure => simp [intOf]; omega
      · have hm00 : m = 0 := by omega
        subst hm00
        simp only [Nat.zero_mul, Nat.add_zero] at c0 c1
        have t4 : decide ((0 : Int) < ((0 : Nat) : Int)) = false := decide_eq_false (by omega)
        clear hm0
        cases bv
        · have HFg := hid (show (-8388608 ≤ vl ∧ vl < 8388608) → False from fun h => (by cases HFf.out h))
          clear HFt HFf
          go_wp2_with fail
          refine aU (by kernel_rfl) (by kernel_rfl) ?_
          repeat (go_big_quiet_step ((go_at_call 157; exact dA (HF.out _))))
          refine wpQuiet_nil ?_
          intro w5 hw'
          have HB5 := hid (aC HB2.out (aQ hw'))
          (try clear hk)
          clear hw' hy5
          go_wp2
          go_ret
          refine ⟨false, rfl, ⟨nofun, fun h => ?_⟩, HB5.out⟩
          have := HBad.out h.1
          exact (HFg.out ⟨this.1.2.2.1, this.1.2.2.2⟩).elim
        · have HFg := hid (HFt.out rfl)
          clear HFt HFf
          go_wp2_with fail
          refine aU (by kernel_rfl) (by kernel_rfl) ?_
          repeat (go_big_quiet_step ((go_at_call 157; exact dA (HF.out _))))
          refine wpQuiet_nil ?_
          intro w5 hw'
          have HB5 := hid (aC HB2.out (aQ hw'))
          (try clear hk)
          clear hw' hy5
          go_wp2
          go_roundw
          case rel => exact ⟨0 + 1, by omega, by go_num, HTR.out.snoc HT.out ⟨by omega, by omega, HFg.out⟩ (fun j' u' hj hu => by omega), HB5.out⟩
          case measure => simp [intOf]; omega
    · have hmn : m = n := by omega
      subst hmn
      have t1 : ¬ ((m : Int) < (m : Int)) := by omega
      have HE := hid (show TonesR ts by have := HTR.out; rwa [List.take_of_length_le (by rw [Hn.out]; exact Nat.le_refl _)] at this)
      by_cases h2 : m ≤ 2
      · have t2 : decide ((m : Int) ≤ 2) = true := decide_eq_true (by omega)
        go_wp2
        go_ret
        exact ⟨true, rfl, ⟨fun _ => ⟨HE.out, by rw [Hn.out]; omega⟩, fun _ => rfl⟩, Hbel.out⟩
      · have t2 : decide ((m : Int) ≤ 2) = false := decide_eq_false (by omega)
        go_wp2
        go_ret
        exact ⟨false, rfl, ⟨nofun, fun h => by have := h.2; rw [Hn.out] at this; omega⟩, Hbel.out⟩
end
section
open Go.RowKit
def PV(W:World)(d:Prop)(e:Ending)(w':World):Prop:=∃ b:Bool,e=.returned (.bool b)/\(b=true ↔ d)/\Below W.heap.size W w'
theorem aFo{s:List Int}(d:s.length=4)(h:jU s=true):ScB s:=⟨d,fun i hi=>by
 obtain⟨x,t⟩:=aE (k:=i) d hi;have:=aGD.1 h x (aGh t);simp only[aGu,aGy]at this;rw[aD t];exact this⟩
theorem aDb{g:List Int}(d:g.length=4)(h:iW g=true):g.length=4/\∀ i,i<4->0<=bgt g i/\bgt g i<=3:=⟨d,fun i hi=>by
 obtain⟨x,t⟩:=aE (k:=i) d hi;have:=aGD.1 h x (aGh t);unfold inB at this;simp only[aGu,aGy]at this;rw[aD t];exact this⟩
theorem aBi{v:Int}{k:Nat}:nH v k=true ↔ cG v<=k:=by unfold nH;rw[aGy]
theorem aAP(f:aFJ)(A:Option Addr)(c:Nat)(w:World)(h:f.Len)(bP:f.tones.length<=9223372036854775807)(hr:Row w w.heap.size A (aV f.tones)):
  Calls prog 117 #[.agg (aZ f (.slice A f.tones.length c))] w (PV w (aFQ f)):=by
 have HG:=hid (fun W=>pG f.gains W h.g);have HT:=hid (fun W (hW:Below w.heap.size w W)=>IN f.tones A c W bP (hr.later hW));have HS:=hid (fun W=>kD f.scale W h.s);have z:=h;have aB:=hid (fun (hR:aFQ f)=>OB hR.gains);have aT:=hid (fun (hR:aFQ f)=>(show TonesR f.tones/\f.tones.length<=2 from ⟨⟨hR.tidx,hR.tinc⟩,hR.tlen⟩));have aG:=hid (fun (hR:aFQ f)=>hR.scale.ok);have aU:=hid (fun (hR:aFQ f)=>hR.width);have bA:=hid (fun (hR:aFQ f)=>hR.q);have aH:=hid (fun (h1:iW f.gains=true) (h2:TonesR f.tones/\f.tones.length<=2) (h3:jU f.scale=true) (h4:∀ i,i<4->0<=bgt f.width i/\bgt f.width i<=24) (h5:∀ k,k<16->(cG (bgt f.q k):Int)<=bgt f.width (k / 4)) =>
  (show aFQ f from ⟨aDb h.g h1,h2.2,h2.1.1,h2.1.2,aFo h.s h3,h.w,h4,h.q,h5⟩))
 have aA:=hid (fun (W:World) (g:Nat) hg=>eI (w:=W) (g:=g) z (tv:=.slice A f.tones.length c) hg);have bN:(f.gains.map (Value.int .i64)).length=4:=by simp[z.g]
 have aJ:(f.scale.map (Value.int .i64)).length=4:=by simp[z.s]
 have bU:(f.width.map (Value.int .i64)).length=4:=by simp[z.w]
 obtain⟨t,bK⟩:∃ t:Prop,aFQ f=t:=⟨_,rfl⟩;rw[bK]at aB aT aG aU bA aH ⊢;clear bK;obtain⟨gg,ts,sc,F,q⟩:=f;simp only at *
 have bC:=hid z.q;have bF:=hid z.w;simp only at bC bF;have b3:=hid (fun (k:Nat) (x:Int) (h:F[k]? = some x)=>fG h);have b1:=hid (fun (k:Nat) (x:Int) (h:q[k]? = some x)=>(show (q.map (Value.int .i64))[k]? = some (.int .i64 x) by rw[aF5,h];rfl));generalize iW gg=B1 at *
 generalize jU sc=B3 at *
 unfold vV at HT;generalize (TonesR ts/\ts.length<=2)=PT at *
 generalize ts.length=n at *
 generalize aZ ⟨gg,ts,sc,F,q⟩ (.slice A n c)=fc at *
 unfold aR at *
 generalize cO:gg.map (Value.int .i64)=gv at *
 generalize cU:sc.map (Value.int .i64)=sv at *
 generalize cV:F.map (Value.int .i64)=wv at *
 generalize cT:q.map (Value.int .i64)=qv at *
 have b4:=hid (show (prog.info? 40).map (·.size)=some gv.length by rw[bN];exact b9);have b5:=hid (show (prog.info? 40).map (·.size)=some sv.length by rw[aJ];exact b9);have b6:=hid (show (prog.info? 40).map (·.size)=some wv.length by rw[bU];exact b9);have HM:=hid (LT w (.cells fc 45));have P:=aA.out _ _ HM.out;have P0:=hid P.1;have P3:=P.2.1;have a7:=hid (aP w (.cells fc 45));clear P hr h cO cU cV cT bN aJ bU z bP;go_enter func117,ntmps117;go_wp2_with (first|(go_at_call 154;fail)|(refine aL rfl 40 (.tmp 7) rfl w.heap.size 0 rfl gv _ P0.out underlying40 rfl b4.out ?_))
 refine (HG.out _).mono ?_;rintro e w1 ⟨rfl,a1⟩;have aO:=hid (aF HM.out a1);have U:=hid (aC a7.out a1);have Q:=aA.out _ _ aO.out;have p3:=Q.2.1;clear Q a1 P3 P0 HM a7 HG;cases B1
 ·have d:=hid (show ¬ t from fun h=>(by cases aB.out h));clear aB aH;go_wp2
  go_ret
  exact⟨false,rfl,⟨nofun,fun h=>(d.out h).elim⟩,U.out⟩
 have aW:=hid (aH.out rfl);clear aB aH;go_wp2_with (go_at_call 155;fail)
 refine (HT.out _ U.out).mono ?_;rintro e w2 ⟨b2,rfl,bL,a2⟩;have Z:=hid bL;have aQ:=hid (aF aO.out a2);have aK:=hid (aC U.out a2);have Q:=aA.out _ _ aQ.out;have Q2:=hid Q.2.2.1;clear Q a2 bL p3 aO U HT;cases b2
 ·have d:=hid (show ¬ t from fun h=>(by cases Z.out.2 (aT.out h)));clear aW Z;go_wp2
  go_ret
  exact⟨false,rfl,⟨nofun,fun h=>(d.out h).elim⟩,aK.out⟩
 have aX:=hid (aW.out (Z.out.1 rfl));clear aT Z aW;go_wp2_with (first|(go_at_call 156;fail)|(refine aL rfl 40 (.tmp 18) rfl w.heap.size 5 rfl sv _ Q2.out underlying40 rfl b5.out ?_))
 refine (HS.out _).mono ?_;rintro e w3 ⟨rfl,a3⟩;have b7:=hid (aF aQ.out a3);have G:=hid (aC aK.out a3);have Q:=aA.out _ _ b7.out;have Q3:=hid Q.2.2.2.1;have Q4:=hid Q.2.2.2.2;clear Q a3 aQ aK HS;cases B3
 ·have d:=hid (show ¬ t from fun h=>(by cases aG.out h));clear aX aG;go_wp2
  go_ret
  exact⟨false,rfl,⟨nofun,fun h=>(d.out h).elim⟩,G.out⟩
 have cC:=hid (aX.out rfl);clear aG aX;go_wp2_with (refine aL rfl 40 (.tmp 23) rfl w.heap.size 9 rfl wv _ Q3.out underlying40 rfl b6.out ?_)
 go_loop [25] (fun i=>∃ m:Nat,m<=4/\i=.int .i64 m/\(∀ i,i<m->0<=bgt F i/\bgt F i<=24)/\∀ k,k<m*4->(cG (bgt q k):Int)<=bgt F (k / 4)) (fun i=>4-(intOf i).toNat)
 case atStart=>exact⟨0,by omega,rfl,fun i hi=>by omega,fun k hk=>by omega⟩
 case round =>
  obtain⟨m,hm,rfl,bS,bT⟩:=hrel;have bD:=hid bS;have bE:=hid bT;clear bS bT
  by_cases aI:m<4
  ·have t1:(m:Int)<4:=by omega
   obtain⟨x,O⟩:=aE (k:=m) bF.out aI;have J:=hid (aD O);have c3:=cA (P:=prog) underlying40 aI (fun W=>by kernel_rfl) (fun W=>by kernel_rfl) (b3.out _ _ O)
   by_cases a4:x<0
   ·have t2:decide (x<0)=true:=aGs a4;have d:=hid (show ¬ t from fun h=>by
     have:=aU.out h m aI;rw[J.out]at this;omega)
    clear O;go_wp2
    go_ret
    exact⟨false,rfl,⟨nofun,fun h=>(d.out h).elim⟩,G.out⟩
   by_cases bV:24<x
   ·have t2:decide (x<0)=false:=aGm a4;have t3:decide (24<x)=true:=aGs bV;have d:=hid (show ¬ t from fun h=>by
     have:=aU.out h m aI;rw[J.out]at this;omega)
    clear O;go_wp2
    go_ret
    exact⟨false,rfl,⟨nofun,fun h=>(d.out h).elim⟩,G.out⟩
   obtain⟨W,rfl⟩:=aGF (show 0<=x by omega);have c2:W<=24:=by omega
   have t2:decide ((W:Int)<0)=false:=aGm (by omega);have t3:decide ((24:Int)<(W:Int))=false:=aGm (by omega);have aJ:=pA w.heap.size 13 ((m:Int)*4) (((m:Int)+1)*4) (m*4) (m*4+4) (by omega) (by omega) (by omega) (by omega) (by omega);rw[show m*4+4-m*4=4 by omega]at aJ;clear O a4 bV;go_wp2
   go_loop [43] (fun i=>∃ k:Nat,k<=4/\i=.int .i64 k/\∀ j,j<m*4+k->(cG (bgt q j):Int)<=bgt F (j / 4)) (fun i=>4-(intOf i).toNat)
   case atStart=>exact⟨0,by omega,rfl,fun j hj=>bE.out j (by omega)⟩
   case round =>
    obtain⟨k,hk,rfl,bQ⟩:=hrel;have bB:=hid bQ;clear bQ
    by_cases c4:k<4
    ·have t4:(k:Int)<4:=by omega
     obtain⟨y,hy⟩:=aE (k:=m*4+k) bC.out (by omega);have ce:=Q4.out _ _ (b1.out _ _ hy);rw[<-Nat.add_assoc]at ce;have Hy:=hid (aD hy);have HF:=hid (fun V=>sU y W V (by omega));have I:=hid (aBi (v:=y) (k:=W));obtain⟨bf,bM⟩:∃ bf,nH y W=bf:=⟨_,rfl⟩;rw[bM]at HF I;clear hy bM;cases bf
     ·have d:=hid (show ¬ t from fun h=>by
       have h1:=bA.out h (m*4+k) (by omega);rw[Hy.out,show (m*4+k) / 4=m by omega,J.out]at h1;cases I.out.2 (by omega))
      clear I;go_wp2_with (go_at_call 157;refine (HF.out _).mono ?_;rintro e w5 ⟨rfl,rfl⟩)
      go_ret
      exact⟨false,rfl,⟨nofun,fun h=>(d.out h).elim⟩,G.out⟩
     ·have cB:=hid (I.out.1 rfl);clear I;go_wp2_with (go_at_call 157;refine (HF.out _).mono ?_;rintro e w5 ⟨rfl,rfl⟩)
      go_round
      case rel =>
       refine⟨k+1,by omega,by go_num,fun j hj=>?_⟩
       by_cases cQ:j=m*4+k
       ·subst cQ;rw[Hy.out,show (m*4+k) / 4=m by omega,J.out];have:=cB.out;omega
       ·exact bB.out j (by omega)
      case measure=>simp[intOf];omega
    ·have cR:k=4:=by omega
     subst cR;have t4:¬ (((4:Nat):Int)<4):=by omega
     go_wp2
     go_round
     case rel =>
      refine⟨m+1,by omega,by go_num,fun i hi=>?_,fun j hj=>bB.out j (by omega)⟩
      by_cases cP:i=m
      ·subst cP;rw[J.out];omega
      ·exact bD.out i (by omega)
     case measure=>simp[intOf];omega
  ·have cS:m=4:=by omega
   subst cS;have t1:¬ (((4:Nat):Int)<4):=by omega
   have HY:=hid (cC.out bD.out (fun k hk=>bE.out k (by omega)));go_wp2
   go_ret
   exact⟨true,rfl,⟨fun _=>HY.out,fun _=>rfl⟩,G.out⟩
end
end Go.Proofs.YtbpgfkjhclpbdaaGreatDoor
