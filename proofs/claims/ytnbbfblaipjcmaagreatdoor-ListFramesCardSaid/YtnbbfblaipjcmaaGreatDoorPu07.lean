/- ListA. Conditions: as each theorem states. -/
import Derived.Laws.BytesArg
import Derived.Lib.BufferOwn
import Derived.Test.YtnbbfblaipjcmaaGreatDoorPu04
import Derived.Test.YtnbbfblaipjcmaaGreatDoorPu06
set_option maxRecDepth 100000
namespace Go.Proofs.YtnbbfblaipjcmaaGreatDoor
open Go.RowKit Go.Lib
def digF:Nat->Nat->List Nat
 | 0,n=>[48+n % 10]
 | k+1,n=>(48+n % 10) :: (if n / 10=0 then [] else digF k (n / 10))
theorem digF_len:∀ k n,0 < (digF k n).length/\(digF k n).length<=k+1
 | 0,n=>⟨by simp [digF],by simp [digF]⟩
 | k+1,n=>by
  unfold digF
  have h:=digF_len k (n / 10)
  rw [List.length_cons]
  split
  ·simp
  ·omega
def swapAt (l:List Nat) (i j:Nat):List Nat:=(l.set i (l.getD j 0)).set j (l.getD i 0)
def swapTo (l:List Nat):Nat->List Nat
 | 0=>l
 | k+1=>swapAt (swapTo l k) k (l.length - 1 - k)
theorem swapAt_len (l:List Nat) (i j:Nat):(swapAt l i j).length=l.length:=by simp [swapAt]
theorem swapTo_len (l:List Nat):∀ k,(swapTo l k).length=l.length
 | 0=>rfl
 | k+1=>by
  show (swapAt (swapTo l k) k (l.length - 1 - k)).length=_
  rw [swapAt_len,swapTo_len l k]
def digL (n:Nat):List Nat:=digF 20 n
def digS (n:Nat):ByteArray:=strOfNums ((swapTo (digL n) ((digL n).length / 2)).map fun (x:Nat)=>(x:Int))
theorem conv_num {w:World} {B b off n c:Nat} {xs:List Nat} (hn:xs.length=n) (h:Row w B (some ⟨b,off,none⟩) (u8s xs)):(convert 30 9 (.slice (some ⟨b,off,none⟩) n c)).run Tryz.prog w=.ok (.string (strOfNums (xs.map fun (x:Nat)=>(x:Int)))) w :=
 run_convert_bytes_arg (P:=Tryz.prog) w 30 5 Tryz.underlying30 Tryz.underlying5 b off n c (xs.map fun (x:Nat)=>(x:Int)) (by rw [List.length_map,hn]) (fun j hj=>by
  have h1:(u8s xs)[j]? = some (.int .u8 ((xs.getD j 0:Nat):Int)):=by
   rw [u8s_get (show xs[j]? = some (xs.getD j 0) by rw [List.getD_eq_getElem?_getD,List.getElem?_eq_getElem (by omega)]; rfl)]
  obtain ⟨b',o',hA,_,hc⟩:=h j _ h1
  injection hA with hA
  injection hA with e1 e2
  subst e1 e2
  have e:(xs.map fun (x:Nat)=>(x:Int)).getD j 0=((xs.getD j 0:Nat):Int):=by
   rw [List.getD_eq_getElem?_getD,List.getElem?_map,List.getElem?_eq_getElem (by omega),List.getD_eq_getElem?_getD,List.getElem?_eq_getElem (by omega)]
   rfl
  rw [hc,e]) 9 Tryz.underlying9
theorem digF_last {m:Nat} (h:m / 10=0):∀ k,digF k m=[48+m % 10]
 | 0=>rfl
 | k+1=>by unfold digF; rw [if_pos h]
theorem digF_step {m:Nat} (h:m / 10 ≠ 0) (k:Nat):digF (k+1) m=(48+m % 10) :: digF k (m / 10):=by
 show (48+m % 10) :: (if m / 10=0 then [] else digF k (m / 10))=_
 rw [if_neg h]
theorem own_basis1 {w:World} {base:Nat} {e:TypeId} {size n:Nat} {v:Value} {xs:List Value} (h:w.ownsRow base e size v n xs) {g:Nat} (hg:v.ownBlock=some g):base<=g/\g < w.heap.size:=by
 rcases h.2 with ⟨rfl,_⟩ | ⟨g',cap',cur,rfl,hb,hh,_⟩
 ·cases hg
 ·have e1:g'=g:=Option.some.inj hg
  subst e1
  exact ⟨hb,hlt hh⟩
theorem own_cell1 {w:World} {base n cap g:Nat} {e:TypeId} {xs:List Value} (h:w.ownsRow base e 1 (.slice (some ⟨g,0,none⟩) n cap) n xs) (k:Nat) (v:Value) :
  (w.setCell ⟨g,k,none⟩ v).ownsRow base e 1 (.slice (some ⟨g,0,none⟩) n cap) n (xs.set k v):=by
 have hxl:=h.1
 rcases h.2 with ⟨h',_⟩ | ⟨g',cap',cur,h',hb,hg,hnc,hcm,hcs,htake⟩
 ·simp at h'
 ·simp only [Value.slice.injEq,Option.some.injEq,Addr.mk.injEq,and_true,true_and] at h'
  obtain ⟨rfl,rfl⟩:=h'
  have hB:Blk w g e cur.toList:=hg
  refine ⟨by rw [List.length_set,hxl],.inr ⟨g,cap,(cur.toList.set k v).toArray,rfl,hb,hB.set_ k v,hnc,hcm,by simpa using hcs,?_⟩⟩
  rw [List.toList_toArray,List.take_set,htake]
theorem own_frozenA {w:World} {base n cap g size:Nat} {e:TypeId} {xs:List Value} (h:w.ownsRow base e size (.slice (some ⟨g,0,none⟩) n cap) n xs) (k:Nat):w.frozen? ⟨g,k,none⟩=false:=by
 rcases h.2 with ⟨h',_⟩ | ⟨g',cap',cur,h',hb,hg,_⟩
 ·simp at h'
 ·simp only [Value.slice.injEq,Option.some.injEq,Addr.mk.injEq,and_true,true_and] at h'
  obtain ⟨rfl,rfl⟩:=h'
  have hB:Blk w g e cur.toList:=hg
  exact hB.frozen k
set_option maxHeartbeats 4000000 in
theorem sayDigits_any (n:Nat) (hn:n < 18446744073709551616) (w:World):Calls Tryz.prog 134 #[.int .u64 n] w fun e w'=>e=.returned (.string (digS n))/\Below w.heap.size w w':=by
 obtain ⟨i0,hi,hz0,hi1,hi2⟩:=info_parts inf_u8
 have H20:=hid (show n < 10 ^ 21 by omega)
 go_enter Tryz.func134,Tryz.ntmps134
 go_wp2_with fail
 go_loopw [0,3] (fun a b wr=>∃ (k m c:Nat) (A:Option Addr) (P:List Nat),k<=20/\m < 18446744073709551616/\m < 10 ^ (k+1)/\a=.int .u64 m/\b=.slice A P.length c/\P.length+k=20/\P ++ digF k m=digF 20 n/\wr.ownsRow w.heap.size 5 1 (.slice A P.length c) P.length (u8s P)/\Below w.heap.size w wr) (fun a _ _=>(intOf a).toNat)
 case atStart=>exact ⟨20,n,0,none,[],by omega,hn,H20.out,rfl,rfl,rfl,rfl,World.ownsRow_nil w w.heap.size 5 1,Below.refl _ _⟩
 case round =>
  obtain ⟨k,m,c,A,P,hk,hm64,hm,rfl,rfl,hPl,hD,hown,hbel⟩:=hrel
  obtain ⟨r,hr⟩:∃ r,m % 10=r:=⟨_,rfl⟩
  obtain ⟨q,hq⟩:∃ q,m / 10=q:=⟨_,rfl⟩
  obtain ⟨l,hl⟩:∃ l,P.length=l:=⟨_,rfl⟩
  have hr9:r < 10:=by omega
  have hrem:(m:Int).tmod 10=(r:Int):=by rw [<-hr]; rfl
  have hquo:(m:Int).tdiv 10=(q:Int):=by rw [<-hq]; rfl
  have hw1:IntKind.u64.wrap (r:Int)=(r:Int):=by rw [IntKind.wrap_u64]; omega
  have hw2:IntKind.u64.wrap (48+(r:Int))=48+(r:Int):=by rw [IntKind.wrap_u64]; omega
  have hw3:IntKind.u64.wrap (q:Int)=(q:Int):=by rw [IntKind.wrap_u64]; omega
  have hw4:IntKind.u8.wrap (48+(r:Int))=48+(r:Int):=by rw [IntKind.wrap_u8]; omega
  rw [hl] at hown hPl ⊢
  have Own:=hid hown
  have Hbel:=hid hbel
  have Hge:=hid (own_block_ge hown)
  have Hl:=hid hl
  have HD:=hid hD
  have Hm:=hid hm
  have Hr:=hid hr
  have Hq:=hid hq
  have hl20:l<=20:=by omega
  have Hhr:=hid hr9
  clear hown hbel hl hD hm hr hq H20
  by_cases hq0:q=0
  ·subst hq0
   have t1:((0:Int) == 0)=true:=rfl
   go_wp2_with (at_builtin; refine wpList_app _ rfl (.tmp 5) (.tmp 10) 30 rfl w.heap.size 5 i0 (.int .u8 0) 1 1 Tryz.underlying30 hi hz0 hi1 hi2 rfl (by omega) _ l _ rfl (Own.out.alloc _) (wr.heap.size+1) (some ⟨wr.heap.size,0,none⟩) 1 1 [.int .u8 _] rfl rfl (Row.new wr _ _) (fun u hu=>by simp at hu; subst hu; rfl) (by omega) (by omega) (by have:=Hbel.out.size; simp; omega) ?_; intro A2 cc w2 hown2 hgrow hat hcc)
   have hb2:Below w.heap.size w w2:=(Hbel.out.alloc Hbel.out.size _).grown hgrow (by have:=Hbel.out.size; simp; omega) (fun g h=>Hge.out g h)
   have HL:=hid (show digL n=P ++ [48+r] by
    unfold digL
    rw [<-HD.out,digF_last Hq.out,Hr.out])
   have B2:=hid hb2
   obtain ⟨D,hD⟩:∃ D,P ++ [48+r]=D:=⟨_,rfl⟩
   have hDl:D.length=l+1:=by rw [<-hD,List.length_append,Hl.out]; rfl
   have HO2:=hid (show w2.ownsRow w.heap.size 5 1 (.slice A2 (l+1) cc) (l+1) (u8s D) by
    have e:u8s D=u8s P ++ [.int .u8 (48+(r:Int))]:=by
     rw [<-hD]
     unfold u8s
     rw [List.map_append]
     simp
    rw [e]
    exact hown2)
   rw [hD] at HL
   obtain ⟨g,rfl⟩:∃ g,A2=some ⟨g,0,none⟩:=by
    rcases hown2.2 with ⟨_,h0⟩ | ⟨g,cap',cur,h,_⟩
    ·omega
    ·injection h with h; exact ⟨g,h⟩
   have HDl:=hid hDl
   have HF:=hid (show digS n=strOfNums ((swapTo D ((l+1) / 2)).map fun (x:Nat)=>(x:Int)) by
    unfold digS
    rw [HL.out,hDl])
   obtain ⟨h,hh⟩:∃ h,(l+1) / 2=h:=⟨_,rfl⟩
   rw [hh] at HF
   have Hh2:=hid hh
   have hquo2:((l+1:Nat):Int).tdiv 2=(h:Int):=by rw [<-hh]; rfl
   have hquo3:((l:Int)+1).tdiv 2=(h:Int):=hquo2
   have hwh:IntKind.i64.wrap (h:Int)=(h:Int):=IntWalk.i64_in _ (by omega)
   have Hhl:=hid (show 2*h<=l+1 by omega)
   clear hown2 hgrow hat hb2 hD hDl hh HL Own Hbel Hge Hl HD Hm Hr Hq hPl
   go_loopw [19] (fun i wr=>∃ j:Nat,j<=h/\i=.int .i64 j/\wr.ownsRow w.heap.size 5 1 (.slice (some ⟨g,0,none⟩) (l+1) cc) (l+1) (u8s (swapTo D j))/\Below w.heap.size w wr) (fun i _=>h - (intOf i).toNat)
   case atStart=>exact ⟨0,by omega,rfl,HO2.out,B2.out⟩
   case round =>
    obtain ⟨j,hj,rfl,hown,hbel⟩:=hrel
    have Own:=hid hown
    have Hbel:=hid hbel
    by_cases hjh:j < h
    ·have u1:(j:Int) < (h:Int):=by omega
     have u2:(0:Int)<=(j:Int):=by omega
     have hhl:=Hhl.out
     obtain ⟨t,ht⟩:∃ t,l - j=t:=⟨_,rfl⟩
     have htl:t < l+1:=by omega
     have e1:(l:Int) - (j:Int)=(t:Int):=by omega
     have e2:((l:Int)+1 - 1)=(l:Int):=by omega
     have e3:(((l+1:Nat):Int) - 1)=(l:Int):=by omega
     have w1:IntKind.i64.wrap (l:Int)=(l:Int):=IntWalk.i64_in _ (by omega)
     have w2':IntKind.i64.wrap (t:Int)=(t:Int):=IntWalk.i64_in _ (by omega)
     have hsl:(swapTo D j).length=l+1:=by rw [swapTo_len,HDl.out]
     obtain ⟨x,hx⟩:∃ x,(swapTo D j)[j]? = some x:=⟨_,List.getElem?_eq_getElem (by omega)⟩
     obtain ⟨y,hy⟩:∃ y,(swapTo D j)[t]? = some y:=⟨_,List.getElem?_eq_getElem (by omega)⟩
     have HRow:=hid (Row.of_own hown)
     have r1:wr.cell? ⟨g,j,none⟩=some (.int .u8 (x:Int)):=by
      obtain ⟨b,o,hA,hb,hc⟩:=HRow.out j _ (u8s_get hx)
      injection hA with hA
      injection hA with e1 e2
      subst e1 e2
      rw [Nat.zero_add] at hc
      exact hc
     have r2:wr.cell? ⟨g,t,none⟩=some (.int .u8 (y:Int)):=by
      obtain ⟨b,o,hA,hb,hc⟩:=HRow.out t _ (u8s_get hy)
      injection hA with hA
      injection hA with e1 e2
      subst e1 e2
      rw [Nat.zero_add] at hc
      exact hc
     have f1:=own_frozenA hown j
     have f2:=own_frozenA hown t
     have u3:(t:Int) < (l:Int)+1:=by omega
     have u4:(0:Int)<=(t:Int):=by omega
     have u5:(j:Int) < (l:Int)+1:=by omega
     have HX:=hid hx
     have HY:=hid hy
     have Ht:=hid ht
     clear hown hbel hx hy hsl ht
     go_wp2_with fail
     have HSw:=hid (show swapTo D (j+1)=((swapTo D j).set j y).set t x by
      show swapAt (swapTo D j) j (D.length - 1 - j)=_
      rw [HDl.out,show l+1 - 1 - j=t by have:=Ht.out; omega]
      unfold swapAt
      rw [List.getD_eq_getElem?_getD,List.getD_eq_getElem?_getD,HX.out,HY.out]
      rfl)
     have HEn:=hid (show ∀ W,W=(wr.drew.setCell ⟨g,j,none⟩ (.int .u8 (y:Int))).setCell ⟨g,t,none⟩ (.int .u8 (x:Int))->W.ownsRow w.heap.size 5 1 (.slice (some ⟨g,0,none⟩) (l+1) cc) (l+1) (u8s (swapTo D (j+1)))/\Below w.heap.size w W from fun W hW=>by
      subst hW
      have hd:wr.drew.ownsRow w.heap.size 5 1 (.slice (some ⟨g,0,none⟩) (l+1) cc) (l+1) (u8s (swapTo D j)):=Own.out
      have h1:=own_cell1 hd j (.int .u8 (y:Int))
      have h2:=own_cell1 h1 t (.int .u8 (x:Int))
      have e:u8s (swapTo D (j+1))=((u8s (swapTo D j)).set j (.int .u8 (y:Int))).set t (.int .u8 (x:Int)):=by
       rw [HSw.out]
       simp [u8s,List.map_set]
      rw [e]
      refine ⟨h2,?_⟩
      have hb:=own_basis1 Own.out (g:=g) rfl
      exact (Hbel.out.drew.setCell (show w.heap.size<=g from hb.1) _).setCell (show w.heap.size<=g from hb.1) _)
     clear HX HY Ht
     go_region
     go_wp2
     go_roundw
     case rel=>exact ⟨j+1,by omega,by go_num,(HEn.out _ rfl).1,(HEn.out _ rfl).2⟩
     case measure=>first | (simp [intOf]; done) | (simp [intOf]; omega)
    ·obtain rfl:j=h:=by omega
     have u1:¬ ((j:Int) < (j:Int)):=by omega
     have u2:¬ ((j:Int) < ((l:Int)+1) / 2):=by have:=Hh2.out; omega
     have HC:=hid (conv_num (xs:=swapTo D j) (n:=l+1) (c:=cc) (by rw [swapTo_len,HDl.out]) (Row.of_own hown))
     have hc:=HC.out
     clear hown hbel
     go_wp2
     go_ret
     exact ⟨by rw [HF.out]; rfl,Hbel.out⟩
  ·have t1:((q:Int) == 0)=false:=beq_eq_false_iff_ne.2 (by omega)
   go_wp2_with (at_builtin; refine wpList_app _ rfl (.tmp 5) (.tmp 10) 30 rfl w.heap.size 5 i0 (.int .u8 0) 1 1 Tryz.underlying30 hi hz0 hi1 hi2 rfl (by omega) _ l _ rfl (Own.out.alloc _) (wr.heap.size+1) (some ⟨wr.heap.size,0,none⟩) 1 1 [.int .u8 _] rfl rfl (Row.new wr _ _) (fun u hu=>by simp at hu; subst hu; rfl) (by omega) (by omega) (by have:=Hbel.out.size; simp; omega) ?_; intro A2 cc w2 hown2 hgrow hat hcc)
   have hb2:Below w.heap.size w w2:=(Hbel.out.alloc Hbel.out.size _).grown hgrow (by have:=Hbel.out.size; simp; omega) (fun g h=>Hge.out g h)
   go_roundw
   case rel =>
    have hm:=Hm.out
    have hk0:k ≠ 0:=fun e=>by subst e; have:=Hq.out; have:(10:Nat) ^ (0+1)=10:=rfl; omega
    obtain ⟨k',rfl⟩:∃ k',k=k'+1:=⟨k - 1,by omega⟩
    refine ⟨k',q,cc,A2,P ++ [48+r],by omega,by have:=Hq.out; omega,?_,rfl,by rw [List.length_append,Hl.out]; rfl,by rw [List.length_append,Hl.out]; show l+1+k'=20; omega,?_,?_,hb2⟩
    ·rw [<-Hq.out]
     exact Nat.div_lt_of_lt_mul (by rw [Nat.pow_succ] at hm; omega)
    ·rw [<-HD.out,List.append_assoc]
     show P ++ ((48+r) :: digF k' q)=P ++ digF (k'+1) m
     rw [digF_step (by rw [Hq.out]; exact hq0),Hr.out,Hq.out]
    ·rw [List.length_append,Hl.out]
     have e:u8s (P ++ [48+r])=u8s P ++ [.int .u8 (48+(r:Int))]:=by
      unfold u8s
      rw [List.map_append]
      simp
     rw [e]
     exact hown2
   case measure =>
    have:=Hq.out
    simp [intOf]; omega
theorem strOf_size (xs:List Nat):(strOfNums (xs.map fun (x:Nat)=>(x:Int))).size=xs.length:=by
 show ((xs.map fun (x:Nat)=>(x:Int)).map fun n=>UInt8.ofNat n.toNat).toArray.size=_
 simp
theorem digS_size (n:Nat):(digS n).size<=21:=by
 unfold digS
 rw [strOf_size,swapTo_len]
 exact (digF_len 20 n).2
def numS (v:Int):ByteArray:=if v < 0 then ⟨#[45]⟩ ++ digS (-v).toNat else digS v.toNat
theorem sayNumber_any (v:Int) (hv:-9223372036854775808<=v/\v<=9223372036854775807) (w:World):Calls Tryz.prog 80 #[.int .i64 v] w fun e w'=>e=.returned (.string (numS v))/\Below w.heap.size w w':=by
 by_cases h:v < 0
 ·have HD:=hid (sayDigits_any (-v).toNat (by omega) w)
  have HF:=hid (show numS v=⟨#[45]⟩ ++ digS (-v).toNat from if_pos h)
  obtain ⟨m,hm⟩:∃ m,(-v).toNat=m:=⟨_,rfl⟩
  rw [hm] at HD HF
  have hc:¬ 9223372036854775807 < 1+(digS m).size:=by have:=digS_size m; omega
  have hw1:IntKind.u64.wrap v=v+18446744073709551616:=by rw [IntKind.wrap_u64]; omega
  have hw2:IntKind.u64.wrap (-(v+18446744073709551616))=(m:Int):=by rw [IntKind.wrap_u64]; omega
  clear hm
  go_enter Tryz.func80,Tryz.ntmps80
  go_wp2_with (go_at_call 134; refine HD.out.mono ?_; rintro e w2 ⟨rfl,hb⟩)
  go_ret
  exact ⟨by rw [HF.out]; rfl,hb⟩
 ·have HD:=hid (sayDigits_any v.toNat (by omega) w)
  have HF:=hid (show numS v=digS v.toNat from if_neg h)
  obtain ⟨m,hm⟩:∃ m,v.toNat=m:=⟨_,rfl⟩
  rw [hm] at HD HF
  have hw1:IntKind.u64.wrap v=(m:Int):=by rw [IntKind.wrap_u64]; omega
  clear hm
  go_enter Tryz.func80,Tryz.ntmps80
  go_wp2_with (go_at_call 134; refine HD.out.mono ?_; rintro e w2 ⟨rfl,hb⟩)
  go_ret
  exact ⟨by rw [HF.out]; rfl,hb⟩
theorem numS_size (v:Int):(numS v).size<=22:=by
 unfold numS
 split
 ·have:=digS_size (-v).toNat
  rw [ByteArray.size_append]
  show 1+_<=_
  omega
 ·have:=digS_size v.toNat
  omega
end Go.Proofs.YtnbbfblaipjcmaaGreatDoor
