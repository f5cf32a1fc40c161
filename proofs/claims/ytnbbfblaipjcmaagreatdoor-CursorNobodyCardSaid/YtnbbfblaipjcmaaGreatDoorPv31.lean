/- BankA, BankB. Conditions: as each theorem states. -/
import Derived.Lib.BufferOwn
import Derived.Test.YtnbbfblaipjcmaaGreatDoorPv30
import Derived.Test.YtnbbfblaipjcmaaGreatDoorPv17
set_option maxRecDepth 100000
set_option maxHeartbeats 4000000
namespace Go.Proofs.YtnbbfblaipjcmaaGreatDoor
section
open Go.Lib (hid)
open Go.RowKit
def iA (c:Int):Nat->Int
 | 0=>c
 | m+1=>if bits .and .u32 (iA c m) 1=1 then bits .xor .u32 (iA c m / 2) 3988292384 else iA c m / 2
def K5 (c:Int):Int:=iA c 8
theorem FY (a b:Int):0<=bits .xor .u32 a b/\bits .xor .u32 a b < 4294967296:=by
 show 0<=IntKind.u32.wrap _/\IntKind.u32.wrap _ < _
 rw [IntKind.wrap_u32]
 omega
theorem aDn (a b:Int):0<=bits .xor .u8 a b/\bits .xor .u8 a b < 256:=by
 show 0<=IntKind.u8.wrap _/\IntKind.u8.wrap _ < _
 rw [IntKind.wrap_u8]
 omega
theorem DH {c:Int} (h:0<=c/\c < 4294967296):∀ m,0<=iA c m/\iA c m < 4294967296
 | 0=>h
 | m+1=>by
  have ih:=DH h m
  unfold iA
  split
  ·exact FY _ _
  ·omega
theorem KV (c:Int) (w:World) (hc:0<=c/\c < 256):Calls Tryz.prog 137 #[.int .u8 c] w fun e w'=>e=.returned (.int .u32 (K5 c))/\w=w':=by
 have HB:=hid (fun m=>DH (c:=c) (by omega) m)
 have HS:=hid (fun m=>(show iA c (m+1)=if bits .and .u32 (iA c m) 1=1 then bits .xor .u32 (iA c m / 2) 3988292384 else iA c m / 2 from rfl))
 have H8:=hid (show K5 c=iA c 8 from rfl)
 have hw:IntKind.u32.wrap c=c:=by rw [IntKind.wrap_u32]; omega
 go_enter Tryz.func137,Tryz.ntmps137
 go_wp2
 go_loopw [3,6] (fun x i wr=>∃ m:Nat,m<=8/\i=.int .i64 m/\x=.int .u32 (iA c m)/\w=wr) (fun _ i _=>8 - (intOf i).toNat)
 case atStart=>exact ⟨0,by omega,rfl,rfl,rfl⟩
 case round =>
  obtain ⟨m,hm,rfl,rfl,rfl⟩:=hrel
  by_cases hlt:m < 8
  ·have t1:(m:Int) < 8:=by omega
   have HS2:=hid (HS.out m)
   have hbd:=HB.out m
   generalize iA c m=x at *
   by_cases h1:bits .and .u32 x 1=1
   ·have t2:(bits .and .u32 x 1 == 1)=true:=by rw [h1]; rfl
    rw [if_pos h1] at HS2
    clear h1
    go_wp2
    go_roundw
    case rel=>exact ⟨m+1,by omega,by go_num,by rw [HS2.out],trivial⟩
    case measure=>simp [intOf]; omega
   ·have t2:(bits .and .u32 x 1 == 1)=false:=beq_eq_false_iff_ne.2 h1
    rw [if_neg h1] at HS2
    clear h1
    go_wp2
    go_roundw
    case rel=>exact ⟨m+1,by omega,by go_num,by rw [HS2.out],trivial⟩
    case measure=>simp [intOf]; omega
  ·have hm8:m=8:=by omega
   subst hm8
   have t1:¬ (((8:Nat):Int) < 8):=by omega
   go_wp2
   go_ret
   exact ⟨by rw [H8.out]; rfl,rfl⟩
def oP (l:List Nat):Nat->Int
 | 0=>4294967295
 | m+1=>bits .xor .u32 (K5 (bits .xor .u8 (IntKind.u8.wrap (oP l m)) ((l.getD m 0:Nat):Int))) (oP l m / 256)
def lD (l:List Nat):Int:=bits .xor .u32 (-1) (oP l l.length)
theorem aBc (l:List Nat):∀ m,0<=oP l m/\oP l m < 4294967296
 | 0=>by unfold oP; omega
 | m+1=>by unfold oP; exact FY _ _
theorem sM (l:List Nat):0<=lD l/\lD l < 4294967296:=FY _ _
theorem pZ (l:List Nat) (A:Option Addr) (cap:Nat) (w:World) (hl:l.length<=1000000000) (hr:Row w w.heap.size A (u8s l)) :
  Calls Tryz.prog 92 #[.slice A l.length cap] w fun e w'=>e=.returned (.int .u32 (lD l))/\w=w':=by
 have HB:=hid (aBc l)
 have HS:=hid (fun m=>(show oP l (m+1)=bits .xor .u32 (K5 (bits .xor .u8 (IntKind.u8.wrap (oP l m)) ((l.getD m 0:Nat):Int))) (oP l m / 256) from rfl))
 have HZ:=hid (show lD l=bits .xor .u32 (-1) (oP l l.length) from rfl)
 have HE:=hid (fun c W (h:0<=c/\c < 256)=>KV c W h)
 have Hr:=hid hr
 obtain ⟨n,hn⟩:∃ n,l.length=n:=⟨_,rfl⟩
 rw [hn] at hl HZ ⊢
 have Hn:=hid hn
 clear hr hn
 go_enter Tryz.func92,Tryz.ntmps92
 go_wp2
 go_loopw [3,8] (fun x i wr=>∃ m:Nat,m<=n/\i=.int .i64 m/\x=.int .u32 (oP l m)/\w=wr) (fun _ i _=>n - (intOf i).toNat)
 case atStart=>exact ⟨0,by omega,rfl,rfl,rfl⟩
 case round =>
  obtain ⟨m,hm,rfl,rfl,rfl⟩:=hrel
  by_cases hlt:m < n
  ·have t1:(m:Int) < (n:Int):=by omega
   have t2:(0:Int)<=(m:Int):=by omega
   obtain ⟨y,hy⟩:=aE (k:=m) Hn.out hlt
   have hyd:l.getD m 0=y:=by rw [List.getD_eq_getElem?_getD,hy]; rfl
   have HS2:=HS.out m
   rw [hyd] at HS2
   obtain ⟨b,off,rfl,hb,hc⟩:=Hr.out m (.int .u8 y) (by unfold u8s; rw [List.getElem?_map,hy]; rfl)
   have hbd:=HB.out m
   generalize oP l m=x at *
   have Hs2:=hid HS2
   have hq:=aDn (IntKind.u8.wrap x) (y:Int)
   have HE2:=hid (fun W=>HE.out _ W hq)
   clear hy hyd HS2 hb hq
   go_wp2_with (go_at_call 137; refine (HE2.out _).mono ?_; rintro e w2 ⟨rfl,rfl⟩)
   go_roundw
   case rel=>exact ⟨m+1,by omega,by go_num,by rw [Hs2.out,IntKind.wrap_u8],trivial⟩
   case measure=>simp [intOf]; omega
  ·have hmn:m=n:=by omega
   subst hmn
   have t1:¬ ((m:Int) < (m:Int)):=by omega
   go_wp2
   go_ret
   exact ⟨by rw [HZ.out]; rfl,rfl⟩
end
section
open Go.RowKit Go.Lib
theorem aDk (l:List Nat) (i x:Nat):u8s (l.set i x)=(u8s l).set i (.int .u8 (x:Int)):=by simp [u8s,List.map_set]
theorem VK {xs bs:List Nat} {o m x:Nat} (h:xs[m]? = some x) (hb:o+xs.length<=bs.length):(aS bs o (xs.take m)).set (o+m) x=aS bs o (xs.take (m+1)):=by
 have hm:=(List.getElem?_eq_some_iff.1 h).1
 have h1:(xs.take m).length=m:=by rw [List.length_take]; omega
 have h2:(xs.take (m+1)).length=m+1:=by rw [List.length_take]; omega
 refine List.ext_getElem? fun i=>?_
 rw [List.getElem?_set,lN (by omega),lN (by omega),cT (by omega),h1,h2]
 by_cases h3:o+m=i
 ·subst h3
  rw [if_pos rfl,if_pos (by omega),if_pos (by omega),List.getElem?_take_of_lt (by omega),show o+m - o=m by omega,h]
 ·rw [if_neg h3]
  by_cases h4:o<=i/\i < o+m
  ·rw [if_pos h4,if_pos (by omega),List.getElem?_take_of_lt (by omega),List.getElem?_take_of_lt (by omega)]
  ·rw [if_neg h4,if_neg (by omega)]
def cP (size v:Nat):List Nat:=(List.range size).map fun i=>v / 2 ^ (8*(size - 1 - i)) % 256
theorem bF (size v:Nat):(cP size v).length=size:=by simp [cP]
theorem QE {size v i:Nat} (h:i < size):(cP size v)[i]? = some (v / 2 ^ (8*(size - 1 - i)) % 256):=by
 unfold cP
 rw [List.getElem?_map,List.getElem?_range h]; rfl
def BytesAt (w:World) (g:Nat) (bs:List Nat):Prop:=Blk w g 5 (u8s bs)
theorem BytesAt.cell {w:World} {g:Nat} {bs:List Nat} (h:BytesAt w g bs) {i x:Nat} (hx:bs[i]? = some x):w.cell? ⟨g,i,none⟩=some (.int .u8 (x:Int)):=by
 rw [aG h]; exact d9 hx
theorem BytesAt.put {w:World} {g:Nat} {bs:List Nat} (h:BytesAt w g bs) (i x:Nat):BytesAt (w.setCell ⟨g,i,none⟩ (.int .u8 (x:Int))) g (bs.set i x):=by
 unfold BytesAt
 rw [aDk]
 exact Blk.set_ h i _
def gN (w:World) (g:Nat) (bs:List Nat) (e:Ending) (w':World):Prop:=e=.returned (.tuple #[])/\BytesAt w' g bs/\w.grownBy w' (some g)
theorem uY (bs:List Nat) (g off n cap at_ size v:Nat) (w:World) (hb:BytesAt w g bs) (hn:off+n<=bs.length) (ha:at_+size<=n) (hl:n<=1000000000) (hs:size<=4) :
  Calls Tryz.prog 177 #[.slice (some ⟨g,off,none⟩) n cap,.int .i64 at_,.int .i64 size,.int .i64 v] w (gN w g (aS bs (off+at_) (cP size v))):=by
 unfold gN
 have Hb:=hid hb
 have HP:=hid (fun m x (h:(cP size v)[m]? = some x)=>VK (o:=off+at_) (bs:=bs) h (by rw [bF]; omega))
 have HN:=hid (fun i (h:i < size)=>QE (v:=v) h)
 have HL:=hid (bF size v)
 have H0:=hid (show aS bs (off+at_) ((cP size v).take 0)=bs by simp [aS])
 have HX:=hid (show (cP size v).take size=cP size v from List.take_of_length_le (by rw [HL.out]; exact Nat.le_refl _))
 have HC:=hid (fun m (h:m < size)=>(show ∃ y,(aS bs (off+at_) ((cP size v).take m))[off+at_+m]? = some y from by
  have h1:((cP size v).take m).length=m:=by rw [List.length_take,HL.out]; omega
  refine ⟨_,List.getElem?_eq_getElem ?_⟩
  rw [cT (by rw [h1]; omega)]
  omega))
 generalize cP size v=X at *
 clear hb hn
 go_enter Tryz.func177,Tryz.ntmps177
 go_wp2
 go_loopw [10] (fun i wr=>∃ m:Nat,m<=size/\i=.int .i64 m/\BytesAt wr g (aS bs (off+at_) (X.take m))/\w.grownBy wr (some g)) (fun i _=>size - (intOf i).toNat)
 case atStart=>exact ⟨0,by omega,rfl,by rw [H0.out]; exact Hb.out,World.grownBy.refl _ _⟩
 case round =>
  obtain ⟨m,hm,rfl,hby,hgr⟩:=hrel
  have Hby:=hid hby
  have Hgr:=hid hgr
  clear hby hgr
  by_cases hlt:m < size
  ·have t1:(m:Int) < (size:Int):=by omega
   obtain ⟨y,hy⟩:=HC.out m hlt
   rw [Nat.add_assoc] at hy
   have c1:=Hby.out.cell hy
   have y1:=lW Hby.out
   obtain ⟨r,hr⟩:∃ r,size - 1 - m=r:=⟨_,rfl⟩
   have hr2:(size:Int) - 1 - (m:Int)=(r:Int):=by omega
   have HNm:=hid (HN.out m hlt)
   rw [hr] at HNm
   have hrs:r<=3:=by omega
   have HPm:=hid (HP.out m _ HNm.out)
   have HPu:=hid (Hby.out.put (off+(at_+m)) (v / 2 ^ (8*r) % 256))
   clear hy
   go_wp2
   go_roundw
   case rel =>
    refine ⟨m+1,by omega,by go_num,?_,grownBy_setB Hgr.out _ _⟩
    have h1:=HPu.out
    rw [<-Nat.add_assoc,HPm.out] at h1
    have e1:((v / 2 ^ (8*r) % 256:Nat):Int)=(v:Int) / 2 ^ (8*r) % 256:=by push_cast; rfl
    rw [e1,Nat.add_assoc] at h1
    exact h1
   case measure=>simp [intOf]; omega
  ·have hmn:m=size:=by omega
   subst hmn
   have t1:¬ ((m:Int) < (m:Int)):=by omega
   have B2:=Hby.out
   rw [HX.out] at B2
   have HB2:=hid B2
   clear B2
   go_wp2
   refine bodyPost_end (v:=.tuple #[]) (results_none Tryz.results177 _ _ _) rfl ?_
   exact ⟨rfl,HB2.out,Hgr.out⟩
end
end Go.Proofs.YtnbbfblaipjcmaaGreatDoor
