/- ParD, ListB. Conditions: as each theorem states. -/
import Derived.Test.YtnbbfblaipjcmaaGreatDoorPu07
import Derived.Test.YtnbbfblaipjcmaaGreatDoorPu40
import Derived.Test.YtnbbfblaipjcmaaGreatDoorPu38
import Derived.Test.YtnbbfblaipjcmaaGreatDoorPu41
namespace Go.Proofs.YtnbbfblaipjcmaaGreatDoor
section
open Go.RowKit Go.Lib
theorem step_app {P:Program} {ops:Array Oper} {o:Oper} {a:Act} {w:World} {K:Act->World->Prop} {Q:Exit->Act->World->Prop} {E:Prop}
  (hg:o.guard=none) (s x:Operand) (t:TypeId) (hop:o.op=Op.call { callee:=Callee.builtin Builtin.append,args:=#[s,x],argTypes:=#[t,t] })
  (base:Nat) (e:TypeId) (i:TypeInfo) (z:Value) (size bytes:Nat) (ht:P.underlying t=some (.slice e)) (hi:P.info? e=some i) (hz:i.zero=some z)
  (hsize:i.size=size) (hby:i.bytes=bytes) (hzs:z.cells.size=size) (hsz:0 < size)
  (v:Value) (n:Nat) (xs:List Value) (hs:a.eval s=v) (hown:w.ownsRow base e size v n xs)
  (B:Nat) (A:Option Addr) (m c:Nat) (news:List Value) (hx:a.eval x=.slice A m c) (hl:news.length=m*size) (hr:Row w B A news) (h1:∀ u ∈ news,u.oneCell'=true)
  (h63:n+m<=9223372036854775807) (hbytes:(n+m)*bytes<=140737488355328) (hbase:base<=w.heap.size)
  (hK:∀ A' c' w',w'.ownsRow base e size (.slice A' (n+m) c') (n+m) (xs ++ news)->w.grownBy w' v.ownBlock ->
   ((Value.slice A' (n+m) c').ownBlock=v.ownBlock\/(Value.slice A' (n+m) c').ownBlock=some w.heap.size)->n+m<=c'->K (a.put o.dst (.slice A' (n+m) c')) w') :
  if Region.wanted o (yielded ops a.tmps)=true then Oper.wp P o a w K Q else E:=by
 have hw:Region.wanted o (yielded ops a.tmps)=true:=by simp [Region.wanted,hg]
 rw [if_pos hw]
 obtain ⟨A',c',w',hrun,h2,h3,h4,h5⟩:=run_app (P:=P) w base t o.type e i z size bytes ht hi hz hsize hby hzs hsz v n xs hown B A m c news hl hr h1 h63 hbytes hbase
 unfold Oper.wp
 simp [execOp,hop,resolve,invoke,builtin,hs,hx,hrun,Result.andThen]
 exact hK _ _ _ h2 h3 h4 h5
structure BankAt (w:World) (g:Nat) (bs:List Nat) (size:Nat) (D:List MetaV):Prop where
 at_:∃ Ai ci Ad cd,w.heap[g]? = some (.cells #[.slice Ai bs.length ci,.int .i64 size,.slice Ad D.length cd] 159 (0,0))/\Row w w.heap.size Ai (u8s bs)/\Row w w.heap.size Ad (metaCells D)/\bs.length<=ci/\ci<=9223372036854775807/\D.length<=cd/\cd<=9223372036854775807/\(Ai=none->ci=0)/\(Ad=none->cd=0)
theorem BankAt.later {w w':World} {g:Nat} {bs:List Nat} {size:Nat} {D:List MetaV} (h:BankAt w g bs size D) (hb:Below w.heap.size w w'):BankAt w' g bs size D:=by
 obtain ⟨Ai,ci,Ad,cd,h1,h2,h3,h4,h5,h6,h7,h8,h9⟩:=h.at_
 exact ⟨Ai,ci,Ad,cd,hkeep h1 hb,h2.later hb,h3.later hb,h4,h5,h6,h7,h8,h9⟩
def ParsePost (w:World) (bs:List Nat) (e:Ending) (w':World):Prop :=
 (parseZ bs ≠ 0/\e=.returned (.tuple #[.pointer none,.int .i64 (parseZ bs)])/\Below w.heap.size w w') \/
 (parseZ bs=0/\∃ g,e=.returned (.tuple #[.pointer (some ⟨g,0,none⟩),.int .i64 0])/\w.heap.size<=g/\BankAt w' g bs (sizeZ bs) (dirZ bs (cntZ bs))/\Below w.heap.size w w')
end
section
open Go.RowKit Go.Lib
def plainZ (c:Nat):Bool:=decide (32 < c) && decide (c < 127) && decide (c ≠ 37)
theorem sayPlain_any (c:Nat) (w:World):Calls Tryz.prog 135 #[.int .u8 (c:Int)] w fun e w'=>e=.returned (.bool (plainZ c))/\w=w':=by
 have HP:=hid (show plainZ c=(decide (32 < c) && decide (c < 127) && decide (c ≠ 37)) from rfl)
 generalize plainZ c=B at *
 by_cases h1:32 < c
 ·have t1:(32:Int) < (c:Int):=by omega
  by_cases h2:c < 127
  ·have t2:(c:Int) < 127:=by omega
   by_cases h3:c=37
   ·subst h3
    have e:B=false:=HP.out
    subst e
    go_enter Tryz.func135,Tryz.ntmps135
    go_wp2
    go_ret
    exact ⟨rfl,rfl⟩
   ·have t3:((c:Int) != 37)=true:=by rw [bne_iff_ne]; omega
    have e:B=true:=by rw [HP.out]; simp [h1,h2,h3]
    subst e
    clear HP h3
    go_enter Tryz.func135,Tryz.ntmps135
    go_wp2
    go_ret
    exact ⟨rfl,rfl⟩
  ·have t2:¬ (c:Int) < 127:=by omega
   have e:B=false:=by rw [HP.out]; simp [h2]
   subst e
   clear HP
   go_enter Tryz.func135,Tryz.ntmps135
   go_wp2
   go_ret
   exact ⟨rfl,rfl⟩
 ·have t1:¬ (32:Int) < (c:Int):=by omega
  have e:B=false:=by rw [HP.out]; simp [h1]
  subst e
  clear HP
  go_enter Tryz.func135,Tryz.ntmps135
  go_wp2
  go_ret
  exact ⟨rfl,rfl⟩
def hexB (x:Nat):Nat:=if x < 10 then 48+x else 87+x
theorem hex_get:∀ (x:Nat) (h:x < (ByteArray.mk #[48,49,50,51,52,53,54,55,56,57,97,98,99,100,101,102]).size),(ByteArray.mk #[48,49,50,51,52,53,54,55,56,57,97,98,99,100,101,102])[x].toNat=hexB x
 | 0,_=>rfl
 | 1,_=>rfl
 | 2,_=>rfl
 | 3,_=>rfl
 | 4,_=>rfl
 | 5,_=>rfl
 | 6,_=>rfl
 | 7,_=>rfl
 | 8,_=>rfl
 | 9,_=>rfl
 | 10,_=>rfl
 | 11,_=>rfl
 | 12,_=>rfl
 | 13,_=>rfl
 | 14,_=>rfl
 | 15,_=>rfl
 | n+16,h=>absurd h (by show ¬ (n+16 < 16); omega)
def wordB (c:Nat):List Nat:=if plainZ c then [c] else [37,hexB (c / 16),hexB (c % 16)]
def wordL (l:List UInt8):List Nat:=(l.map fun c=>wordB c.toNat).flatten
def wordS (s:ByteArray):ByteArray:=strOfNums (((61 :: wordL s.data.toList)).map fun (x:Nat)=>(x:Int))
theorem wordL_snoc (s:ByteArray) (k:Nat) (h:k < s.size):wordL (s.data.toList.take (k+1))=wordL (s.data.toList.take k) ++ wordB s[k].toNat:=by
 have h':k < s.data.toList.length:=by simpa using h
 unfold wordL
 rw [List.take_succ_eq_append_getElem h',List.map_append,List.flatten_append]
 simp; rfl
theorem wordB_len (c:Nat):(wordB c).length<=3:=by unfold wordB; split <;> simp
theorem wordL_len:∀ (l:List UInt8),(wordL l).length<=3*l.length
 | []=>Nat.le_refl _
 | c :: r=>by
  have h1:=wordB_len c.toNat
  have h2:=wordL_len r
  show (wordB c.toNat ++ wordL r).length<=_
  rw [List.length_append,List.length_cons]
  omega
theorem wordS_size (s:ByteArray):(wordS s).size<=1+3*s.size:=by
 unfold wordS
 rw [strOf_size,List.length_cons]
 have:=wordL_len s.data.toList
 have e:s.data.toList.length=s.size:=by simp
 omega
theorem own_built1 (w:World) (e:TypeId) (x:Value):(w.alloc (.cells #[x] e)).ownsRow w.heap.size e 1 (.slice (some ⟨w.heap.size,0,none⟩) 1 1) 1 [x] :=
 ⟨rfl,.inr ⟨w.heap.size,1,#[x],rfl,Nat.le_refl _,heap_alloc_new w _,Nat.le_refl _,by decide,rfl,rfl⟩⟩
set_option maxRecDepth 100000 in
set_option maxHeartbeats 4000000 in
theorem sayWord_any (s:ByteArray) (hs:s.size<=1000000) (w:World):Calls Tryz.prog 81 #[.string s] w fun e w'=>e=.returned (.string (wordS s))/\Below w.heap.size w w':=by
 obtain ⟨i0,hi,hz0,hi1,hi2⟩:=info_parts inf_u8
 have HW:=hid (show wordS s=strOfNums (((61 :: wordL s.data.toList)).map fun (x:Nat)=>(x:Int)) from rfl)
 have HT:=hid (fun k (h:k < s.size)=>wordL_snoc s k h)
 have HE:=hid (show s.data.toList.take s.size=s.data.toList from List.take_of_length_le (by simp))
 have HLn:=hid (fun (k:Nat) (hk:k<=s.size)=>(show (wordL (s.data.toList.take k)).length<=3*k by
  have:=wordL_len (s.data.toList.take k)
  rw [List.length_take] at this
  omega))
 generalize wordS s=WS at *
 have HO0:=hid (own_built1 w 5 (.int .u8 61))
 have hs8:s.size<=1000000:=hs
 go_enter Tryz.func81,Tryz.ntmps81
 go_wp2_with fail
 go_loopw [9,3] (fun i b wr=>∃ (k l c:Nat) (A:Option Addr),k<=s.size/\i=.int .i64 k/\b=.slice A l c/\(61 :: wordL (s.data.toList.take k)).length=l/\wr.ownsRow w.heap.size 5 1 (.slice A l c) l (u8s (61 :: wordL (s.data.toList.take k)))/\Below w.heap.size w wr) (fun i _ _=>s.size - (intOf i).toNat)
 case atStart=>exact ⟨0,1,1,some ⟨w.heap.size,0,none⟩,by omega,rfl,rfl,rfl,HO0.out,bnew w _⟩
 case round =>
  obtain ⟨k,l,c,A,hk,rfl,rfl,hl,hown,hbel⟩:=hrel
  have Own:=hid hown
  have Hbel:=hid hbel
  have Hge:=hid (own_block_ge hown)
  have hl3:l<=1+3*k:=by
   have:=HLn.out k hk
   rw [<-hl,List.length_cons]
   omega
  have Hl:=hid hl
  clear hown hbel hl
  by_cases hlt':k < s.size
  ·obtain ⟨x,hx⟩:∃ x,s[k].toNat=x:=⟨_,rfl⟩
   have hx256:x < 256:=by rw [<-hx]; exact UInt8.toNat_lt _
   have HPl:=hid (fun W=>sayPlain_any x W)
   have HT1:=hid (HT.out k hlt')
   rw [hx] at HT1
   have HB:=hid (show wordB x=if plainZ x then [x] else [37,hexB (x / 16),hexB (x % 16)] from rfl)
   obtain ⟨B,hB⟩:∃ B,plainZ x=B:=⟨_,rfl⟩
   rw [hB] at HPl HB
   clear hB
   cases B with
   | true =>
    go_wp2_with (first | (go_at_call 135; refine (HPl.out _).mono ?_; rintro e w' ⟨rfl,rfl⟩) | (at_builtin; refine wpList_app _ rfl (.tmp 17) (.tmp 19) 30 rfl w.heap.size 5 i0 (.int .u8 0) 1 1 Tryz.underlying30 hi hz0 hi1 hi2 rfl (by omega) _ l _ rfl (Own.out.alloc _) (wr.heap.size+1) (some ⟨wr.heap.size,0,none⟩) 1 1 [.int .u8 _] rfl rfl (Row.new wr _ _) (fun u hu=>by simp at hu; subst hu; rfl) (by omega) (by omega) (by have:=Hbel.out.size; simp; omega) ?_; intro A2 cc w2 hown2 hgrow hat hcc))
    go_roundw
    case rel =>
     have hb2:Below w.heap.size w w2:=(Hbel.out.alloc Hbel.out.size _).grown hgrow (by have:=Hbel.out.size; simp; omega) (fun g h=>Hge.out g h)
     have e:(61 :: wordL (s.data.toList.take (k+1)))=(61 :: wordL (s.data.toList.take k)) ++ [x]:=by
      rw [HT1.out,HB.out]; rfl
     refine ⟨k+1,l+1,cc,A2,by omega,by go_num,rfl,?_,?_,hb2⟩
     ·rw [e,List.length_append,Hl.out]; rfl
     ·rw [e]
      have e2:u8s ((61 :: wordL (s.data.toList.take k)) ++ [x])=u8s (61 :: wordL (s.data.toList.take k)) ++ [.int .u8 (x:Int)]:=by
       unfold u8s
       rw [List.map_append]; rfl
      rw [e2]
      exact hown2
    case measure=>first | (simp [intOf]; done) | (simp [intOf]; omega)
   | false =>
    obtain ⟨p,hp⟩:∃ p,x / 16=p:=⟨_,rfl⟩
    obtain ⟨q,hq⟩:∃ q,x % 16=q:=⟨_,rfl⟩
    have hsh:(x:Int) / 16=(p:Int):=by rw [<-hp]; rfl
    have hp16:(p:Int) < 16:=by omega
    have hq16:(q:Int) < 16:=by omega
    have hp16':p < 16:=by omega
    have hq16':q < 16:=by omega
    have hgp:=hex_get p hp16'
    have hgq:=hex_get q hq16'
    have hand:bits .and .u8 (x:Int) 15=(q:Int):=by
     have h:=(show ∀ y:Fin 256,bits .and .u8 (y.1:Int) 15=((y.1 % 16:Nat):Int) by decide +kernel) ⟨x,hx256⟩
     rw [<-hq]; exact h
    rw [hp,hq] at HB
    generalize hexB p=P at *
    generalize hexB q=Q at *
    have Hd:=hid (own_below Own.out (below_drew1 wr))
    clear hp hq
    go_wp2_with (go_at_call 135; refine (HPl.out _).mono ?_; rintro e w' ⟨rfl,rfl⟩)
    go_region_law (first | (refine step_app (by rfl) _ _ _ (by rfl) w.heap.size 5 i0 (.int .u8 0) 1 1 Tryz.underlying30 hi hz0 hi1 hi2 rfl (by omega) (.slice A l c) l (u8s (61 :: wordL (s.data.toList.take k))) (by rfl) (own_below Hd.out (bnew _ _)) (wr.drew.heap.size+1) (some ⟨wr.drew.heap.size,0,none⟩) 3 3 [.int .u8 37,.int .u8 (P:Nat),.int .u8 (Q:Nat)] (by rfl) (by rfl) (Row.new wr.drew _ [.int .u8 37,.int .u8 (P:Nat),.int .u8 (Q:Nat)]) (fun u hu=>by simp at hu; rcases hu with rfl | rfl | rfl <;> rfl) (by omega) (by omega) (by have:=Hbel.out.size; simp; omega) ?_; intro A2 cc w2 hown2 hgrow hat hcc))
    all_goals
     go_wp2
     go_roundw
     case rel =>
      have hb2:Below w.heap.size w w2:=(bnext (bnext Hbel.out (below_drew1 wr)) (bnew wr.drew _)).grown hgrow (by have:=Hbel.out.size; simp; omega) (fun g h=>Hge.out g h)
      have e:(61 :: wordL (s.data.toList.take (k+1)))=(61 :: wordL (s.data.toList.take k)) ++ [37,P,Q]:=by
       rw [HT1.out,HB.out]; rfl
      refine ⟨k+1,l+3,cc,A2,by omega,by go_num,rfl,?_,?_,hb2⟩
      ·rw [e,List.length_append,Hl.out]; rfl
      ·rw [e]
       have e2:u8s ((61 :: wordL (s.data.toList.take k)) ++ [37,P,Q])=u8s (61 :: wordL (s.data.toList.take k)) ++ [.int .u8 37,.int .u8 (P:Nat),.int .u8 (Q:Nat)]:=by
        unfold u8s
        rw [List.map_append]; rfl
       rw [e2]
       exact hown2
     case measure=>first | (simp [intOf]; done) | (simp [intOf]; omega)
  ·obtain rfl:k=s.size:=by omega
   have hA0:0 < l:=by rw [<-Hl.out,List.length_cons]; omega
   obtain ⟨g,rfl⟩:∃ g,A=some ⟨g,0,none⟩:=by
    rcases Own.out.2 with ⟨_,h0⟩ | ⟨g,cap',cur,h,_⟩
    ·omega
    ·injection h with h; exact ⟨g,h⟩
   have hc:=conv_num (xs:=61 :: wordL (s.data.toList.take s.size)) (n:=l) (c:=c) Hl.out (Row.of_own Own.out)
   rw [HE.out,<-HW.out] at hc
   go_wp2
   go_ret
   exact ⟨rfl,Hbel.out⟩
end
end Go.Proofs.YtnbbfblaipjcmaaGreatDoor
