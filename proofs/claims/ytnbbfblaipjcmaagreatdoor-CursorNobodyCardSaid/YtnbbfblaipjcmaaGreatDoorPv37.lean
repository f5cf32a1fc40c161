/- SampC. Conditions: as each theorem states. -/
import Derived.Test.YtnbbfblaipjcmaaGreatDoorPv34
import Derived.Test.YtnbbfblaipjcmaaGreatDoorPv36
set_option maxRecDepth 100000
set_option maxHeartbeats 1000000
namespace Go.Proofs.YtnbbfblaipjcmaaGreatDoor
open Go.Lib (hid)
open Go.RowKit Go.Shelf
theorem PA:(Tryz.prog.info? 138).map (fun i=>(i.zero,i.size,i.bytes))=some (some (.agg #[.string ⟨#[]⟩,.int .i64 0,.bool false,.int .i64 0,.int .i64 0,.slice none 0 0]),6,72):=by kernel_rfl
def pB (L:List (HSamp × SampV)):List ASamp:=L.zipIdx.map fun p=>⟨(p.2:Int),p.1.1,p.1.2⟩
theorem AR {α β:Type} (f:α->β) (L:List α):∀ k,(L.zipIdx k).map (fun p=>f p.1)=L.map f:=by
 induction L with
 | nil=>intro k; rfl
 | cons x r ih=>intro k; rw [List.zipIdx_cons,List.map_cons,List.map_cons,ih]
theorem VA (L:List (HSamp × SampV)):((pB L).map ASamp.cells).flatten=eW L:=by
 unfold pB eW
 rw [List.map_map]
 congr 1
 exact AR (fun p:HSamp × SampV=>p.1.cells) L 0
theorem aBU (L:List (HSamp × SampV)):(pB L).map (·.s)=L.map (·.2):=by
 unfold pB
 rw [List.map_map]
 exact AR (fun p:HSamp × SampV=>p.2) L 0
theorem rY (L:List (HSamp × SampV)):(pB L).length=L.length:=by unfold pB; simp
theorem aBT (L:List (HSamp × SampV)):(pB L).map (fun x=>(x.idx,x.s))=((pB L).map (·.s)).zipIdx.map fun p=>((p.2:Int),p.1):=by
 rw [aBU]
 unfold pB
 rw [List.map_map,List.zipIdx_map,List.map_map]
 rfl
theorem QF {L:List (HSamp × SampV)} {x:ASamp} (h:x ∈ pB L):(x.h,x.s) ∈ L:=by
 unfold pB at h
 obtain ⟨p,hp,rfl⟩:=List.mem_map.1 h
 exact List.fst_mem_of_mem_zipIdx hp
def BY (W:World) (l:List ASamp) (e:Ending) (w':World):Prop:=∃ A c,e=.returned (.slice A l.length c)/\l.length<=c/\c<=9223372036854775807/\(A=none->c=0)/\jT ASamp.cells 6 W.heap.size w' A l/\Below W.heap.size W w'
theorem TL (l:List ASamp) (A:Option Addr) (cap:Nat) (w:World) (hl:l.length<=1000000) (hn:A=none->cap=0) (hr:Row w w.heap.size A ((l.map ASamp.cells).flatten)) :
  Calls Tryz.prog 169 #[.slice A l.length cap] w (BY w l):=by
 obtain ⟨i0,hi,hz0,hz1,hz2⟩:=info_parts PA
 have hq:=fun (W:World) (a:Option Addr) (n c:Nat)=>Lib.run_eql_slice_nil (P:=Tryz.prog) W 22 138 a n c 0 0 Tryz.underlying22
 rcases A with _ | ad
 ·have h0:l=[]:=by
   cases l with
   | nil=>rfl
   | cons z r=>obtain ⟨b,off,h,_⟩:=hr 0 (.string z.h.nm) rfl; cases h
  subst h0
  obtain rfl:=hn rfl
  go_enter Tryz.func169,Tryz.ntmps169
  go_wp2
  go_ret
  exact ⟨none,0,rfl,Nat.le_refl _,by omega,fun _=>rfl,.inl rfl,Below.refl _ _⟩
 ·clear hn
  have Hr:=hid hr
  have HL:=hid (nU LF l)
  have HO:∀ u ∈ (l.map ASamp.cells).flatten,u.oneCell'=true:=by
   intro u hu
   obtain ⟨cs,hcs,hu⟩:=List.mem_flatten.1 hu
   obtain ⟨z,_,rfl⟩:=List.mem_map.1 hcs
   exact UY z u hu
  have HO1:=hid HO
  clear hr HO
  obtain ⟨n,hn⟩:∃ n,l.length=n:=⟨_,rfl⟩
  have Hn:=hid hn
  rw [hn] at hl ⊢
  clear hn
  go_enter Tryz.func169,Tryz.ntmps169
  go_wp2_with (at_builtin; refine c9 _ rfl (.tmp 5) (.tmp 6) 22 rfl w.heap.size 138 i0 _ 6 72 Tryz.underlying22 hi hz0 hz1 hz2 rfl (by omega) _ 0 [] rfl (mP w _ _) w.heap.size (some ad) n cap ((l.map ASamp.cells).flatten) rfl (by rw [HL.out,Hn.out]) (Hr.out.below (aL _ _)) HO1.out (by omega) (by omega) (by simp) ?_; intro A' cc w2 hown2 hgrow hat hcc)
  go_ret
  rw [Nat.zero_add] at hown2 hcc
  rw [List.nil_append] at hown2
  obtain ⟨A3,c3,h3,_,hn3⟩:=iL hown2
  injection h3 with e1 _ e3
  subst e1 e3
  exact ⟨A',cc,by rw [Hn.out]; rfl,by rw [Hn.out]; exact hcc,iY hown2,fun h=>(hn3 h).2,JB LF (by omega) hown2,(aL _ _).grown hgrow (by simp) (bJ (mP w 138 6))⟩
def SM (W:World) (ss:List SampV) (e:Ending) (w':World):Prop :=
 ∃ A c L',e=.returned (.slice A (List.length L') c)/\L'.map (·.2)=ss/\List.length L'<=c/\c<=9223372036854775807/\(A=none->c=0)/\SampsAt w' w'.heap.size A L'/\Below W.heap.size W w'
theorem ML (L:List (HSamp × SampV)) (A:Option Addr) (cap:Nat) (w:World) (hl:L.length<=19) (hn:A=none->cap=0) (hs:SampsAt w w.heap.size A L) :
  Calls Tryz.prog 126 #[.slice A L.length cap] w (SM w (dF (L.map (·.2)))):=by
 have hproj:=VW (pB L) (fun x hx=>(hs.fits _ (QF hx)).1.1) (aBT L)
 rw [aBU] at hproj
 have hperm:=gJ (ltOf mK) RC (pB L)
 have hrow:=hs.row
 rw [<-VA] at hrow
 have HC:=hid (TL (pB L) A cap w (by rw [rY]; omega) hn hrow)
 have HQ:=hid (fun A' c w' (hh:jT ASamp.cells 6 w.heap.size w' A' (pB L))=>QZ mK 171 RC ZS (fun args w=>by kernel_rfl) (pB L) A' c w.heap.size w' hh (by rw [rY]; exact hl))
 have hfit:∀ p ∈ (dJ (ltOf mK) (pB L)).map (fun x=>(x.h,x.s)),p.1.fits w w.heap.size p.2:=by
  intro p hp
  obtain ⟨x,hx,rfl⟩:=List.mem_map.1 hp
  exact hs.fits _ (QF (hperm.subset hx))
 have hlen:((dJ (ltOf mK) (pB L)).map (fun x=>(x.h,x.s))).length=L.length:=by rw [List.length_map,hperm.length_eq,rY]
 rw [rY] at HQ
 have HF:=hid hfit
 have HP:=hid hproj
 have HL:=hid hlen
 have HN:=hid (rY L)
 clear hproj hperm hrow hfit hlen hn hs
 generalize dJ (ltOf mK) (pB L)=S at *
 generalize pB L=M at *
 obtain ⟨n,hnn⟩:∃ n,L.length=n:=⟨_,rfl⟩
 rw [hnn] at HQ HL HN hl ⊢
 have Hn:=hid hnn
 clear hnn
 go_enter Tryz.func126,Tryz.ntmps126
 go_wp2_with fail
 have HC2:=hid (show Calls Tryz.prog 169 #[.slice A n cap] w (BY w M) by have:=HC.out; rw [HN.out] at this; exact this)
 refine HC2.out.mono ?_
 rintro e w1 ⟨A1,c1,rfl,h1,h2,h3,hh,hb1⟩
 rw [HN.out] at h1 ⊢
 have HQ1:=hid (HQ.out A1 c1 w1 hh)
 have Hb1:=hid hb1
 have H3:=hid h3
 clear hh hb1 h3 HQ HC HC2
 go_wp2_with fail
 refine HQ1.out.mono ?_
 rintro e w2 ⟨rfl,hh2,hb2⟩
 have Hh2:=hid hh2
 have Hb2:=hid (Hb1.out.trans hb2)
 clear hh2 hb2
 go_wp2_with fail
 go_ret
 refine ⟨A1,c1,S.map (fun x=>(x.h,x.s)),by rw [HL.out]; rfl,by rw [List.map_map]; exact HP.out,by rw [HL.out]; exact h1,h2,H3.out,⟨?_,?_⟩,Hb2.out⟩
 ·have:=JC LF Hh2.out
  unfold eW
  rw [List.map_map]
  exact this
 ·intro p hp
  exact ((HF.out p hp).below Hb2.out).more Hb2.out.size
end Go.Proofs.YtnbbfblaipjcmaaGreatDoor
