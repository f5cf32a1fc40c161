/- SampD, SampE, SampF, QuotaA, QuotaB, EdF. Conditions: as each theorem states. -/
import Derived.Test.YtnbbfblaipjcmaaGreatDoorPu11
import Derived.Test.YtnbbfblaipjcmaaGreatDoorPu12
import Derived.Test.YtnbbfblaipjcmaaGreatDoorPu05
import Derived.Test.YtnbbfblaipjcmaaGreatDoorPu34
import Derived.Test.YtnbbfblaipjcmaaGreatDoorPu10
set_option maxRecDepth 100000
set_option maxHeartbeats 4000000
namespace Go.Proofs.YtnbbfblaipjcmaaGreatDoor
section
open Go.Lib (hid)
open Go.RowKit
def SampV.small (s:SampV):Prop:=s.name.size<=100/\s.rows.length<=4/\∀ r ∈ s.rows,r.length<=150
def FewsPost (W:World) (e:Ending) (w':World):Prop :=
 ∃ A c L',e=.returned (.slice A (List.length L') c)/\List.length L'<=8/\List.length L'<=c/\c<=9223372036854775807/\(A=none->c=0)/\SampsAt w' w'.heap.size A L'/\(∀ p ∈ L',p.2.small)/\Below W.heap.size W w'
theorem headCells_snoc (L:List (HSamp × SampV)) (p:HSamp × SampV):headCells (L ++ [p])=headCells L ++ p.1.cells:=by simp [headCells]
theorem Row.aside {w w':World} {B:Nat} {a:Option Addr} {vs:List Value} {row:Option Nat} (h:Row w B a vs) (hB:B<=w.heap.size) (hg:w.grownBy w' row) (ha:∀ ad,a=some ad->row ≠ some ad.block):Row w' B a vs:=by
 intro i v hv
 obtain ⟨b,off,he,hb,hc⟩:=h i v hv
 refine ⟨b,off,he,hb,?_⟩
 rw [World.cell?_of_block (w:=w) (hg.block b (by omega) (fun h2=>ha _ he h2.symm))]
 exact hc
theorem RowsAt.aside {w w':World} {B:Nat} {vs:List Value} {rows:List (List Int)} {row:Option Nat} (h:RowsAt w B vs rows) (hB:B<=w.heap.size) (hg:w.grownBy w' row) (ha:∀ g,row=some g->B<=g):RowsAt w' B vs rows:=by
 refine ⟨h.1,fun i v xs hv hx=>?_⟩
 obtain ⟨a,cap,h1,h2,h3,h4⟩:=h.2 i v xs hv hx
 refine ⟨a,cap,h1,h2,h3,fun j u hu=>?_⟩
 obtain ⟨b,off,he,hb,hc⟩:=h4 j u hu
 refine ⟨b,off,he,hb,?_⟩
 rw [World.cell?_of_block (w:=w) (hg.block b (by omega) (fun h2=>by have:=ha _ h2.symm; omega))]
 exact hc
theorem rows_lt {w:World} {B:Nat} {a:Option Addr} {vs:List Value} {rows:List (List Int)} (h:Row w B a vs) (hl:vs.length=rows.length) (hne:rows ≠ []) {ad:Addr} (ha:a=some ad):ad.block < B:=by
 have:0 < vs.length:=by rw [hl]; exact List.length_pos_iff.2 hne
 obtain ⟨b,off,he,hb,_⟩:=h 0 vs[0] (List.getElem?_eq_getElem this)
 rw [ha] at he
 injection he with he
 rw [he]; exact hb
theorem own_block_lt {w:World} {base:Nat} {e:TypeId} {size n:Nat} {v:Value} {xs:List Value} (h:w.ownsRow base e size v n xs):∀ k,v.ownBlock=some k->k < w.heap.size:=by
 intro k hk
 rcases h.2 with ⟨rfl,_⟩ | ⟨g,cap,cur,rfl,hb,hh,_⟩
 ·simp [Value.ownBlock] at hk
 ·have e:g=k:=by simpa [Value.ownBlock] using hk
  subst e
  rcases Nat.lt_or_ge g w.heap.size with h | h
  ·exact h
  ·rw [Array.getElem?_eq_none h] at hh; cases hh
def Stands (B:Nat) (w:World) (row:Option Nat) (p:HSamp × SampV):Prop :=
 (p.1.nm=p.2.name/\p.1.rate=p.2.rate/\p.1.lp=p.2.lp/\p.1.f=p.2.f/\p.1.t=p.2.t/\p.1.len=p.2.rows.length)/\p.2.rows.length<=p.1.cap/\p.1.cap<=9223372036854775807 /\
  (∃ vs,Row w w.heap.size p.1.a vs/\RowsAt w B vs p.2.rows)/\∀ ad,p.1.a=some ad->p.2.rows ≠ []->row ≠ some ad.block/\ad.block < w.heap.size
theorem Stands.fits {B:Nat} {w:World} {row:Option Nat} {p:HSamp × SampV} (h:Stands B w row p) (hB:B<=w.heap.size):p.1.fits w w.heap.size p.2:=by
 obtain ⟨h1,h2,h3,⟨vs,h4,h5⟩,_⟩:=h
 exact ⟨h1,h2,h3,vs,h4,h5.more hB⟩
theorem Stands.below {B:Nat} {w w':World} {row:Option Nat} {p:HSamp × SampV} (h:Stands B w row p) (hB:B<=w.heap.size) (hb:Below w.heap.size w w'):Stands B w' row p:=by
 obtain ⟨h1,h2,h3,⟨vs,h4,h5⟩,h6⟩:=h
 exact ⟨h1,h2,h3,⟨vs,h4.later hb,h5.below (hb.mono hB)⟩,fun ad had hne=>⟨(h6 ad had hne).1,Nat.lt_of_lt_of_le (h6 ad had hne).2 hb.size⟩⟩
theorem Stands.grown {B:Nat} {w w':World} {row row':Option Nat} {p:HSamp × SampV} (h:Stands B w row p) (hB:B<=w.heap.size) (hg:w.grownBy w' row) (ho:∀ g,row=some g->B<=g) (hr:row'=row\/row'=some w.heap.size):Stands B w' row' p:=by
 obtain ⟨h1,h2,h3,⟨vs,h4,h5⟩,h6⟩:=h
 have hrow:Row w' w.heap.size p.1.a vs:=by
  by_cases hne:p.2.rows=[]
  ·have:vs=[]:=by
    have:=h5.1
    rw [hne] at this
    exact List.length_eq_zero_iff.1 this
   rw [this]; exact Row.none_ _ _ _
  ·exact h4.aside (Nat.le_refl _) hg fun ad had=>(h6 ad had hne).1
 refine ⟨h1,h2,h3,⟨vs,hrow.more hg.size,h5.aside hB hg ho⟩,fun ad had hne=>⟨?_,Nat.lt_of_lt_of_le (h6 ad had hne).2 hg.size⟩⟩
 rcases hr with rfl | rfl
 ·exact (h6 ad had hne).1
 ·intro he
  injection he with he
  have:=(h6 ad had hne).2
  omega
theorem Few15_any (L:List (HSamp × SampV)) (A:Option Addr) (cap:Nat) (w:World) (hs:SampsAt w w.heap.size A L) (hnm:∀ p ∈ L,p.2.name.size<=9223372036854775807) :
  Calls Tryz.prog 74 #[.slice A L.length cap] w (FewsPost w):=by
 obtain ⟨i0,hi,hz0,hz1,hz2⟩:=info_parts inf_samp
 obtain ⟨n,hn'⟩:∃ n,L.length=n:=⟨_,rfl⟩
 have Hn:=hid hn'
 have Hs:=hid hs
 have Hnm:=hid hnm
 rw [hn']
 clear hn' hs hnm
 go_enter Tryz.func74,Tryz.ntmps74
 go_wp2
 go_loopw [3,4] (fun o i wr=>∃ (k:Nat) (M:List (HSamp × SampV)) (A':Option Addr) (c:Nat),k<=n/\k<=8/\i=.int .i64 k/\M.length=k/\o=.slice A' k c /\
   wr.ownsRow w.heap.size 138 6 (.slice A' k c) k (headCells M)/\(∀ p ∈ M,Stands w.heap.size wr (Value.slice A' k c).ownBlock p)/\(∀ p ∈ M,p.2.small)/\Below w.heap.size w wr) (fun _ i _=>n - (intOf i).toNat)
 case atStart=>exact ⟨0,[],none,0,Nat.zero_le _,by omega,rfl,rfl,rfl,World.ownsRow_nil _ _ _ _,nofun,nofun,Below.refl _ _⟩
 case round =>
  obtain ⟨k,M,A',c,hk,hk8,rfl,hM,rfl,hown,hfit,hsm,hbel⟩:=hrel
  have HM:=hid hM
  have Hown:=hid hown
  have Hfit:=hid hfit
  have Hsm:=hid hsm
  have Hbel:=hid hbel
  have Hge:=hid (own_block_ge hown)
  clear hM hown hfit hsm hbel
  by_cases hlt:k < n/\k < 8
  ·obtain ⟨hlt,hlt8⟩:=hlt
   have t1:(k:Int) < (n:Int):=by omega
   have t2:(k:Int) < 8:=by omega
   obtain ⟨p,hp⟩:=list_get (k:=k) Hn.out hlt
   have hmem:=List.mem_of_getElem? hp
   obtain ⟨b,off,rfl,hb,hc⟩:=samp_at Hs.out.row hp
   have hft:=Hs.out.fits p hmem
   have hnb:=Hnm.out p hmem
   obtain ⟨⟨nm,rate,lp,f,t,a,len,cp⟩,s⟩:=p
   obtain ⟨⟨e1,e2,e3,e4,e5,e6⟩,h2,h3,vs,h4,h5⟩:=hft
   simp only [HSamp.cells] at hc h2 h3 h4 h5 e1 e2 e3 e4 e5 e6 hnb
   have HB:=hid (fun W (hW:Below w.heap.size w W) j v (hv:([.string nm,.int .i64 rate,.bool lp,.int .i64 f,.int .i64 t,.slice a len cp]:List Value)[j]? = some v)=>(hW.cell (p:=⟨b,off+k*6+j,none⟩) hb).trans (hc j v hv))
   have c0:=HB.out _ Hbel.out 0 _ rfl
   have c1:=HB.out _ Hbel.out 1 _ rfl
   have c2:=HB.out _ Hbel.out 2 _ rfl
   have c3:=HB.out _ Hbel.out 3 _ rfl
   have c4:=HB.out _ Hbel.out 4 _ rfl
   have c5:=HB.out _ Hbel.out 5 _ rfl
   rw [Nat.add_zero] at c0
   have HQ:=hid (show Calls Tryz.prog 130 #[.agg #[.string nm,.int .i64 rate,.bool lp,.int .i64 f,.int .i64 t,.slice a len cp]] wr (FewPost wr w.heap.size rate lp f t) by
    have:=Few_any nm rate lp f t a cp vs s.rows wr (by rw [e1]; exact hnb) w.heap.size Hbel.out.size (h4.below Hbel.out) (h5.below Hbel.out)
    rw [<-e6] at this; exact this)
   clear hc hp hmem h4 h5 h2 h3 e1 e2 e3 e4 e5 e6 hnb
   go_wp2_with fail
   refine HQ.out.mono ?_
   rintro e w1 ⟨nm',a',cap',vs',rows',rfl,g1,g2,g3,g4,g5,g6,g7,g8,hb1⟩
   have own1:=own_below Hown.out hb1
   have Hb1X:=hid (bnext Hbel.out hb1)
   have hsz1:=Nat.le_trans Hbel.out.size hb1.size
   have Hfit1:=hid (fun p hp=>(Hfit.out p hp).below Hbel.out.size hb1)
   have HG:=hid (show Stands w.heap.size w1 (Value.slice A' k c).ownBlock (HSamp.mk nm' rate lp f t a' rows'.length cap',SampV.mk nm' rate lp f t rows') from
    ⟨⟨rfl,rfl,rfl,rfl,rfl,rfl⟩,g3,g4,⟨vs',g6,g8⟩,fun ad had hne=>⟨fun he=>by have:=g7 ad had; have:=own_block_lt Hown.out _ he; omega,rows_lt g6 g8.1 hne had⟩⟩)
   have HS:=hid (show (SampV.mk nm' rate lp f t rows').small from ⟨g1,g2,g5⟩)
   generalize rows'.length=R' at *
   clear c0 c1 c2 c3 c4 c5 g1 g2 g3 g4 g5 g6 g8 hb1 HQ
   go_wp2_with (at_builtin; refine wpList_app _ rfl (.tmp 15) (.tmp 21) 22 rfl w.heap.size 138 i0 _ 6 72 Tryz.underlying22 hi hz0 hz1 hz2 rfl (by omega) _ k (headCells M) rfl (own1.alloc _) (w1.heap.size+1) (some ⟨w1.heap.size,0,none⟩) 1 1 [.string nm',.int .i64 rate,.bool lp,.int .i64 f,.int .i64 t,.slice a' R' cap'] rfl rfl (Row.new w1 _ _) (hs_one ⟨0,⟨nm',rate,lp,f,t,a',R',cap'⟩,default⟩) (by omega) (by omega) (by simp; omega) ?_; intro A2 cc w2 hown2 hgrow hat hcc)
   go_roundw
   case rel =>
    have hb2:Below w.heap.size w w2:=((Hb1X.out).alloc (by omega) _).grown hgrow (by simp; omega) (fun g h=>Hge.out g h)
    have hrow:(Value.slice A2 (k+1) cc).ownBlock=(Value.slice A' k c).ownBlock\/(Value.slice A2 (k+1) cc).ownBlock=some (w1.alloc (.cells #[.string nm',.int .i64 rate,.bool lp,.int .i64 f,.int .i64 t,.slice a' R' cap'] 138)).heap.size:=hat
    have hst:∀ p,Stands w.heap.size w1 (Value.slice A' k c).ownBlock p->Stands w.heap.size w2 (Value.slice A2 (k+1) cc).ownBlock p:=fun p hp=>(hp.below hsz1 (bnew w1 _)).grown (by simp; omega) hgrow (fun g h=>Hge.out g h) hrow
    refine ⟨k+1,M ++ [(HSamp.mk nm' rate lp f t a' R' cap',SampV.mk nm' rate lp f t rows')],A2,cc,by omega,by omega,by go_num,by simp [HM.out],rfl,?_,?_,?_,hb2⟩
    ·rw [headCells_snoc]; exact hown2
    ·intro p hp
     rcases List.mem_append.1 hp with h | h
     ·exact hst p (Hfit1.out p h)
     ·rw [List.mem_singleton] at h; subst h; exact hst _ HG.out
    ·intro p hp
     rcases List.mem_append.1 hp with h | h
     ·exact Hsm.out p h
     ·rw [List.mem_singleton] at h; subst h; exact HS.out
   case measure=>simp [intOf]; omega
  ·have hk':k=n\/k=8:=by omega
   obtain ⟨A3,c3,he,h1,h2⟩:=own_form Hown.out
   injection he with e1 _ e3
   subst e1 e3
   have HFin:=hid (show FewsPost w (.returned (.slice A' k c)) wr from ⟨A',c,M,by rw [HM.out],by rw [HM.out]; exact hk8,by rw [HM.out]; exact h1,own_cap Hown.out,fun h=>(h2 h).2,⟨Row.of_own Hown.out,fun p hp=>(Hfit.out p hp).fits Hbel.out.size⟩,Hsm.out,Hbel.out⟩)
   rcases hk' with hk' | hk'
   ·have t1:¬ ((k:Int) < (n:Int)):=by omega
    have HK:=hid hk'
    clear h1 h2 hk' hlt
    go_wp2
    go_ret
    exact HFin.out
   ·have t2:¬ ((k:Int) < 8):=by omega
    by_cases h3:k < n
    ·have t1:(k:Int) < (n:Int):=by omega
     have HK:=hid hk'
     clear h1 h2 hk' hlt hk8
     go_wp2
     go_ret
     exact HFin.out
    ·have t1:¬ ((k:Int) < (n:Int)):=by omega
     have HK:=hid hk'
     clear h1 h2 hk' hlt hk8
     go_wp2
     go_ret
     exact HFin.out
end
section
open Go.RowKit Go.Lib Go.Sort
def SampV.check (s:SampV):Int:=checkZ s.name s.rate s.lp s.f s.t s.rows
def firstBad:List SampV->Int
 | []=>0
 | s :: r=>if s.check ≠ 0 then s.check else firstBad r
theorem firstBad_at {ss:List SampV} {k:Nat} {s:SampV} (h:ss[k]? = some s) (hpre:(ss.take k).all (fun s=>decide (s.check=0))=true) (hs:s.check ≠ 0):firstBad ss=s.check:=by
 induction ss generalizing k with
 | nil=>simp at h
 | cons x r ih =>
  cases k with
  | zero =>
   simp at h; subst h
   unfold firstBad; rw [if_pos hs]
  | succ k =>
   simp at h hpre
   unfold firstBad
   rw [if_neg (by simp [hpre.1])]
   exact ih h (by rw [List.all_eq_true]; intro y hy; simp; exact hpre.2 y hy)
theorem firstBad_none {ss:List SampV} (h:ss.all (fun s=>decide (s.check=0))=true):firstBad ss=0:=by
 induction ss with
 | nil=>rfl
 | cons x r ih =>
  simp at h
  unfold firstBad
  rw [if_neg (by simp [h.1])]
  exact ih (by rw [List.all_eq_true]; intro y hy; simp; exact h.2 y hy)
def adjTo (l:List (List UInt8)) (m:Nat):Bool:=(List.range m).any fun i=>decide (l[i+1]? = l[i]?)
def sortedNames (ss:List SampV):List (List UInt8):=(ss.map (·.name.data.toList)).mergeSort fun x y=>decide (x<=y)
def dupZ (ss:List SampV):Bool:=adjTo (sortedNames ss) (ss.length - 1)
def checkAllZ (ss:List SampV):Int:=if 64 < ss.length then 6 else if firstBad ss ≠ 0 then firstBad ss else if dupZ ss=true then 11 else 0
theorem sortedNames_len (ss:List SampV):(sortedNames ss).length=ss.length:=by unfold sortedNames; simp
theorem str_enc (s:ByteArray):Value.string s=encStr s.data.toList:=by
 show Value.string s=Value.string ⟨s.data.toList.toArray⟩
 rw [Array.toArray_toList]
theorem toList_inj {a b:ByteArray} (h:a.toList=b.toList):a=b:=by
 rw [ByteArray.toList_eq,ByteArray.toList_eq] at h
 exact bytes_eq h
theorem names_cells (ss:List SampV):(ss.map fun s=>Value.string s.name)=(ss.map fun s=>s.name.data.toList).map encStr:=by
 rw [List.map_map]
 exact List.map_congr_left fun s _=>str_enc s.name
theorem inf_str:(Tryz.prog.info? 9).map (fun i=>(i.zero,i.size,i.bytes))=some (some (.string ⟨#[]⟩),1,16):=by kernel_rfl
theorem holds_strs {w:World} {B:Nat} {e:TypeId} {A:Option Addr} {n c:Nat} {xs:List (List UInt8)} (hn:0 < n) (hx:xs.length=n) (h:w.ownsRow B e 1 (.slice A n c) n (xs.map encStr)) :
  ∃ g,A=some ⟨g,0,none⟩/\B<=g/\g < w.heap.size/\Holds encStr w g 0 xs.toArray:=by
 rcases h.2 with ⟨_,h2⟩ | ⟨g,cap,cur,h1,hB,hg,hnc,_,h5,h6⟩
 ·omega
 ·injection h1 with e1 e2 e3
  refine ⟨g,e1,hB,?_,fun j hj=>?_⟩
  ·rcases Nat.lt_or_ge g w.heap.size with h | h
   ·exact h
   ·rw [Array.getElem?_eq_none h] at hg; cases hg
  ·have hj':j < xs.length:=by simpa using hj
   have h8:cur[j]? = some (encStr xs[j]):=by
    have h9:(cur.toList.take (n*1))[j]? = (xs.map encStr)[j]?:=by rw [h6]
    rw [List.getElem?_take_of_lt (by omega),List.getElem?_map,List.getElem?_eq_getElem hj'] at h9
    simpa using h9
   rw [List.getElem!_toArray,getElem!_pos xs j hj']
   refine ⟨?_,?_⟩
   ·rw [Nat.zero_add]
    simp only [World.cell?,hg]
    simpa using h8
   ·simp [World.frozen?,hg]
theorem strs_below (w:World) (g n:Nat) (xs:List (List UInt8)) (os:Array Obj) (B:Nat) (hB:B<=g) (hg:g < w.heap.size):Go.RowKit.Below B w (grow (putRow encStr (Sort.ahead w n) g 0 xs.toArray) os):=by
 have h1:Go.RowKit.Below B w (putRow encStr (Sort.ahead w n) g 0 xs.toArray):=by
  refine ⟨rfl,rfl,rfl,?_,fun k hk=>?_⟩
  ·unfold putRow mapBlock Sort.ahead; simp
  ·unfold putRow mapBlock Sort.ahead
   simp only [Array.getElem?_modify]
   rw [if_neg (by omega)]
 refine h1.trans (grow_below _ os B ?_)
 have:(putRow encStr (Sort.ahead w n) g 0 xs.toArray).heap.size=w.heap.size:=by unfold putRow mapBlock Sort.ahead; simp
 omega
theorem adjTo_succ (l:List (List UInt8)) (m:Nat):adjTo l (m+1)=(adjTo l m || decide (l[m+1]? = l[m]?)):=by
 unfold adjTo
 rw [List.range_succ,List.any_append]
 simp
theorem adjTo_more (l:List (List UInt8)) {m n:Nat} (h:m<=n) (ht:adjTo l m=true):adjTo l n=true:=by
 unfold adjTo at *
 rw [List.any_eq_true] at *
 obtain ⟨x,hx,hp⟩:=ht
 exact ⟨x,List.mem_range.2 (by have:=List.mem_range.1 hx; omega),hp⟩
theorem CheckAll_any (L:List (HSamp × SampV)) (A:Option Addr) (cap:Nat) (w:World) (hl:L.length<=1000000) (hs:SampsAt w w.heap.size A L) :
  Calls Tryz.prog 125 #[.slice A L.length cap] w fun e w'=>e=.returned (.int .i64 (checkAllZ (L.map (·.2))))/\Below w.heap.size w w':=by
 obtain ⟨i0,hi,hz0,hz1,hz2⟩:=info_parts inf_str
 obtain ⟨n,hn'⟩:∃ n,L.length=n:=⟨_,rfl⟩
 obtain ⟨Z,hZ⟩:∃ Z,checkAllZ (L.map (·.2))=Z:=⟨_,rfl⟩
 rw [hZ]
 have Hn:=hid hn'
 have Hs:=hid hs
 have HZ:=hid hZ
 have Hsl:=hid (show (L.map (·.2)).length=n by rw [List.length_map]; exact hn')
 rw [hn'] at hl ⊢
 clear hn' hs hZ
 by_cases h64:64 < n
 ·have t1:(64:Int) < (n:Int):=by omega
  have HF:=hid (show Z=6 by rw [<-HZ.out]; unfold checkAllZ; rw [if_pos (by rw [Hsl.out]; exact h64)])
  go_enter Tryz.func125,Tryz.ntmps125
  go_wp2
  go_ret
  exact ⟨ret_int HF.out.symm,Below.refl _ _⟩
 ·have t0:¬ (64:Int) < (n:Int):=by omega
  have t0':decide ((64:Int) < (n:Int))=false:=decide_eq_false t0
  go_enter Tryz.func125,Tryz.ntmps125
  go_wp2
  go_loopw [3,13] (fun o i wr=>∃ (k:Nat) (A':Option Addr) (c:Nat),k<=n/\i=.int .i64 k/\((L.map (·.2)).take k).all (fun s=>decide (s.check=0))=true/\o=.slice A' k c /\
    wr.ownsRow w.heap.size 9 1 (.slice A' k c) k (((L.map (·.2)).take k).map fun (s:SampV)=>Value.string s.name)/\Below w.heap.size w wr) (fun _ i _=>n - (intOf i).toNat)
  case atStart=>exact ⟨0,none,0,Nat.zero_le _,rfl,rfl,rfl,World.ownsRow_nil _ _ _ _,Below.refl _ _⟩
  case round =>
   obtain ⟨k,A',c,hk,rfl,hpre,rfl,hown,hbel⟩:=hrel
   have Hpre:=hid hpre
   have Hown:=hid hown
   have Hbel:=hid hbel
   have Hge:=hid (own_block_ge hown)
   clear hpre hown hbel
   by_cases hlt:k < n
   ·have t1:(k:Int) < (n:Int):=by omega
    obtain ⟨p,hp⟩:=list_get (k:=k) Hn.out hlt
    have hmem:=List.mem_of_getElem? hp
    have hp2:(L.map (·.2))[k]? = some p.2:=by rw [List.getElem?_map,hp]; rfl
    obtain ⟨b,off,rfl,hb,hc⟩:=samp_at Hs.out.row hp
    have hft:=(Hs.out.fits p hmem).below Hbel.out
    obtain ⟨⟨nm,rate,lp,f,t,a,len,cp⟩,s⟩:=p
    obtain ⟨⟨e1,e2,e3,e4,e5,e6⟩,h2,h3,vs,h4,h5⟩:=hft
    simp only [HSamp.cells] at hc h2 h3 h4 h5 e1 e2 e3 e4 e5 e6 hp2
    have c0:=(Hbel.out.cell (p:=⟨b,off+k*6+0,none⟩) hb).trans (hc 0 _ rfl)
    have c1:=(Hbel.out.cell (p:=⟨b,off+k*6+1,none⟩) hb).trans (hc 1 _ rfl)
    have c2:=(Hbel.out.cell (p:=⟨b,off+k*6+2,none⟩) hb).trans (hc 2 _ rfl)
    have c3:=(Hbel.out.cell (p:=⟨b,off+k*6+3,none⟩) hb).trans (hc 3 _ rfl)
    have c4:=(Hbel.out.cell (p:=⟨b,off+k*6+4,none⟩) hb).trans (hc 4 _ rfl)
    have c5:=(Hbel.out.cell (p:=⟨b,off+k*6+5,none⟩) hb).trans (hc 5 _ rfl)
    rw [Nat.add_zero] at c0
    have HQ:=hid (fun W (hW:Below wr.heap.size wr W)=>show Calls Tryz.prog 167 #[.agg #[.string nm,.int .i64 rate,.bool lp,.int .i64 f,.int .i64 t,.slice a len cp]] W (fun e w'=>e=.returned (.int .i64 s.check)/\Below W.heap.size W w') by
     have hWB:=Hbel.out.trans (hW.mono Hbel.out.size)
     have h4':Row wr w.heap.size a vs:=h4
     have h5':RowsAt wr w.heap.size vs s.rows:=h5
     have:=Check_any nm rate lp f t a cp vs s.rows W ((h4'.below (hW.mono Hbel.out.size)).more hWB.size) ((h5'.below (hW.mono Hbel.out.size)).more hWB.size) (by omega)
     rw [<-e6] at this
     have ez:s.check=checkZ nm rate lp f t s.rows:=by unfold SampV.check; rw [e1,e2,e3,e4,e5]
     rw [ez]; exact this)
    have Hnm:=hid e1
    have Hp2:=hid hp2
    obtain ⟨z,hz⟩:∃ z,s.check=z:=⟨_,rfl⟩
    rw [hz] at HQ
    have Hz:=hid hz
    clear hc hp hmem h4 h5 h2 h3 e1 e2 e3 e4 e5 e6 hp2 hz
    by_cases hz0':z=0
    ·subst hz0'
     go_wp2_with fail
     refine (HQ.out _ (bnew _ _)).mono ?_
     rintro e w1 ⟨rfl,hb1⟩
     have cc0:=hb1.cell (p:=⟨wr.heap.size,0,none⟩) (by simp)
     have own1:=own_below (Hown.out.alloc _) hb1
     have HB1:=hid (Hbel.out.trans (((bnew wr _).trans (hb1.mono (by simp))).mono Hbel.out.size))
     have hsz1:w.heap.size<=w1.heap.size:=HB1.out.size
     clear c0 c1 c2 c3 c4 c5 hb1
     go_wp2_with (at_builtin; refine wpList_app _ rfl (.tmp 22) (.tmp 25) 162 rfl w.heap.size 9 i0 _ 1 16 Tryz.underlying162 hi hz0 hz1 hz2 rfl (by omega) _ k _ rfl (own1.alloc _) (w1.heap.size+1) (some ⟨w1.heap.size,0,none⟩) 1 1 [.string nm] rfl rfl (Row.new w1 _ _) (by intro u hu; simp at hu; subst hu; rfl) (by omega) (by omega) (by simp; omega) ?_; intro A2 cc w2 hown2 hgrow hat hcc)
     go_roundw
     case rel =>
      have hb2:Below w.heap.size w w2:=(HB1.out.alloc (by omega) _).grown hgrow (by simp; omega) (fun g h=>Hge.out g h)
      refine ⟨k+1,A2,cc,by omega,by go_num,by rw [all_take_succ _ Hp2.out,Hpre.out,Hz.out]; rfl,rfl,?_,hb2⟩
      have hk2:=(List.getElem?_eq_some_iff.1 Hp2.out).1
      rw [List.take_succ_eq_append_getElem hk2,List.map_append,(List.getElem?_eq_some_iff.1 Hp2.out).2]
      simp only [List.map_cons,List.map_nil]
      rw [<-Hnm.out]
      exact hown2
     case measure=>simp [intOf]; omega
    ·have t2:(z != 0)=true:=by rw [bne_iff_ne]; exact hz0'
     have t3:(z == 0)=false:=beq_eq_false_iff_ne.2 hz0'
     have Hz0:=hid hz0'
     clear hz0'
     have HF:=hid (show Z=z by
      rw [<-HZ.out]
      have hfb:=firstBad_at Hp2.out Hpre.out (by rw [Hz.out]; exact Hz0.out)
      unfold checkAllZ
      rw [if_neg (by rw [Hsl.out]; omega),hfb,Hz.out,if_pos Hz0.out])
     go_wp2_with fail
     refine (HQ.out _ (bnew _ _)).mono ?_
     rintro e w1 ⟨rfl,hb1⟩
     go_wp2_with fail
     go_ret
     exact ⟨ret_int HF.out.symm,Hbel.out.trans (((bnew wr _).trans (hb1.mono (by simp))).mono Hbel.out.size)⟩
   ·obtain rfl:k=n:=by omega
    have hall:=all_take_all (fun s:SampV=>decide (s.check=0)) (by rw [Hsl.out]; omega) Hpre.out
    have hZ2:=HZ.out
    unfold checkAllZ at hZ2
    rw [if_neg (by rw [Hsl.out]; omega),firstBad_none hall,if_neg (by simp)] at hZ2
    have hown2:=Hown.out
    rw [List.take_of_length_le (by rw [Hsl.out]; omega)] at hown2
    have hcells:=names_cells (L.map (·.2))
    rw [hcells] at hown2
    have hxl:((L.map (·.2)).map (fun s:SampV=>s.name.data.toList)).length=k:=by rw [List.length_map]; exact Hsl.out
    have hsn:(((L.map (·.2)).map (fun s:SampV=>s.name.data.toList)).mergeSort fun x y=>decide (x<=y))=sortedNames (L.map (·.2)):=rfl
    have hsnl:=sortedNames_len (L.map (·.2))
    rw [Hsl.out] at hsnl
    unfold dupZ at hZ2
    rw [Hsl.out] at hZ2
    generalize sortedNames (L.map (·.2))=SN at *
    have Hsnl:=hid hsnl
    have HZ2:=hid hZ2
    clear hall hcells hsnl hZ2 HZ
    by_cases hk0:k=0
    ·subst hk0
     have t2:¬ ((1:Int) < 0):=by omega
     have HF:=hid (show Z=0 by rw [<-HZ2.out]; rfl)
     clear hown2 hxl hsn
     go_wp2_with fail
     refine (slices_Sort_string_none A' c wr).mono ?_
     rintro e w' ⟨rfl,rfl⟩
     go_wp2_with fail
     refine wp_loop_rounds 1 ?_
     rw [rounds_succ]
     go_wp2_with fail
     go_ret
     exact ⟨ret_int HF.out.symm,Hbel.out⟩
    ·obtain ⟨g,hA,hBg,hg,hH⟩:=holds_strs (by omega) hxl hown2
     subst hA
     have hQ:=slices_Sort_string g 0 c _ wr hH hg (by rw [hxl]; omega)
     rw [hxl,hsn] at hQ
     have HQ:=hid hQ
     have HH2:=hid (fun n' os=>strs_below wr g n' SN os w.heap.size hBg hg)
     have HH3:=hid (fun n' os=>holds_grow encStr _ os g 0 SN.toArray (by unfold putRow mapBlock Sort.ahead; simp; exact hg) (holds_putRow encStr (Sort.ahead wr n') g 0 _ SN.toArray (show Holds encStr (Sort.ahead wr n') g 0 ((L.map (·.2)).map (fun s:SampV=>s.name.data.toList)).toArray from hH) (by rw [List.size_toArray,List.size_toArray,Hsnl.out,hxl])))
     clear hown2 hxl hsn hQ hH
     go_wp2_with fail
     refine HQ.out.mono ?_
     rintro e w1 ⟨rfl,n',os,rfl⟩
     have hb1:=HH2.out n' os
     have hH1:=HH3.out n' os
     have hg1:g < (grow (putRow encStr (Sort.ahead wr n') g 0 SN.toArray) os).heap.size:=by
      have h:(putRow encStr (Sort.ahead wr n') g 0 SN.toArray).heap.size=wr.heap.size:=by unfold putRow mapBlock Sort.ahead; simp
      simp [h]; omega
     generalize grow (putRow encStr (Sort.ahead wr n') g 0 SN.toArray) os=w1 at *
     have Hb1:=hid (Hbel.out.trans hb1)
     have HH1:=hid hH1
     have Hg1:=hid hg1
     clear hb1 hH1 hg1 HH2 HH3 HQ
     go_wp2_with fail
     go_loopw [7] (fun i wq=>∃ m:Nat,m+1<=k/\i=.int .i64 ((m:Int)+1)/\adjTo SN m=false/\Below w1.heap.size w1 wq) (fun i _=>k - (intOf i).toNat)
     case atStart=>exact ⟨0,by omega,rfl,rfl,Below.refl _ _⟩
     case round =>
      obtain ⟨m,hm,rfl,hadj,hbq⟩:=hrel
      have Hadj:=hid hadj
      have Hbq:=hid hbq
      clear hadj hbq
      by_cases hlt2:m+1 < k
      ·have t2:(m:Int)+1 < (k:Int):=by omega
       obtain ⟨x,hx⟩:=list_get (k:=m+1) Hsnl.out hlt2
       obtain ⟨y,hy⟩:=list_get (k:=m) Hsnl.out (by omega)
       have hsl2:=Hsnl.out
       have cx:=(HH1.out (m+1) (by simp; omega)).1
       have cy:=(HH1.out m (by simp; omega)).1
       rw [List.getElem!_toArray,getElem!_pos SN (m+1) (by omega),(List.getElem?_eq_some_iff.1 hx).2,Nat.zero_add] at cx
       rw [List.getElem!_toArray,getElem!_pos SN m (by omega),(List.getElem?_eq_some_iff.1 hy).2,Nat.zero_add] at cy
       have cx':w1.cell? ⟨g,m+1,none⟩=some (.string ⟨x.toArray⟩):=cx
       have cy':w1.cell? ⟨g,m,none⟩=some (.string ⟨y.toArray⟩):=cy
       have HS:=hid (show adjTo SN (m+1)=decide (x=y) by rw [adjTo_succ,Hadj.out,hx,hy]; simp)
       have HXY:=hid (show ((⟨x.toArray⟩:ByteArray)=⟨y.toArray⟩) ↔ x=y from ⟨fun h=>by injection h with h; exact List.toArray_inj h,fun h=>by rw [h]⟩)
       have hx5:=fun (z:GW wr)=>(z.2.cell (p:=⟨g,m+1,none⟩) (Nat.lt_of_lt_of_le Hg1.out Hbq.out.size)).trans ((Hbq.out.cell (p:=⟨g,m+1,none⟩) Hg1.out).trans cx')
       have hy5:=fun (z:GW wr)=>(z.2.cell (p:=⟨g,m,none⟩) (Nat.lt_of_lt_of_le Hg1.out Hbq.out.size)).trans ((Hbq.out.cell (p:=⟨g,m,none⟩) Hg1.out).trans cy')
       generalize (⟨x.toArray⟩:ByteArray)=X at *
       generalize (⟨y.toArray⟩:ByteArray)=Y at *
       clear cx cy cx' cy' hx hy hsl2
       by_cases hxy:X=Y
       ·have HXY2:=hid (HXY.out.1 hxy)
        subst hxy
        have HF:=hid (show Z=11 by
         rw [<-HZ2.out,if_pos]
         exact adjTo_more SN (show m+1<=k - 1 by omega) (by rw [HS.out]; exact decide_eq_true HXY2.out))
        clear HXY HXY2
        go_wp2
        refine wp_region_calm (by kernel_rfl) (by kernel_rfl) ?_
        repeat (go_big_quiet_step (fail))
        refine wpQuiet_nil ?_
        intro w5 hw'
        have hb5:=gw_below hw'
        have HW5:=hid (Hb1.out.trans ((Hbq.out.trans (hb5.mono Hbq.out.size)).mono Hb1.out.size))
        clear hw' hb5 hx5 hy5
        go_wp2
        go_ret
        exact ⟨ret_int HF.out.symm,HW5.out⟩
       ·have t3:(X.toList == Y.toList)=false:=beq_eq_false_iff_ne.2 (fun h=>hxy (toList_inj h))
        have HXY2:=hid (fun h=>hxy (HXY.out.2 h))
        clear HXY hxy
        go_wp2
        refine wp_region_calm (by kernel_rfl) (by kernel_rfl) ?_
        repeat (go_big_quiet_step (fail))
        refine wpQuiet_nil ?_
        intro w5 hw'
        have hb5:=gw_below hw'
        have HW5:=hid (bnext Hbq.out hb5)
        clear hw' hb5 hx5 hy5
        go_wp2
        go_roundw
        case rel=>exact ⟨m+1,by omega,by go_num,by rw [HS.out]; exact decide_eq_false HXY2.out,HW5.out⟩
        case measure=>simp [intOf]; omega
      ·have t2:¬ ((m:Int)+1 < (k:Int)):=by omega
       have HF:=hid (show Z=0 by
        rw [<-HZ2.out,if_neg]
        rw [show k - 1=m by omega,Hadj.out]; simp)
       go_wp2
       go_ret
       exact ⟨ret_int HF.out.symm,Hb1.out.trans (Hbq.out.mono Hb1.out.size)⟩
end
section
open Go.RowKit
def countZ (n:Int):Int:=if n < 1 then 0 else (n - 1) / 16+1
def upZ (n b:Int):Int:=(n+b - 1) / b*b
theorem CountI_any (n:Int) (w:World) (h:n<=1000000000000):Calls Tryz.prog 90 #[.int .i64 n] w fun e w'=>e=.returned (.int .i64 (countZ n))/\w=w':=by
 go_enter Tryz.func90,Tryz.ntmps90
 go_wp2
 all_goals
  go_ret
  exact ⟨ret_int (by unfold countZ; split <;> omega),rfl⟩
theorem bankDir_any (n:Int) (w:World) (h0:0<=n) (h:n<=1000000000000):Calls Tryz.prog 131 #[.int .i64 n] w fun e w'=>e=.returned (.int .i64 (16+n*64+4))/\w=w':=by
 go_enter Tryz.func131,Tryz.ntmps131
 go_wp2
 go_ret
 exact ⟨rfl,rfl⟩
theorem check_all {ss:List SampV} (h:checkAllZ ss=0):∀ s ∈ ss,s.check=0:=by
 unfold checkAllZ at h
 split at h
 ·cases h
 ·split at h
  ·rename_i h1; exact absurd h h1
  ·rename_i h1
   have hf:firstBad ss=0:=by simpa using h1
   clear h h1
   induction ss with
   | nil=>nofun
   | cons x r ih =>
    unfold firstBad at hf
    split at hf
    ·rename_i h2; exact absurd hf h2
    ·rename_i h2
     intro s hs
     rcases List.mem_cons.1 hs with rfl | hs
     ·simpa using h2
     ·exact ih (by rename_i h64 _; simp at h64 ⊢; omega) hf s hs
end
section
open Go.RowKit
end
section
open Go.RowKit
abbrev sampTy:Ty:=.pair (.str) 1 (.pair (.int .i64) 1 (.pair (.bool) 1 (.pair (.int .i64) 1 (.pair (.int .i64) 1 (.pair (.slice 1 (.slice 1 (.int .i64))) 1 (.unit))))))
def NameFits (p:HSamp × SampV):Prop:=p.2.name.size<=9223372036854775807
theorem samp_shape {w:World} {cs:List Value} (h:Shape w sampTy cs):∃ p:HSamp × SampV,cs=p.1.cells/\p.1.fits w w.heap.size p.2/\NameFits p:=by
 obtain ⟨c1,r1,rfl,⟨nm,rfl,hnm⟩,c2,r2,rfl,⟨rate,rfl,_,_⟩,c3,r3,rfl,⟨lp,rfl⟩,c4,r4,rfl,⟨f,rfl,_,_⟩,c5,r5,rfl,⟨t,rfl,_,_⟩,c6,r6,rfl,hd,rfl⟩:=h
 obtain ⟨a,cap,vs,rows,rfl,h1,h2,h3,h4,_⟩:=mat_of_shape hd
 exact ⟨(⟨nm,rate,lp,f,t,a,rows.length,cap⟩,⟨nm,rate,lp,f,t,rows⟩),rfl,⟨⟨rfl,rfl,rfl,rfl,rfl,rfl⟩,h1,h2,vs,h3,h4⟩,hnm⟩
theorem samps_of {w:World}:∀ (css:List (List Value)),(∀ cs ∈ css,Shape w sampTy cs)->∃ L:List (HSamp × SampV),css=L.map (fun p=>p.1.cells)/\(∀ p ∈ L,p.1.fits w w.heap.size p.2)/\∀ p ∈ L,NameFits p
 | [],_=>⟨[],rfl,nofun,nofun⟩
 | cs :: r,h=>by
  obtain ⟨p,rfl,h1,h2⟩:=samp_shape (h cs (by simp))
  obtain ⟨L,rfl,h3,h4⟩:=samps_of r (fun c hc=>h c (by simp [hc]))
  refine ⟨p :: L,rfl,fun q hq=>?_,fun q hq=>?_⟩
  ·rcases List.mem_cons.1 hq with rfl | hq
   ·exact h1
   ·exact h3 q hq
  ·rcases List.mem_cons.1 hq with rfl | hq
   ·exact h2
   ·exact h4 q hq
theorem samps_arg {w:World} {v:Value} (h:Arg w (.slice 6 sampTy) v) :
  ∃ (L:List (HSamp × SampV)) (A:Option Addr) (cap:Nat),v=.slice A L.length cap/\L.length<=cap/\cap<=9223372036854775807/\(A=none->cap=0)/\SampsAt w w.heap.size A L/\∀ p ∈ L,NameFits p:=by
 obtain ⟨a,len,cap,hv,h1,h2,h3,h4⟩:=h
 obtain ⟨css,hl,_,hs,hrow⟩:=rows_of_shape h4
 obtain ⟨L,rfl,hf,hn⟩:=samps_of css hs
 rw [List.length_map] at hl
 injection hv with hv
 subst hv hl
 exact ⟨L,a,cap,rfl,h1,h2,fun ha=>(h3 ha).2,⟨hrow,hf⟩,hn⟩
/-! One sample of one channel. -/
end
section
open Go.RowKit
end
end Go.Proofs.YtnbbfblaipjcmaaGreatDoor
