/- SampD, SampE, SampF, QuotaA, QuotaB, EdF. Conditions: as each theorem states. -/
import Derived.Test.YtnbbfblaipjcmaaGreatDoorPv09
import Derived.Test.YtnbbfblaipjcmaaGreatDoorPv33
import Derived.Test.YtnbbfblaipjcmaaGreatDoorPv05
import Derived.Test.YtnbbfblaipjcmaaGreatDoorPv37
import Derived.Test.YtnbbfblaipjcmaaGreatDoorPv08
set_option maxRecDepth 100000
set_option maxHeartbeats 4000000
namespace Go.Proofs.YtnbbfblaipjcmaaGreatDoor
section
open Go.RowKit
def SampV.small (s:SampV):Prop:=s.name.size<=100/\s.rows.length<=4/\∀ r ∈ s.rows,r.length<=150
theorem DV (L:List (HSamp × SampV)) (p:HSamp × SampV):eW (L ++ [p])=eW L ++ p.1.cells:=by simp [eW]
theorem Row.aside {w w':World} {B:Nat} {a:Option Addr} {vs:List Value} {row:Option Nat} (h:Row w B a vs) (hB:B<=w.heap.size) (hg:w.grownBy w' row) (ha:∀ ad,a=some ad->row ≠ some ad.block):Row w' B a vs:=by
 intro i v hv
 obtain ⟨b,off,he,hb,hc⟩:=h i v hv
 refine ⟨b,off,he,hb,?_⟩
 rw [World.cell?_of_block (w:=w) (hg.block b (by omega) (fun h2=>ha _ he h2.symm))]
 exact hc
theorem RowsAt.aside {w w':World} {B:Nat} {vs:List Value} {rows:List (List Int)} {row:Option Nat} (h:RowsAt w B vs rows) (hB:B<=w.heap.size) (hg:w.grownBy w' row) (ha:∀ g,row=some g->B<=g):RowsAt w' B vs rows:=by
 refine ⟨h.1,fun i v xs hv hx=>?_⟩
 obtain ⟨a,cap,h1,h2,h3,h4⟩:=h.2 i v xs hv hx
 refine ⟨a,cap,h1,h2,h3,fun j u hu=>?_⟩
 obtain ⟨b,off,he,hb,hc⟩:=h4 j u hu
 refine ⟨b,off,he,hb,?_⟩
 rw [World.cell?_of_block (w:=w) (hg.block b (by omega) (fun h2=>by have:=ha _ h2.symm; omega))]
 exact hc
theorem aDe {w:World} {B:Nat} {a:Option Addr} {vs:List Value} {rows:List (List Int)} (h:Row w B a vs) (hl:vs.length=rows.length) (hne:rows ≠ []) {ad:Addr} (ha:a=some ad):ad.block < B:=by
 have:0 < vs.length:=by rw [hl]; exact List.length_pos_iff.2 hne
 obtain ⟨b,off,he,hb,_⟩:=h 0 vs[0] (List.getElem?_eq_getElem this)
 rw [ha] at he
 injection he with he
 rw [he]; exact hb
theorem wM {w:World} {base:Nat} {e:TypeId} {size n:Nat} {v:Value} {xs:List Value} (h:w.ownsRow base e size v n xs):∀ k,v.ownBlock=some k->k < w.heap.size:=by
 intro k hk
 rcases h.2 with ⟨rfl,_⟩ | ⟨g,cap,cur,rfl,hb,hh,_⟩
 ·simp [Value.ownBlock] at hk
 ·have e:g=k:=by simpa [Value.ownBlock] using hk
  subst e
  rcases Nat.lt_or_ge g w.heap.size with h | h
  ·exact h
  ·rw [Array.getElem?_eq_none h] at hh; cases hh
def Stands (B:Nat) (w:World) (row:Option Nat) (p:HSamp × SampV):Prop :=
 (p.1.nm=p.2.name/\p.1.rate=p.2.rate/\p.1.lp=p.2.lp/\p.1.f=p.2.f/\p.1.t=p.2.t/\p.1.len=p.2.rows.length)/\p.2.rows.length<=p.1.cap/\p.1.cap<=9223372036854775807 /\
  (∃ vs,Row w w.heap.size p.1.a vs/\RowsAt w B vs p.2.rows)/\∀ ad,p.1.a=some ad->p.2.rows ≠ []->row ≠ some ad.block/\ad.block < w.heap.size
theorem Stands.fits {B:Nat} {w:World} {row:Option Nat} {p:HSamp × SampV} (h:Stands B w row p) (hB:B<=w.heap.size):p.1.fits w w.heap.size p.2:=by
 obtain ⟨h1,h2,h3,⟨vs,h4,h5⟩,_⟩:=h
 exact ⟨h1,h2,h3,vs,h4,h5.more hB⟩
theorem Stands.below {B:Nat} {w w':World} {row:Option Nat} {p:HSamp × SampV} (h:Stands B w row p) (hB:B<=w.heap.size) (hb:Below w.heap.size w w'):Stands B w' row p:=by
 obtain ⟨h1,h2,h3,⟨vs,h4,h5⟩,h6⟩:=h
 exact ⟨h1,h2,h3,⟨vs,h4.later hb,h5.below (hb.mono hB)⟩,fun ad had hne=>⟨(h6 ad had hne).1,Nat.lt_of_lt_of_le (h6 ad had hne).2 hb.size⟩⟩
theorem Stands.grown {B:Nat} {w w':World} {row row':Option Nat} {p:HSamp × SampV} (h:Stands B w row p) (hB:B<=w.heap.size) (hg:w.grownBy w' row) (ho:∀ g,row=some g->B<=g) (hr:row'=row\/row'=some w.heap.size):Stands B w' row' p:=by
 obtain ⟨h1,h2,h3,⟨vs,h4,h5⟩,h6⟩:=h
 have hrow:Row w' w.heap.size p.1.a vs:=by
  by_cases hne:p.2.rows=[]
  ·have:vs=[]:=by
    have:=h5.1
    rw [hne] at this
    exact List.length_eq_zero_iff.1 this
   rw [this]; exact Row.none_ _ _ _
  ·exact h4.aside (Nat.le_refl _) hg fun ad had=>(h6 ad had hne).1
 refine ⟨h1,h2,h3,⟨vs,hrow.more hg.size,h5.aside hB hg ho⟩,fun ad had hne=>⟨?_,Nat.lt_of_lt_of_le (h6 ad had hne).2 hg.size⟩⟩
 rcases hr with rfl | rfl
 ·exact (h6 ad had hne).1
 ·intro he
  injection he with he
  have:=(h6 ad had hne).2
  omega
end
section
open Go.RowKit Go.Lib Go.Sort
def SampV.check (s:SampV):Int:=jE s.name s.rate s.lp s.f s.t s.rows
def gP:List SampV->Int
 | []=>0
 | s :: r=>if s.check ≠ 0 then s.check else gP r
theorem OJ {ss:List SampV} {k:Nat} {s:SampV} (h:ss[k]? = some s) (hpre:(ss.take k).all (fun s=>decide (s.check=0))=true) (hs:s.check ≠ 0):gP ss=s.check:=by
 induction ss generalizing k with
 | nil=>simp at h
 | cons x r ih =>
  cases k with
  | zero =>
   simp at h; subst h
   unfold gP; rw [if_pos hs]
  | succ k =>
   simp at h hpre
   unfold gP
   rw [if_neg (by simp [hpre.1])]
   exact ih h (by rw [List.all_eq_true]; intro y hy; simp; exact hpre.2 y hy)
theorem GQ {ss:List SampV} (h:ss.all (fun s=>decide (s.check=0))=true):gP ss=0:=by
 induction ss with
 | nil=>rfl
 | cons x r ih =>
  simp at h
  unfold gP
  rw [if_neg (by simp [h.1])]
  exact ih (by rw [List.all_eq_true]; intro y hy; simp; exact h.2 y hy)
def rK (l:List (List UInt8)) (m:Nat):Bool:=(List.range m).any fun i=>decide (l[i+1]? = l[i]?)
def gD (ss:List SampV):List (List UInt8):=(ss.map (·.name.data.toList)).mergeSort fun x y=>decide (x<=y)
def TX (ss:List SampV):Bool:=rK (gD ss) (ss.length - 1)
def dD (ss:List SampV):Int:=if 64 < ss.length then 6 else if gP ss ≠ 0 then gP ss else if TX ss=true then 11 else 0
theorem rE (ss:List SampV):(gD ss).length=ss.length:=by unfold gD; simp
theorem aDg (s:ByteArray):Value.string s=encStr s.data.toList:=by
 show Value.string s=Value.string ⟨s.data.toList.toArray⟩
 rw [Array.toArray_toList]
theorem V8 {a b:ByteArray} (h:a.toList=b.toList):a=b:=by
 rw [ByteArray.toList_eq,ByteArray.toList_eq] at h
 exact CX h
theorem P9 (ss:List SampV):(ss.map fun s=>Value.string s.name)=(ss.map fun s=>s.name.data.toList).map encStr:=by
 rw [List.map_map]
 exact List.map_congr_left fun s _=>aDg s.name
theorem aC0:(Tryz.prog.info? 9).map (fun i=>(i.zero,i.size,i.bytes))=some (some (.string ⟨#[]⟩),1,16):=by kernel_rfl
theorem UW {w:World} {B:Nat} {e:TypeId} {A:Option Addr} {n c:Nat} {xs:List (List UInt8)} (hn:0 < n) (hx:xs.length=n) (h:w.ownsRow B e 1 (.slice A n c) n (xs.map encStr)) :
  ∃ g,A=some ⟨g,0,none⟩/\B<=g/\g < w.heap.size/\Holds encStr w g 0 xs.toArray:=by
 rcases h.2 with ⟨_,h2⟩ | ⟨g,cap,cur,h1,hB,hg,hnc,_,h5,h6⟩
 ·omega
 ·injection h1 with e1 e2 e3
  refine ⟨g,e1,hB,?_,fun j hj=>?_⟩
  ·rcases Nat.lt_or_ge g w.heap.size with h | h
   ·exact h
   ·rw [Array.getElem?_eq_none h] at hg; cases hg
  ·have hj':j < xs.length:=by simpa using hj
   have h8:cur[j]? = some (encStr xs[j]):=by
    have h9:(cur.toList.take (n*1))[j]? = (xs.map encStr)[j]?:=by rw [h6]
    rw [List.getElem?_take_of_lt (by omega),List.getElem?_map,List.getElem?_eq_getElem hj'] at h9
    simpa using h9
   rw [List.getElem!_toArray,getElem!_pos xs j hj']
   refine ⟨?_,?_⟩
   ·rw [Nat.zero_add]
    simp only [World.cell?,hg]
    simpa using h8
   ·simp [World.frozen?,hg]
theorem VY (w:World) (g n:Nat) (xs:List (List UInt8)) (os:Array Obj) (B:Nat) (hB:B<=g) (hg:g < w.heap.size):Go.RowKit.Below B w (grow (putRow encStr (Sort.ahead w n) g 0 xs.toArray) os):=by
 have h1:Go.RowKit.Below B w (putRow encStr (Sort.ahead w n) g 0 xs.toArray):=by
  refine ⟨rfl,rfl,rfl,?_,fun k hk=>?_⟩
  ·unfold putRow mapBlock Sort.ahead; simp
  ·unfold putRow mapBlock Sort.ahead
   simp only [Array.getElem?_modify]
   rw [if_neg (by omega)]
 refine h1.trans (DU _ os B ?_)
 have:(putRow encStr (Sort.ahead w n) g 0 xs.toArray).heap.size=w.heap.size:=by unfold putRow mapBlock Sort.ahead; simp
 omega
theorem SU (l:List (List UInt8)) (m:Nat):rK l (m+1)=(rK l m || decide (l[m+1]? = l[m]?)):=by
 unfold rK
 rw [List.range_succ,List.any_append]
 simp
theorem ST (l:List (List UInt8)) {m n:Nat} (h:m<=n) (ht:rK l m=true):rK l n=true:=by
 unfold rK at *
 rw [List.any_eq_true] at *
 obtain ⟨x,hx,hp⟩:=ht
 exact ⟨x,List.mem_range.2 (by have:=List.mem_range.1 hx; omega),hp⟩
theorem vM (L:List (HSamp × SampV)) (A:Option Addr) (cap:Nat) (w:World) (hl:L.length<=1000000) (hs:SampsAt w w.heap.size A L) :
  Calls Tryz.prog 125 #[.slice A L.length cap] w fun e w'=>e=.returned (.int .i64 (dD (L.map (·.2))))/\Below w.heap.size w w':=by
 obtain ⟨i0,hi,hz0,hz1,hz2⟩:=info_parts aC0
 obtain ⟨n,hn'⟩:∃ n,L.length=n:=⟨_,rfl⟩
 obtain ⟨Z,hZ⟩:∃ Z,dD (L.map (·.2))=Z:=⟨_,rfl⟩
 rw [hZ]
 have Hn:=hid hn'
 have Hs:=hid hs
 have HZ:=hid hZ
 have Hsl:=hid (show (L.map (·.2)).length=n by rw [List.length_map]; exact hn')
 rw [hn'] at hl ⊢
 clear hn' hs hZ
 by_cases h64:64 < n
 ·have t1:(64:Int) < (n:Int):=by omega
  have HF:=hid (show Z=6 by rw [<-HZ.out]; unfold dD; rw [if_pos (by rw [Hsl.out]; exact h64)])
  go_enter Tryz.func125,Tryz.ntmps125
  go_wp2
  go_ret
  exact ⟨cE HF.out.symm,Below.refl _ _⟩
 ·have t0:¬ (64:Int) < (n:Int):=by omega
  have t0':decide ((64:Int) < (n:Int))=false:=decide_eq_false t0
  go_enter Tryz.func125,Tryz.ntmps125
  go_wp2
  go_loopw [3,13] (fun o i wr=>∃ (k:Nat) (A':Option Addr) (c:Nat),k<=n/\i=.int .i64 k/\((L.map (·.2)).take k).all (fun s=>decide (s.check=0))=true/\o=.slice A' k c /\
    wr.ownsRow w.heap.size 9 1 (.slice A' k c) k (((L.map (·.2)).take k).map fun (s:SampV)=>Value.string s.name)/\Below w.heap.size w wr) (fun _ i _=>n - (intOf i).toNat)
  case atStart=>exact ⟨0,none,0,Nat.zero_le _,rfl,rfl,rfl,World.ownsRow_nil _ _ _ _,Below.refl _ _⟩
  case round =>
   obtain ⟨k,A',c,hk,rfl,hpre,rfl,hown,hbel⟩:=hrel
   have Hpre:=hid hpre
   have Hown:=hid hown
   have Hbel:=hid hbel
   have Hge:=hid (bJ hown)
   clear hpre hown hbel
   by_cases hlt:k < n
   ·have t1:(k:Int) < (n:Int):=by omega
    obtain ⟨p,hp⟩:=aE (k:=k) Hn.out hlt
    have hmem:=List.mem_of_getElem? hp
    have hp2:(L.map (·.2))[k]? = some p.2:=by rw [List.getElem?_map,hp]; rfl
    obtain ⟨b,off,rfl,hb,hc⟩:=BK Hs.out.row hp
    have hft:=(Hs.out.fits p hmem).below Hbel.out
    obtain ⟨⟨nm,rate,lp,f,t,a,len,cp⟩,s⟩:=p
    obtain ⟨⟨e1,e2,e3,e4,e5,e6⟩,h2,h3,vs,h4,h5⟩:=hft
    simp only [HSamp.cells] at hc h2 h3 h4 h5 e1 e2 e3 e4 e5 e6 hp2
    have c0:=(Hbel.out.cell (p:=⟨b,off+k*6+0,none⟩) hb).trans (hc 0 _ rfl)
    have c1:=(Hbel.out.cell (p:=⟨b,off+k*6+1,none⟩) hb).trans (hc 1 _ rfl)
    have c2:=(Hbel.out.cell (p:=⟨b,off+k*6+2,none⟩) hb).trans (hc 2 _ rfl)
    have c3:=(Hbel.out.cell (p:=⟨b,off+k*6+3,none⟩) hb).trans (hc 3 _ rfl)
    have c4:=(Hbel.out.cell (p:=⟨b,off+k*6+4,none⟩) hb).trans (hc 4 _ rfl)
    have c5:=(Hbel.out.cell (p:=⟨b,off+k*6+5,none⟩) hb).trans (hc 5 _ rfl)
    rw [Nat.add_zero] at c0
    have HQ:=hid (fun W (hW:Below wr.heap.size wr W)=>show Calls Tryz.prog 167 #[.agg #[.string nm,.int .i64 rate,.bool lp,.int .i64 f,.int .i64 t,.slice a len cp]] W (fun e w'=>e=.returned (.int .i64 s.check)/\Below W.heap.size W w') by
     have hWB:=Hbel.out.trans (hW.mono Hbel.out.size)
     have h4':Row wr w.heap.size a vs:=h4
     have h5':RowsAt wr w.heap.size vs s.rows:=h5
     have:=XP nm rate lp f t a cp vs s.rows W ((h4'.below (hW.mono Hbel.out.size)).more hWB.size) ((h5'.below (hW.mono Hbel.out.size)).more hWB.size) (by omega)
     rw [<-e6] at this
     have ez:s.check=jE nm rate lp f t s.rows:=by unfold SampV.check; rw [e1,e2,e3,e4,e5]
     rw [ez]; exact this)
    have Hnm:=hid e1
    have Hp2:=hid hp2
    obtain ⟨z,hz⟩:∃ z,s.check=z:=⟨_,rfl⟩
    rw [hz] at HQ
    have Hz:=hid hz
    clear hc hp hmem h4 h5 h2 h3 e1 e2 e3 e4 e5 e6 hp2 hz
    by_cases hz0':z=0
    ·subst hz0'
     go_wp2_with fail
     refine (HQ.out _ (aL _ _)).mono ?_
     rintro e w1 ⟨rfl,hb1⟩
     have cc0:=hb1.cell (p:=⟨wr.heap.size,0,none⟩) (by simp)
     have own1:=cS (Hown.out.alloc _) hb1
     have HB1:=hid (Hbel.out.trans (((aL wr _).trans (hb1.mono (by simp))).mono Hbel.out.size))
     have hsz1:w.heap.size<=w1.heap.size:=HB1.out.size
     clear c0 c1 c2 c3 c4 c5 hb1
     go_wp2_with (at_builtin; refine c9 _ rfl (.tmp 22) (.tmp 25) 162 rfl w.heap.size 9 i0 _ 1 16 Tryz.underlying162 hi hz0 hz1 hz2 rfl (by omega) _ k _ rfl (own1.alloc _) (w1.heap.size+1) (some ⟨w1.heap.size,0,none⟩) 1 1 [.string nm] rfl rfl (Row.new w1 _ _) (by intro u hu; simp at hu; subst hu; rfl) (by omega) (by omega) (by simp; omega) ?_; intro A2 cc w2 hown2 hgrow hat hcc)
     go_roundw
     case rel =>
      have hb2:Below w.heap.size w w2:=(HB1.out.alloc (by omega) _).grown hgrow (by simp; omega) (fun g h=>Hge.out g h)
      refine ⟨k+1,A2,cc,by omega,by go_num,by rw [fS _ Hp2.out,Hpre.out,Hz.out]; rfl,rfl,?_,hb2⟩
      have hk2:=(List.getElem?_eq_some_iff.1 Hp2.out).1
      rw [List.take_succ_eq_append_getElem hk2,List.map_append,(List.getElem?_eq_some_iff.1 Hp2.out).2]
      simp only [List.map_cons,List.map_nil]
      rw [<-Hnm.out]
      exact hown2
     case measure=>simp [intOf]; omega
    ·have t2:(z != 0)=true:=by rw [bne_iff_ne]; exact hz0'
     have t3:(z == 0)=false:=beq_eq_false_iff_ne.2 hz0'
     have Hz0:=hid hz0'
     clear hz0'
     have HF:=hid (show Z=z by
      rw [<-HZ.out]
      have hfb:=OJ Hp2.out Hpre.out (by rw [Hz.out]; exact Hz0.out)
      unfold dD
      rw [if_neg (by rw [Hsl.out]; omega),hfb,Hz.out,if_pos Hz0.out])
     go_wp2_with fail
     refine (HQ.out _ (aL _ _)).mono ?_
     rintro e w1 ⟨rfl,hb1⟩
     go_wp2_with fail
     go_ret
     exact ⟨cE HF.out.symm,Hbel.out.trans (((aL wr _).trans (hb1.mono (by simp))).mono Hbel.out.size)⟩
   ·obtain rfl:k=n:=by omega
    have hall:=gE (fun s:SampV=>decide (s.check=0)) (by rw [Hsl.out]; omega) Hpre.out
    have hZ2:=HZ.out
    unfold dD at hZ2
    rw [if_neg (by rw [Hsl.out]; omega),GQ hall,if_neg (by simp)] at hZ2
    have hown2:=Hown.out
    rw [List.take_of_length_le (by rw [Hsl.out]; omega)] at hown2
    have hcells:=P9 (L.map (·.2))
    rw [hcells] at hown2
    have hxl:((L.map (·.2)).map (fun s:SampV=>s.name.data.toList)).length=k:=by rw [List.length_map]; exact Hsl.out
    have hsn:(((L.map (·.2)).map (fun s:SampV=>s.name.data.toList)).mergeSort fun x y=>decide (x<=y))=gD (L.map (·.2)):=rfl
    have hsnl:=rE (L.map (·.2))
    rw [Hsl.out] at hsnl
    unfold TX at hZ2
    rw [Hsl.out] at hZ2
    generalize gD (L.map (·.2))=SN at *
    have Hsnl:=hid hsnl
    have HZ2:=hid hZ2
    clear hall hcells hsnl hZ2 HZ
    by_cases hk0:k=0
    ·subst hk0
     have t2:¬ ((1:Int) < 0):=by omega
     have HF:=hid (show Z=0 by rw [<-HZ2.out]; rfl)
     clear hown2 hxl hsn
     go_wp2_with fail
     refine (pI A' c wr).mono ?_
     rintro e w' ⟨rfl,rfl⟩
     go_wp2_with fail
     refine wp_loop_rounds 1 ?_
     rw [rounds_succ]
     go_wp2_with fail
     go_ret
     exact ⟨cE HF.out.symm,Hbel.out⟩
    ·obtain ⟨g,hA,hBg,hg,hH⟩:=UW (by omega) hxl hown2
     subst hA
     have hQ:=vE g 0 c _ wr hH hg (by rw [hxl]; omega)
     rw [hxl,hsn] at hQ
     have HQ:=hid hQ
     have HH2:=hid (fun n' os=>VY wr g n' SN os w.heap.size hBg hg)
     have HH3:=hid (fun n' os=>holds_grow encStr _ os g 0 SN.toArray (by unfold putRow mapBlock Sort.ahead; simp; exact hg) (holds_putRow encStr (Sort.ahead wr n') g 0 _ SN.toArray (show Holds encStr (Sort.ahead wr n') g 0 ((L.map (·.2)).map (fun s:SampV=>s.name.data.toList)).toArray from hH) (by rw [List.size_toArray,List.size_toArray,Hsnl.out,hxl])))
     clear hown2 hxl hsn hQ hH
     go_wp2_with fail
     refine HQ.out.mono ?_
     rintro e w1 ⟨rfl,n',os,rfl⟩
     have hb1:=HH2.out n' os
     have hH1:=HH3.out n' os
     have hg1:g < (grow (putRow encStr (Sort.ahead wr n') g 0 SN.toArray) os).heap.size:=by
      have h:(putRow encStr (Sort.ahead wr n') g 0 SN.toArray).heap.size=wr.heap.size:=by unfold putRow mapBlock Sort.ahead; simp
      simp [h]; omega
     generalize grow (putRow encStr (Sort.ahead wr n') g 0 SN.toArray) os=w1 at *
     have Hb1:=hid (Hbel.out.trans hb1)
     have HH1:=hid hH1
     have Hg1:=hid hg1
     clear hb1 hH1 hg1 HH2 HH3 HQ
     go_wp2_with fail
     go_loopw [7] (fun i wq=>∃ m:Nat,m+1<=k/\i=.int .i64 ((m:Int)+1)/\rK SN m=false/\Below w1.heap.size w1 wq) (fun i _=>k - (intOf i).toNat)
     case atStart=>exact ⟨0,by omega,rfl,rfl,Below.refl _ _⟩
     case round =>
      obtain ⟨m,hm,rfl,hadj,hbq⟩:=hrel
      have Hadj:=hid hadj
      have Hbq:=hid hbq
      clear hadj hbq
      by_cases hlt2:m+1 < k
      ·have t2:(m:Int)+1 < (k:Int):=by omega
       obtain ⟨x,hx⟩:=aE (k:=m+1) Hsnl.out hlt2
       obtain ⟨y,hy⟩:=aE (k:=m) Hsnl.out (by omega)
       have hsl2:=Hsnl.out
       have cx:=(HH1.out (m+1) (by simp; omega)).1
       have cy:=(HH1.out m (by simp; omega)).1
       rw [List.getElem!_toArray,getElem!_pos SN (m+1) (by omega),(List.getElem?_eq_some_iff.1 hx).2,Nat.zero_add] at cx
       rw [List.getElem!_toArray,getElem!_pos SN m (by omega),(List.getElem?_eq_some_iff.1 hy).2,Nat.zero_add] at cy
       have cx':w1.cell? ⟨g,m+1,none⟩=some (.string ⟨x.toArray⟩):=cx
       have cy':w1.cell? ⟨g,m,none⟩=some (.string ⟨y.toArray⟩):=cy
       have HS:=hid (show rK SN (m+1)=decide (x=y) by rw [SU,Hadj.out,hx,hy]; simp)
       have HXY:=hid (show ((⟨x.toArray⟩:ByteArray)=⟨y.toArray⟩) ↔ x=y from ⟨fun h=>by injection h with h; exact List.toArray_inj h,fun h=>by rw [h]⟩)
       have hx5:=fun (z:GW wr)=>(z.2.cell (p:=⟨g,m+1,none⟩) (Nat.lt_of_lt_of_le Hg1.out Hbq.out.size)).trans ((Hbq.out.cell (p:=⟨g,m+1,none⟩) Hg1.out).trans cx')
       have hy5:=fun (z:GW wr)=>(z.2.cell (p:=⟨g,m,none⟩) (Nat.lt_of_lt_of_le Hg1.out Hbq.out.size)).trans ((Hbq.out.cell (p:=⟨g,m,none⟩) Hg1.out).trans cy')
       generalize (⟨x.toArray⟩:ByteArray)=X at *
       generalize (⟨y.toArray⟩:ByteArray)=Y at *
       clear cx cy cx' cy' hx hy hsl2
       by_cases hxy:X=Y
       ·have HXY2:=hid (HXY.out.1 hxy)
        subst hxy
        have HF:=hid (show Z=11 by
         rw [<-HZ2.out,if_pos]
         exact ST SN (show m+1<=k - 1 by omega) (by rw [HS.out]; exact decide_eq_true HXY2.out))
        clear HXY HXY2
        go_wp2
        refine aR (by kernel_rfl) (by kernel_rfl) ?_
        repeat (go_big_quiet_step (fail))
        refine wpQuiet_nil ?_
        intro w5 hw'
        have hb5:=aK hw'
        have HW5:=hid (Hb1.out.trans ((Hbq.out.trans (hb5.mono Hbq.out.size)).mono Hb1.out.size))
        clear hw' hb5 hx5 hy5
        go_wp2
        go_ret
        exact ⟨cE HF.out.symm,HW5.out⟩
       ·have t3:(X.toList == Y.toList)=false:=beq_eq_false_iff_ne.2 (fun h=>hxy (V8 h))
        have HXY2:=hid (fun h=>hxy (HXY.out.2 h))
        clear HXY hxy
        go_wp2
        refine aR (by kernel_rfl) (by kernel_rfl) ?_
        repeat (go_big_quiet_step (fail))
        refine wpQuiet_nil ?_
        intro w5 hw'
        have hb5:=aK hw'
        have HW5:=hid (aC Hbq.out hb5)
        clear hw' hb5 hx5 hy5
        go_wp2
        go_roundw
        case rel=>exact ⟨m+1,by omega,by go_num,by rw [HS.out]; exact decide_eq_false HXY2.out,HW5.out⟩
        case measure=>simp [intOf]; omega
      ·have t2:¬ ((m:Int)+1 < (k:Int)):=by omega
       have HF:=hid (show Z=0 by
        rw [<-HZ2.out,if_neg]
        rw [show k - 1=m by omega,Hadj.out]; simp)
       go_wp2
       go_ret
       exact ⟨cE HF.out.symm,Hb1.out.trans (Hbq.out.mono Hb1.out.size)⟩
end
section
open Go.RowKit
def dL (n:Int):Int:=if n < 1 then 0 else (n - 1) / 16+1
def upZ (n b:Int):Int:=(n+b - 1) / b*b
theorem uE (n:Int) (w:World) (h:n<=1000000000000):Calls Tryz.prog 90 #[.int .i64 n] w fun e w'=>e=.returned (.int .i64 (dL n))/\w=w':=by
 go_enter Tryz.func90,Tryz.ntmps90
 go_wp2
 all_goals
  go_ret
  exact ⟨cE (by unfold dL; split <;> omega),rfl⟩
theorem lU (n:Int) (w:World) (h0:0<=n) (h:n<=1000000000000):Calls Tryz.prog 131 #[.int .i64 n] w fun e w'=>e=.returned (.int .i64 (16+n*64+4))/\w=w':=by
 go_enter Tryz.func131,Tryz.ntmps131
 go_wp2
 go_ret
 exact ⟨rfl,rfl⟩
theorem IX {ss:List SampV} (h:dD ss=0):∀ s ∈ ss,s.check=0:=by
 unfold dD at h
 split at h
 ·cases h
 ·split at h
  ·rename_i h1; exact absurd h h1
  ·rename_i h1
   have hf:gP ss=0:=by simpa using h1
   clear h h1
   induction ss with
   | nil=>nofun
   | cons x r ih =>
    unfold gP at hf
    split at hf
    ·rename_i h2; exact absurd hf h2
    ·rename_i h2
     intro s hs
     rcases List.mem_cons.1 hs with rfl | hs
     ·simpa using h2
     ·exact ih (by rename_i h64 _; simp at h64 ⊢; omega) hf s hs
end
section
open Go.RowKit
end
section
open Go.RowKit
/-! One sample of one channel. -/
def ZV (nm:ByteArray) (g:Nat):HSamp:=⟨nm,1,false,0,0,some ⟨g,0,none⟩,1,1⟩
def ZW (nm:ByteArray) (xs:List Int):SampV:=⟨nm,1,false,0,0,[xs]⟩
theorem ZY (nm:ByteArray) (xs:List Int) (h:(ZW nm xs).check=0):dD [ZW nm xs]=0:=by
 unfold dD gP gP TX rK
 simp [h]
theorem aBY (s:SampV):dF [s]=[s]:=List.perm_singleton.1 (nJ [s])
end
section
open Go.Lib (hid)
open Go.RowKit
def MS (W:World) (B:Nat) (nm:ByteArray) (rate:Int) (lp:Bool) (f t:Int) (rows:List (List Int)) (e:Ending) (w':World):Prop :=
 ∃ (a:Option Addr) (cap:Nat) (vs:List Value),e=.returned (.agg #[.string nm,.int .i64 rate,.bool lp,.int .i64 f,.int .i64 t,.slice a rows.length cap]) /\
  rows.length<=cap/\cap<=9223372036854775807/\Row w' w'.heap.size a vs/\(∀ ad,a=some ad->W.heap.size<=ad.block)/\RowsAt w' B vs rows/\Below W.heap.size W w'
theorem aDt (nm:ByteArray) (rate:Int) (lp:Bool) (f t:Int) (a:Option Addr) (cap:Nat) (vs:List Value) (rows:List (List Int)) (w:World) (h100:nm.size<=100) (h4:rows.length<=4) (h150:∀ r ∈ rows,r.length<=150) (B:Nat) (hB:B<=w.heap.size) (hr:Row w B a vs) (hm:RowsAt w B vs rows) :
  Calls Tryz.prog 130 #[.agg #[.string nm,.int .i64 rate,.bool lp,.int .i64 f,.int .i64 t,.slice a rows.length cap]] w (MS w B nm rate lp f t rows):=by
 obtain ⟨i0,hi,hz0,hz1,hz2⟩:=info_parts aBA
 obtain ⟨R,hR⟩:∃ R,rows.length=R:=⟨_,rfl⟩
 have HTk:=hid (fun (k:Nat) xs (h:rows[k]? = some xs)=>(show rows.take (k+1)=rows.take k ++ [xs] from by rw [List.take_add_one,h]; rfl))
 have HTn:=hid (show rows.take R=rows from List.take_of_length_le (by omega))
 have HTl:=hid (fun k (hk:k<=R)=>(show (rows.take k).length=k by rw [List.length_take]; omega))
 have H150:=hid (fun (k:Nat) xs (h:rows[k]? = some xs)=>h150 xs (List.mem_of_getElem? h))
 have hd:decide ((100:Int) < (nm.size:Int))=false:=decide_eq_false (by omega)
 rw [hR] at h4 ⊢
 have HR:=hid hR
 have Hr:=hid hr
 have Hm:=hid hm
 have Hnm:=hid h100
 clear hR hr hm h100 h150
 go_enter Tryz.func130,Tryz.ntmps130
 go_wp2
 go_loopw [3,4] (fun d i wr=>∃ (k:Nat) (vsk:List Value) (A:Option Addr) (c:Nat),k<=R/\i=.int .i64 k/\d=.slice A k c/\k<=c/\c<=9223372036854775807/\wr.ownsRow (w.heap.size+2) 86 1 (.slice A k c) k vsk /\
   RowsAt w B vsk (rows.take k) /\
   Blk wr w.heap.size 138 [.string nm,.int .i64 rate,.bool lp,.int .i64 f,.int .i64 t,.slice a R cap] /\
   Blk wr (w.heap.size+1) 138 [.string ⟨#[]⟩,.int .i64 0,.bool false,.int .i64 0,.int .i64 0,.slice none 0 0]/\Below w.heap.size w wr/\w.heap.size+2<=wr.heap.size)
  (fun _ i _=>4 - (intOf i).toNat)
 case atStart=>exact ⟨0,[],none,0,Nat.zero_le _,rfl,rfl,Nat.le_refl _,by omega,World.ownsRow_nil _ _ _ _,⟨rfl,fun i v xs h=>by simp at h⟩,(Blk.new w _ _).alloc _,Blk.new2 w _ _ _,(aL _ _).alloc (by simp) _,by simp⟩
 case round =>
  obtain ⟨k,vsk,A,c,hkR,rfl,rfl,hkc,hc63,hown,hrows,hbox,hres,hbel,hsz⟩:=hrel
  have c0:=hbox.cell 0
  have c1:=hbox.cell 1
  have c2:=hbox.cell 2
  have c3:=hbox.cell 3
  have c4:=hbox.cell 4
  have c5:=hbox.cell 5
  have f5:=hbox.frozen 5
  have hge:=bJ hown
  by_cases hlt:k < R
  ·have hlt4:k < 4:=by omega
   obtain ⟨xs,hxs⟩:∃ xs,rows[k]? = some xs:=⟨_,List.getElem?_eq_getElem (by rw [HR.out]; exact hlt)⟩
   obtain ⟨b,off,a',c',rfl,hb,hc,hl1,hl2,hrow⟩:=oR Hr.out Hm.out hxs
   have hcr:=(hbel.cell (p:=⟨b,off+k,none⟩) (Nat.lt_of_lt_of_le hb hB)).trans hc
   have Hrow:=hid (show IntsAt w B (.slice a' xs.length c') xs from ⟨a',c',rfl,hl1,hl2,hrow⟩)
   have Hown:=hid hown
   have Hge:=hid hge
   have Hrows:=hid hrows
   have Hbox:=hid hbox
   have Hres:=hid hres
   have Hbel:=hid hbel
   have HT:=hid (HTk.out k xs hxs)
   have hl:¬ 150 < xs.length:=by have:=H150.out k xs hxs; omega
   clear hown hge hrows hbox hres hbel hxs hc hrow
   go_wp2_with (at_builtin; refine c9 _ rfl (.tmp 35) (.tmp 37) 136 rfl (w.heap.size+2) 86 i0 (.slice none 0 0) 1 24 Tryz.underlying136 hi hz0 hz1 hz2 rfl (by omega) _ k vsk rfl (Hown.out.alloc _) (wr.heap.size+1) (some ⟨wr.heap.size,0,none⟩) 1 1 [.slice a' xs.length c'] rfl rfl (Row.new wr _ _) (fun u hu=>by simp at hu; subst hu; rfl) (by omega) (by omega) (by simp; omega) ?_; intro A' cc w1 hown1 hgrow hat hcc)
   go_roundw
   case rel =>
    have hne:∀ g,g < w.heap.size+2->some g ≠ (Value.slice A k c).ownBlock:=fun g hg h=>by have:=Hge.out g h.symm; omega
    have hb2:Below w.heap.size w w1:=(Hbel.out.alloc (by omega) _).grown hgrow (by simp; omega) (fun g h=>by have:=Hge.out g h; omega)
    have hsz2:w.heap.size+2<=w1.heap.size:=by have:=hgrow.size; simp at this; omega
    have hcm:cc<=9223372036854775807:=iY hown1
    exact ⟨k+1,_,A',cc,by omega,by go_num,rfl,hcc,hcm,hown1,by rw [HT.out]; exact RowsAt.snoc Hrows.out Hrow.out,(Hbox.out.alloc _).grown hgrow (hne _ (by omega)),(Hres.out.alloc _).grown hgrow (hne _ (by omega)),hb2,hsz2⟩
   case measure=>simp [intOf]; omega
  ·have hkr:k=R:=by omega
   subst hkr
   have Hown:=hid hown
   have hrows2:=hrows
   rw [HTn.out] at hrows2
   have Hrows:=hid hrows2
   have Hbel:=hid hbel
   have r0:=hres.frozen 0
   have r1:=hres.frozen 1
   have r2:=hres.frozen 2
   have r3:=hres.frozen 3
   have r4:=hres.frozen 4
   have r5:=hres.frozen 5
   have e0:=hres.cell 0
   have e1:=hres.cell 1
   have e2:=hres.cell 2
   have e3:=hres.cell 3
   have e4:=hres.cell 4
   have e5:=hres.cell 5
   have t1:¬ ((k:Int) < (k:Int)):=by omega
   clear hown hrows hrows2 hbel hge hbox hres
   go_wp2
   all_goals
    refine bodyPost_ret (v:=.agg #[.string nm,.int .i64 rate,.bool lp,.int .i64 f,.int .i64 t,.slice A k c]) (by simp [results,Tryz.results130,go_sem,e0,e1,e2,e3,e4,e5]) rfl ?_
    refine ⟨A,c,vsk,by rw [HR.out],by rw [HR.out]; exact hkc,hc63,Row.of_own (base:=w.heap.size+2) (e:=86) (size:=1) (n:=k) (c:=c) ?_,fun ad had=>?_,Hrows.out.below (Below.mono ?_ hB),?_⟩
    ·repeat (refine ownsRow_setCell_below ?_ (by simp) _)
     exact Hown.out
    ·have:=bJ Hown.out ad.block (by rw [had]; rfl)
     omega
    ·repeat (refine Below.setCell ?_ (by simp) _)
     exact Hbel.out
    ·repeat (refine Below.setCell ?_ (by simp) _)
     exact Hbel.out
def IG (W:World) (SS:List SampV) (e:Ending) (w':World):Prop :=
 ∃ A c L',e=.returned (.slice A (List.length L') c)/\List.map Prod.snd L'=SS/\List.length L'<=c/\c<=9223372036854775807/\(A=none->c=0)/\SampsAt w' w'.heap.size A L'/\Below W.heap.size W w'
theorem aAN (L:List (HSamp × SampV)) (A:Option Addr) (cap:Nat) (w:World) (hs:SampsAt w w.heap.size A L) (h8:L.length<=8) (hsm:∀ p ∈ L,p.2.name.size<=100/\p.2.rows.length<=4/\∀ r ∈ p.2.rows,r.length<=150) :
  Calls Tryz.prog 74 #[.slice A L.length cap] w (IG w (L.map Prod.snd)):=by
 obtain ⟨i0,hi,hz0,hz1,hz2⟩:=info_parts PA
 have HTk:=hid (fun (k:Nat) p (h:L[k]? = some p)=>(show (L.map Prod.snd).take (k+1)=(L.map Prod.snd).take k ++ [p.2] from by rw [List.take_add_one,List.getElem?_map,h]; rfl))
 have HTn:=hid (show (L.map Prod.snd).take L.length=L.map Prod.snd from List.take_of_length_le (by simp))
 obtain ⟨n,hn'⟩:∃ n,L.length=n:=⟨_,rfl⟩
 have Hn:=hid hn'
 have Hs:=hid hs
 have Hsm0:=hid hsm
 rw [hn'] at h8 HTn ⊢
 clear hn' hs hsm
 go_enter Tryz.func74,Tryz.ntmps74
 go_wp2
 go_loopw [3,4] (fun o i wr=>∃ (k:Nat) (M:List (HSamp × SampV)) (A':Option Addr) (c:Nat),k<=n/\i=.int .i64 k/\M.length=k/\M.map Prod.snd=(L.map Prod.snd).take k/\o=.slice A' k c /\
   wr.ownsRow w.heap.size 138 6 (.slice A' k c) k (eW M)/\(∀ p ∈ M,Stands w.heap.size wr (Value.slice A' k c).ownBlock p)/\Below w.heap.size w wr) (fun _ i _=>n - (intOf i).toNat)
 case atStart=>exact ⟨0,[],none,0,Nat.zero_le _,rfl,rfl,rfl,rfl,World.ownsRow_nil _ _ _ _,nofun,Below.refl _ _⟩
 case round =>
  obtain ⟨k,M,A',c,hk,rfl,hM,hmap,rfl,hown,hfit,hbel⟩:=hrel
  have HM:=hid hM
  have Hmap:=hid hmap
  have Hown:=hid hown
  have Hfit:=hid hfit
  have Hbel:=hid hbel
  have Hge:=hid (bJ hown)
  clear hM hmap hown hfit hbel
  by_cases hlt:k < n
  ·have hlt8:k < 8:=by omega
   have t1:(k:Int) < (n:Int):=by omega
   have t2:(k:Int) < 8:=by omega
   obtain ⟨p,hp⟩:=aE (k:=k) Hn.out hlt
   have hmem:=List.mem_of_getElem? hp
   have HT:=hid (HTk.out k p hp)
   obtain ⟨b,off,rfl,hb,hc⟩:=BK Hs.out.row hp
   have hft:=Hs.out.fits p hmem
   obtain ⟨hq1,hq2,hq3⟩:=Hsm0.out p hmem
   obtain ⟨⟨nm,rate,lp,f,t,a,len,cp⟩,s⟩:=p
   obtain ⟨⟨e1,e2,e3,e4,e5,e6⟩,h2,h3,vs,h4,h5⟩:=hft
   simp only [HSamp.cells] at hc h2 h3 h4 h5 e1 e2 e3 e4 e5 e6 hq1 hq2 hq3
   have HB:=hid (fun W (hW:Below w.heap.size w W) j v (hv:([.string nm,.int .i64 rate,.bool lp,.int .i64 f,.int .i64 t,.slice a len cp]:List Value)[j]? = some v)=>(hW.cell (p:=⟨b,off+k*6+j,none⟩) hb).trans (hc j v hv))
   have c0:=HB.out _ Hbel.out 0 _ rfl
   have c1:=HB.out _ Hbel.out 1 _ rfl
   have c2:=HB.out _ Hbel.out 2 _ rfl
   have c3:=HB.out _ Hbel.out 3 _ rfl
   have c4:=HB.out _ Hbel.out 4 _ rfl
   have c5:=HB.out _ Hbel.out 5 _ rfl
   rw [Nat.add_zero] at c0
   have HQ:=hid (show Calls Tryz.prog 130 #[.agg #[.string nm,.int .i64 rate,.bool lp,.int .i64 f,.int .i64 t,.slice a len cp]] wr (MS wr w.heap.size nm rate lp f t s.rows) by
    have:=aDt nm rate lp f t a cp vs s.rows wr (by rw [e1]; exact hq1) hq2 hq3 w.heap.size Hbel.out.size (h4.below Hbel.out) (h5.below Hbel.out)
    rw [<-e6] at this; exact this)
   have Hs2:=hid (show (⟨nm,rate,lp,f,t,s.rows⟩:SampV)=s from by
    obtain ⟨x1,x2,x3,x4,x5,x6⟩:=s
    simp only at e1 e2 e3 e4 e5
    rw [e1,e2,e3,e4,e5])
   clear hc hp hmem h4 h5 h2 h3 e1 e2 e3 e4 e5 e6 hq1 hq2 hq3
   generalize s.rows=rows' at *
   go_wp2_with fail
   refine HQ.out.mono ?_
   rintro e w1 ⟨a',cap',vs',rfl,g3,g4,g6,g7,g8,hb1⟩
   have own1:=cS Hown.out hb1
   have Hb1X:=hid (aC Hbel.out hb1)
   have hsz1:=Nat.le_trans Hbel.out.size hb1.size
   have Hfit1:=hid (fun p hp=>(Hfit.out p hp).below Hbel.out.size hb1)
   have HG:=hid (show Stands w.heap.size w1 (Value.slice A' k c).ownBlock (HSamp.mk nm rate lp f t a' rows'.length cap',SampV.mk nm rate lp f t rows') from
    ⟨⟨rfl,rfl,rfl,rfl,rfl,rfl⟩,g3,g4,⟨vs',g6,g8⟩,fun ad had hne=>⟨fun he=>by have:=g7 ad had; have:=wM Hown.out _ he; omega,aDe g6 g8.1 hne had⟩⟩)
   generalize rows'.length=R' at *
   clear c0 c1 c2 c3 c4 c5 g3 g4 g6 g8 hb1 HQ
   go_wp2_with (at_builtin; refine c9 _ rfl (.tmp 15) (.tmp 21) 22 rfl w.heap.size 138 i0 _ 6 72 Tryz.underlying22 hi hz0 hz1 hz2 rfl (by omega) _ k (eW M) rfl (own1.alloc _) (w1.heap.size+1) (some ⟨w1.heap.size,0,none⟩) 1 1 [.string nm,.int .i64 rate,.bool lp,.int .i64 f,.int .i64 t,.slice a' R' cap'] rfl rfl (Row.new w1 _ _) (UY ⟨0,⟨nm,rate,lp,f,t,a',R',cap'⟩,default⟩) (by omega) (by omega) (by simp; omega) ?_; intro A2 cc w2 hown2 hgrow hat hcc)
   go_roundw
   case rel =>
    have hb2:Below w.heap.size w w2:=((Hb1X.out).alloc (by omega) _).grown hgrow (by simp; omega) (fun g h=>Hge.out g h)
    have hrow:(Value.slice A2 (k+1) cc).ownBlock=(Value.slice A' k c).ownBlock\/(Value.slice A2 (k+1) cc).ownBlock=some (w1.alloc (.cells #[.string nm,.int .i64 rate,.bool lp,.int .i64 f,.int .i64 t,.slice a' R' cap'] 138)).heap.size:=hat
    have hst:∀ p,Stands w.heap.size w1 (Value.slice A' k c).ownBlock p->Stands w.heap.size w2 (Value.slice A2 (k+1) cc).ownBlock p:=fun p hp=>(hp.below hsz1 (aL w1 _)).grown (by simp; omega) hgrow (fun g h=>Hge.out g h) hrow
    refine ⟨k+1,M ++ [(HSamp.mk nm rate lp f t a' R' cap',SampV.mk nm rate lp f t rows')],A2,cc,by omega,by go_num,by simp [HM.out],?_,rfl,?_,?_,hb2⟩
    ·rw [List.map_append,Hmap.out,HT.out]
     show _ ++ [SampV.mk nm rate lp f t rows']=_
     rw [Hs2.out]
    ·rw [DV]; exact hown2
    ·intro p hp
     rcases List.mem_append.1 hp with h | h
     ·exact hst p (Hfit1.out p h)
     ·rw [List.mem_singleton] at h; subst h; exact hst _ HG.out
   case measure=>simp [intOf]; omega
  ·have hkn:k=n:=by omega
   subst hkn
   have t1:¬ ((k:Int) < (k:Int)):=by omega
   obtain ⟨A3,c3,he,h1,h2⟩:=iL Hown.out
   injection he with e1 _ e3
   subst e1 e3
   have HFin:=hid (show IG w (L.map Prod.snd) (.returned (.slice A' k c)) wr from ⟨A',c,M,by rw [HM.out],by rw [Hmap.out,HTn.out],by rw [HM.out]; exact h1,iY Hown.out,fun h=>(h2 h).2,⟨Row.of_own Hown.out,fun p hp=>(Hfit.out p hp).fits Hbel.out.size⟩,Hbel.out⟩)
   clear h1 h2
   go_wp2
   go_ret
   exact HFin.out
end
end Go.Proofs.YtnbbfblaipjcmaaGreatDoor
