/- RdC. Conditions: as each theorem states. -/
import Derived.Deep.RegionLaw
import Derived.Deep.AppendLies
import Derived.Deep.DrawnRows
import Derived.Deep.DeepCutAuto
import Derived.Test.YtnbbfblaipjcmaaGreatDoorPv19
import Derived.Test.YtnbbfblaipjcmaaGreatDoorPv20
import Derived.Test.YtnbbfblaipjcmaaGreatDoorPv29
namespace Go.Proofs.YtnbbfblaipjcmaaGreatDoor
open Go.Lib (hid)
open Go.RowKit
theorem aCc {f:FrameV} (h:f.Len) (tv:Value) {m:Nat} (hm:m < 4) (x:Int):(aY f tv).setIfInBounds m (.int .i64 x)=aY ⟨f.gains.set m x,f.tones,f.scale,f.width,f.q⟩ tv:=by
 unfold aY
 rw [List.setIfInBounds_toArray]
 congr 1
 unfold FrameV.cells
 rw [List.set_append_left _ _ (by rw [List.length_map,h.g]; exact hm),List.map_set]
theorem aAn {f:FrameV} (h:f.Len) (tv tv':Value) (ts:List ToneV):(aY f tv).setIfInBounds 4 tv'=aY ⟨f.gains,ts,f.scale,f.width,f.q⟩ tv':=by
 unfold aY
 rw [List.setIfInBounds_toArray]
 congr 1
 unfold FrameV.cells
 rw [List.set_append_right _ _ (by rw [List.length_map,h.g]; omega),List.length_map,h.g]
 rfl
theorem aAm {f:FrameV} (h:f.Len) (tv:Value) {m:Nat} (hm:m < 4) (x:Int):(aY f tv).setIfInBounds (5+m) (.int .i64 x)=aY ⟨f.gains,f.tones,f.scale.set m x,f.width,f.q⟩ tv:=by
 unfold aY
 rw [List.setIfInBounds_toArray]
 congr 1
 unfold FrameV.cells
 rw [List.set_append_right _ _ (by rw [List.length_map,h.g]; omega),List.length_map,h.g,show 5+m - 4=m+1 by omega,List.set_cons_succ,List.set_append_left _ _ (by rw [List.length_map,h.s]; exact hm),List.map_set]
theorem aAo {f:FrameV} (h:f.Len) (tv:Value) {m:Nat} (hm:m < 4) (x:Int):(aY f tv).setIfInBounds (9+m) (.int .i64 x)=aY ⟨f.gains,f.tones,f.scale,f.width.set m x,f.q⟩ tv:=by
 unfold aY
 rw [List.setIfInBounds_toArray]
 congr 1
 unfold FrameV.cells
 rw [List.set_append_right _ _ (by rw [List.length_map,h.g]; omega),List.length_map,h.g,show 9+m - 4=(4+m)+1 by omega,List.set_cons_succ,List.set_append_right _ _ (by rw [List.length_map,h.s]; omega),List.length_map,h.s,show 4+m - 4=m by omega,
  List.set_append_left _ _ (by rw [List.length_map,h.w]; exact hm),List.map_set]
theorem aDV {f:FrameV} (h:f.Len) (tv:Value) {m:Nat} (x:Int):(aY f tv).setIfInBounds (13+m) (.int .i64 x)=aY ⟨f.gains,f.tones,f.scale,f.width,f.q.set m x⟩ tv:=by
 unfold aY
 rw [List.setIfInBounds_toArray]
 congr 1
 unfold FrameV.cells
 rw [List.set_append_right _ _ (by rw [List.length_map,h.g]; omega),List.length_map,h.g,show 13+m - 4=(8+m)+1 by omega,List.set_cons_succ,List.set_append_right _ _ (by rw [List.length_map,h.s]; omega),List.length_map,h.s,show 8+m - 4=4+m by omega,
  List.set_append_right _ _ (by rw [List.length_map,h.w]; omega),List.length_map,h.w,show 4+m - 4=m by omega,List.map_set]
theorem aCR (B:List Nat) {m:Nat} (hm:m < 4):(gRd B m).set m (eE B (gSt B m) 2:Int)=gRd B (m+1):=xC 4 (fun i=>(eE B (gSt B i) 2:Int)) (fun _=>0) hm
theorem aDf (B:List Nat) {m:Nat} (hm:m < 4):(sRd B m).set m (sOf B m:Int)=sRd B (m+1):=xC 4 (fun i=>(sOf B i:Int)) (fun _=>0) hm
theorem aDl (B:List Nat) {m:Nat} (hm:m < 4):(wRd B m).set m (wOf B m:Int)=wRd B (m+1):=xC 4 (fun i=>(wOf B i:Int)) (fun _=>0) hm
theorem aDc (B:List Nat) {m:Nat} (hm:m < 16):(qRd B m).set m (qOf B m)=qRd B (m+1):=xC 16 (fun i=>qOf B i) (fun _=>0) hm
theorem aCf (B:List Nat) (m:Nat):tRd B (m+1)=tRd B m ++ [XK B m]:=by unfold tRd; rw [List.range_succ]; simp
theorem aDh (B:List Nat) (m:Nat):(tRd B m).length=m:=by simp [tRd]
theorem FO (l:List ToneV) (t:ToneV):aW (l ++ [t])=aW l ++ t.cells:=by simp [aW]
open Classical in
noncomputable def n7 (B:List Nat):Int:=if DF B ≠ 0 then DF B else if RightF (eQ B) then 0 else 4
open Classical in
noncomputable def rdF (B:List Nat):FrameV:=if n7 B=0 then eQ B else eR
theorem aD0 {B:List Nat} (h:DF B ≠ 0):n7 B=DF B/\rdF B=eR:=by
 have e:n7 B=DF B:=if_pos h
 exact ⟨e,if_neg (by rw [e]; exact h)⟩
theorem aDU {B:List Nat} (h:DF B=0) (hR:RightF (eQ B)):n7 B=0/\rdF B=eQ B:=by
 have e:n7 B=0:=(if_neg (by simp [h])).trans (if_pos hR)
 exact ⟨e,if_pos e⟩
theorem aD1 {B:List Nat} (h:DF B=0) (hR:¬ RightF (eQ B)):n7 B=4/\rdF B=eR:=by
 have e:n7 B=4:=(if_neg (by simp [h])).trans (if_neg hR)
 exact ⟨e,if_neg (by rw [e]; decide)⟩
structure RdSt (w W:World) (g gF:Nat) (A:Option Addr) (c n:Nat) (s:RdS) (f:FrameV) (tv:Value):Prop where
 rd:j9 W g A c n s
 fr:W.heap[gF]? = some (.cells (aY f tv) 50 (0,0))
 rs:W.heap[w.heap.size]? = some (.cells bK 50 (0,0))
 bel:Below w.heap.size w W
theorem UT {w:World} (g:Nat) (cs:Array Value):w.grownBy (w.setRow g cs) (some g):=⟨rfl,rfl,rfl,by simp,fun k _ hk=>setRow_other w g k _ (fun e=>hk (by rw [e]))⟩
theorem RdSt.get {w W W':World} {g gF:Nat} {A:Option Addr} {c n:Nat} {s s':RdS} {f:FrameV} {tv:Value} (h:RdSt w W g gF A c n s f tv) (h1:w.heap.size < g) (h2:g < gF) (hR:j9 W' g A c n s') (hG:W.grownBy W' (some g)):RdSt w W' g gF A c n s' f tv :=
 ⟨hR,(hG.block gF (hlt h.fr) (fun e=>by injection e with e; omega)).trans h.fr,(hG.block _ (hlt h.rs) (fun e=>by injection e with e; omega)).trans h.rs,h.bel.grown hG (Nat.le_of_lt (hlt h.rs)) (fun k hk=>by injection hk with hk; omega)⟩
theorem RdSt.set {w W:World} {g gF:Nat} {A:Option Addr} {c n:Nat} {s:RdS} {f f':FrameV} {tv tv':Value} (h:RdSt w W g gF A c n s f tv) (h1:w.heap.size < g) (h2:g < gF) (j:Nat) (v:Value) (he:(aY f tv).setIfInBounds j v=aY f' tv'):RdSt w (W.setCell ⟨gF,j,none⟩ v) g gF A c n s f' tv':=by
 have hG:W.grownBy (W.setCell ⟨gF,j,none⟩ v) (some gF):=iH _ _ _
 refine ⟨(hG.block g (hlt h.rd) (fun e=>by injection e with e; omega)).trans h.rd,?_,(hG.block _ (hlt h.rs) (fun e=>by injection e with e; omega)).trans h.rs,h.bel.grown hG (Nat.le_of_lt (hlt h.rs)) (fun k hk=>by injection hk with hk; omega)⟩
 rw [heap_setCell_same W gF j _ _ _ h.fr,he]
theorem RdSt.other {w W W':World} {g gF:Nat} {A:Option Addr} {c n:Nat} {s:RdS} {f:FrameV} {tv:Value} {row:Option Nat} (h:RdSt w W g gF A c n s f tv) (h1:w.heap.size < g) (h2:g < gF) (hG:W.grownBy W' row) (hr:∀ k,row=some k->gF < k):RdSt w W' g gF A c n s f tv :=
 ⟨(hG.block g (hlt h.rd) (fun e=>by have:=hr _ e.symm; omega)).trans h.rd,(hG.block gF (hlt h.fr) (fun e=>by have:=hr _ e.symm; omega)).trans h.fr,(hG.block _ (hlt h.rs) (fun e=>by have:=hr _ e.symm; omega)).trans h.rs,h.bel.grown hG (Nat.le_of_lt (hlt h.rs)) (fun k hk=>by have:=hr _ hk; omega)⟩
theorem RdSt.cell4 {w W:World} {g gF:Nat} {A:Option Addr} {c n:Nat} {s:RdS} {f:FrameV} {tv:Value} (h:RdSt w W g gF A c n s f tv) (hf:f.Len):W.cell? ⟨gF,4,none⟩=some tv:=(dS hf h.fr).2.1
theorem VB {w:World} {base:Nat} {e:TypeId} {size n c:Nat} {A:Option Addr} {xs:List Value} (h:w.ownsRow base e size (.slice A n c) n xs):n=0\/∃ g,A=some ⟨g,0,none⟩/\base<=g:=by
 rcases h.2 with ⟨_,h0⟩ | ⟨g,cap,cur,hv,hb,_⟩
 ·exact .inl h0
 ·injection hv with h1
  exact .inr ⟨g,h1,hb⟩
theorem aCU {a b c:World} {row:Option Nat} (h:Below a.heap.size a b) (k:b.grownBy c row):a.grownBy c row :=
 ⟨k.os.trans h.os,k.tape.trans h.tape,k.output.trans h.output,Nat.le_trans h.size k.size,fun i hi hr=>(k.block i (Nat.lt_of_lt_of_le hi h.size) hr).trans (h.block i hi)⟩
theorem fX {W W':World} {base:Nat} {e:TypeId} {size n:Nat} {v:Value} {xs:List Value} {row:Option Nat} (h:W.ownsRow base e size v n xs) (hG:W.grownBy W' row) (hr:∀ k,row=some k->k < base):W'.ownsRow base e size v n xs :=
 h.kept hG (by
  rcases hv:v.ownBlock with _ | k
  ·exact .inl rfl
  ·right
   have:=bJ h k hv
   intro e
   have:=hr k e.symm
   omega)
attribute [local go_sem ↓] Go.wp_at_zero Go.wp_at_succ
set_option maxRecDepth 100000 in
set_option maxHeartbeats 16000000 in
theorem XS (B : List Nat) (A : Option Addr) (c : Nat) (w : World) (hn : B.length ≤ 1000000) (hb : ∀ x ∈ B, x < 256) (hr : Row w w.heap.size A (u8s B)) :
    Calls Tryz.prog 37 #[.slice A B.length c] w (mJ w (rdF B) (n7 B)) := by
  have HBy := hid (fun W g (hg : w.heap.size ≤ g) (hW : Below w.heap.size w W) => (show RBytesAt W g A B from ⟨hr.later hW, fun hB ad ha => by
    obtain ⟨x, hx⟩ : ∃ x, B[0]? = some x := ⟨_, List.getElem?_eq_getElem (List.length_pos_iff.2 hB)⟩
    obtain ⟨b, off, hA, hbl, _⟩ := hr 0 _ (d9 hx)
    rw [hA] at ha
    injection ha with ha
    subst ha
    show b ≠ g
    omega⟩))
  have HG := hid (fun g s k W (hk : k ≤ 57) (hi : InB B s) (hB : RBytesAt W g A B) (hR : j9 W g A c B.length s) => KD B g A c s k W hk hn hb hi hB hR)
  have HSg := hid (fun g s k W (hk : k ≤ 57) (hi : InB B s) (hB : RBytesAt W g A B) (hR : j9 W g A c B.length s) => M4 B g A c s k W hk hn hb hi hB hR)
  have HFl := hid (fun g s W (hR : j9 W g A c B.length s) => MR g A c B.length s 4 W hR)
  have HEn := hid (fun g s W (hi : InB B s) (hB : RBytesAt W g A B) (hR : j9 W g A c B.length s) => aCs B g A c s W hn hb hi hB hR)
  have HRd := hid (KL A c B.length)
  have hi0 : InB B ⟨0, 0⟩ := Nat.zero_le _
  have HEr := hid (show (DG B (qSt B 16) (8 * B.length)).er = DF B from rfl)
  have HI0 := hid hi0
  generalize hN : B.length = n at *
  have hrs := heap_alloc_new w (.cells bK 50)
  have HRs := hid hrs
  have HB0 := hid (aL w (.cells bK 50))
  have HZ := hid (show bK = #[.int .i64 0, .int .i64 0, .int .i64 0, .int .i64 0, .slice none 0 0, .int .i64 0, .int .i64 0, .int .i64 0, .int .i64 0, .int .i64 0, .int .i64 0, .int .i64 0, .int .i64 0, .int .i64 0, .int .i64 0, .int .i64 0, .int .i64 0, .int .i64 0, .int .i64 0, .int .i64 0, .int .i64 0, .int .i64 0, .int .i64 0, .int .i64 0, .int .i64 0, .int .i64 0, .int .i64 0, .int .i64 0, .int .i64 0] from rfl)
  clear hr hb hrs hi0 hN hn
  go_enter Tryz.func37, Tryz.ntmps37
  go_wp2_with (go_at_call 94; fail)
  rw [← HZ.out]
  refine (HRd.out _).mono ?_
  rintro e w1 ⟨rfl, hR, hb1⟩
  obtain ⟨g, hg⟩ : ∃ g, (w.alloc (.cells bK 50)).heap.size = g := ⟨_, rfl⟩
  have hwg : w.heap.size < g := by rw [← hg]; simp
  rw [hg] at hR ⊢
  have R1 := hid (hR)
  have S1 := hid (aF HRs.out hb1)
  have E1 := hid (aC HB0.out hb1)
  obtain ⟨gF, hgF⟩ : ∃ gF, w1.heap.size = gF := ⟨_, rfl⟩
  have hgg : g < gF := by rw [← hgF]; exact hlt hR
  obtain ⟨W2, hW2⟩ : ∃ W2, w1.alloc (.cells bK 50) = W2 := ⟨_, rfl⟩
  have T2 := hid (show RdSt w W2 g gF A c n ⟨0, 0⟩ eR (.slice none 0 0) from by
    rw [← hW2, ← hgF]
    refine ⟨(heap_alloc_old _ _ (hlt hR)).trans hR, heap_alloc_new _ _, (heap_alloc_old _ _ (hlt S1.out)).trans S1.out, aC E1.out (aL w1 _)⟩)
  have HG2 := hid (HG.out g ⟨0, 0⟩ 2 W2 (by omega) HI0.out (HBy.out W2 g (by omega) T2.out.bel) T2.out.rd)
  have HR0 := hid (show rd0 B = if eE B ⟨0, 0⟩ 2 = 1 then cV B ⟨0, 0⟩ 2 else mV (cV B ⟨0, 0⟩ 2) 4 from rfl)
  have HI1 := hid (UP B)
  generalize eE B ⟨0, 0⟩ 2 = v0 at *
  generalize cV B ⟨0, 0⟩ 2 = s0 at *
  clear hR hb1 HRs HB0 R1 S1 E1 HRd hg
  go_upto_if 14 with (go_at_call 95; (try rw [← HZ.out]); (try rw [hW2]); refine HG2.out.mono ?_; rintro e w3 ⟨rfl, hR3, hg3⟩)
  have T3 := hid (T2.out.get hwg hgg hR3 hg3)
  clear hR3 hg3 T2 HG2
  go_cut [] (fun wc => RdSt w wc g gF A c n (rd0 B) eR (.slice none 0 0))
  case first =>
    by_cases hv : v0 = 1
    · have t1 : ((v0 : Int) != 1) = false := by subst hv; rfl
      have HR1 := hid (show rd0 B = s0 by rw [HR0.out, if_pos hv])
      clear hv
      go_wp2
      go_meet
      case rel => rw [HR1.out]; exact T3.out
    · have t1 : ((v0 : Int) != 1) = true := by simp; omega
      have HR1 := hid (show rd0 B = mV s0 4 by rw [HR0.out, if_neg hv])
      have HF3 := hid (HFl.out g s0 w3 T3.out.rd)
      clear hv
      go_wp2_with (go_at_call 96; fail)
      refine HF3.out.mono ?_
      rintro e w4 ⟨rfl, hR4, hg4⟩
      have T4 := hid (T3.out.get hwg hgg hR4 hg4)
      clear hR4 hg4
      go_wp2
      go_meet
      case rel => rw [HR1.out]; exact T4.out
  case rest =>
    have T4 := hid hcut
    clear hcut T3
    have HLz := hid (show ∀ m, FrameV.Len ⟨gRd B m, [], dC, dC, fZ⟩ from fun m => ⟨nW B m, rfl, rfl, rfl⟩)
    go_wp2_with fail
    go_loopw [17] (fun i wr => ∃ m : Nat, m ≤ 4 ∧ i = .int .i64 m ∧ RdSt w wr g gF A c n (gSt B m) ⟨gRd B m, [], dC, dC, fZ⟩ (.slice none 0 0)) (fun i _ => 4 - (intOf i).toNat)
    case atStart => exact ⟨0, by omega, rfl, T4.out⟩
    case round =>
      obtain ⟨m, hm, rfl, hT⟩ := hrel
      have HT := hid hT
      clear hT T4
      by_cases hlk : m < 4
      · have t1 : (m : Int) < 4 := by omega
        have t2 : (0 : Int) ≤ (m : Int) := by omega
        have hGm := HG.out g (gSt B m) 2 wr (by omega) (HI1.out m) (HBy.out wr g (by omega) HT.out.bel) HT.out.rd
        have hV := qC B (gSt B m) 2
        have HS := hid (aCR B hlk)
        have HSe := hid (aCc (HLz.out m) (.slice none 0 0) hlk (eE B (gSt B m) 2 : Int))
        rw [show (⟨gRd B m, [], dC, dC, fZ⟩ : FrameV).gains.set m (eE B (gSt B m) 2 : Int) = gRd B (m + 1) from HS.out] at HSe
        have HNx := hid (show gSt B (m + 1) = cV B (gSt B m) 2 from rfl)
        rw [← HNx.out] at hGm
        generalize eE B (gSt B m) 2 = V at *
        have hwr : IntKind.i64.wrap (V : Int) = (V : Int) := IntWalk.i64_in _ (by omega)
        have HGm := hid hGm
        clear hGm HS
        go_wp2_with (go_at_call 95; fail)
        refine HGm.out.mono ?_
        rintro e w5 ⟨rfl, hR5, hg5⟩
        have T5 := hid (HT.out.get hwg hgg hR5 hg5)
        have z5 : w5.frozen? ⟨gF, m, none⟩ = false := frozen_of_row w5 gF m _ _ T5.out.fr
        obtain ⟨x, hx⟩ := aE (k := m) (nW B m) hlk
        have c5 : w5.cell? ⟨gF, m, none⟩ = some (.int .i64 x) := by
          have := (dS (HLz.out m) T5.out.fr).1 m (.int .i64 x) (by rw [List.getElem?_map, hx]; rfl)
          rwa [Nat.zero_add] at this
        clear hR5 hg5 HT HGm hx
        go_wp2
        go_roundw
        case rel => exact ⟨m + 1, by omega, by go_num, T5.out.set hwg hgg m _ HSe.out⟩
        case measure => simp [intOf]; omega
      · have hm4 : m = 4 := by omega
        subst hm4
        have t1 : ¬ (((4 : Nat) : Int) < 4) := by omega
        have hGm := HG.out g (gSt B 4) 2 wr (by omega) (HI1.out 4) (HBy.out wr g (by omega) HT.out.bel) HT.out.rd
        have HGm := hid hGm
        go_wp2_with (go_at_call 95; fail)
        refine HGm.out.mono ?_
        rintro e w5 ⟨rfl, hR5, hg5⟩
        have T5 := hid (HT.out.get hwg hgg hR5 hg5)
        have hV := qC B (gSt B 4) 2
        have HN0 := hid (show tSt B 0 = cV B (gSt B 4) 2 from rfl)
        obtain ⟨N, hN⟩ : ∃ N, eE B (gSt B 4) 2 = N := ⟨_, rfl⟩
        have HCn := hid (show NT B = N from hN)
        rw [hN] at hV
        have hN4 : N < 4 := hV
        rw [hN]
        have T6 := hid (HN0.out ▸ T5.out)
        have HTi := hid (V6 B)
        have HLt := hid (show ∀ m, FrameV.Len ⟨gRd B 4, tRd B m, dC, dC, fZ⟩ from fun m => ⟨nW B 4, rfl, rfl, rfl⟩)
        clear hR5 hg5 HT HGm hGm hN T5 hV HN0
        go_wp2_with fail
        go_loopw [29] (fun i wr => ∃ (m : Nat) (A' : Option Addr) (cc : Nat), m ≤ N ∧ i = .int .u64 m ∧ RdSt w wr g gF A c n (tSt B m) ⟨gRd B 4, tRd B m, dC, dC, fZ⟩ (.slice A' m cc) ∧ wr.ownsRow (gF + 1) 169 2 (.slice A' m cc) m (aW (tRd B m))) (fun i _ => N - (intOf i).toNat)
        case atStart => exact ⟨0, none, 0, by omega, rfl, T6.out, World.ownsRow_nil _ _ _ _⟩
        case round =>
          obtain ⟨m, A', cc, hm, rfl, hT, hown⟩ := hrel
          have HT := hid (hT.other hwg hgg (row := none) (mZ (Below.refl wr.heap.size wr).drew) (fun k hk => by cases hk))
          have HO := hid (fX hown (mZ (Below.refl wr.heap.size wr).drew) (fun k hk => by cases hk) (row := none))
          have HT0 := hid hT
          have HO0 := hid hown
          clear hT hown T6
          by_cases hlk : m < N
          · have t1 : (m : Int) < (N : Int) := by omega
            have hV1 := qC B (tSt B m) 4
            have HV1 := hid (show IntKind.i64.wrap ((eE B (tSt B m) 4 : Nat) : Int) = ((eE B (tSt B m) 4 : Nat) : Int) from IntWalk.i64_in _ (by omega))
            have hw1 := HV1.out
            have HG1 := hid (HG.out g (tSt B m) 4 wr.drew (by omega) (HTi.out m) (HBy.out _ g (by omega) HT.out.bel) HT.out.rd)
            have HTn := hid (show tSt B (m + 1) = cV B (cV B (tSt B m) 4) 24 from rfl)
            have HTo := hid (show XK B m = ⟨eE B (tSt B m) 4, FD B (cV B (tSt B m) 4) 24⟩ from rfl)
            have HI2 := hid (jN (HTi.out m) 4)
            have HSn := hid (show aW (tRd B (m + 1)) = aW (tRd B m) ++ (XK B m).cells by rw [aCf, FO])
            have HSe := hid (fun tv tv' => (show (aY ⟨gRd B 4, tRd B m, dC, dC, fZ⟩ tv).setIfInBounds 4 tv' = aY ⟨gRd B 4, tRd B (m + 1), dC, dC, fZ⟩ tv' from aAn (HLt.out m) tv tv' (tRd B (m + 1))))
            have HSg2 := hid (fun W (hT : RdSt w W g gF A c n (cV B (tSt B m) 4) ⟨gRd B 4, tRd B m, dC, dC, fZ⟩ (.slice A' m cc)) => HSg.out g (cV B (tSt B m) 4) 24 W (by omega) HI2.out (HBy.out W g (by omega) hT.bel) hT.rd)
            have HLm := hid (HLt.out m)
            rw [HTo.out] at HSn
            rw [← HTn.out] at HSg2
            generalize eE B (tSt B m) 4 = V1 at *
            generalize cV B (tSt B m) 4 = s1 at *
            generalize FD B s1 24 = V2 at *
            obtain ⟨iT, hiT, hzT0, hzT1, hzT2⟩ : ∃ i, Tryz.prog.info? 169 = some i ∧ i.zero = some (.agg #[.int .i64 0, .int .i64 0]) ∧ i.size = 2 ∧ i.bytes = 16 := by
              have : (Tryz.prog.info? 169).map (fun i => (i.zero, i.size, i.bytes)) = some (some (.agg #[.int .i64 0, .int .i64 0]), 2, 16) := by kernel_rfl
              cases h : Tryz.prog.info? 169 with
              | none => rw [h] at this; cases this
              | some i =>
                rw [h] at this
                simp only [Option.map_some, Option.some.injEq, Prod.mk.injEq] at this
                exact ⟨i, rfl, this.1, this.2.1, this.2.2⟩
            clear hV1 HTn HTo
            go_wp2_with fail
            have c40 := HT0.out.cell4 HLm.out
            go_region_law (first | (go_simp; go_at_call 95; refine HG1.out.mono ?_; rintro e w5 ⟨rfl, hR5, hg5⟩; have T5 := hid (HT.out.get hwg hgg hR5 hg5); have c45 := T5.out.cell4 HLm.out; have O5 := hid (fX HO.out hg5 (fun k hk => by injection hk with hk; omega))) | (go_simp; go_at_call 97; refine (HSg2.out _ T5.out).mono ?_; rintro e w6 ⟨rfl, hR6, hg6⟩; have T6 := hid (T5.out.get hwg hgg hR6 hg6); have c46 := T6.out.cell4 HLm.out; have d46 := fun O => bP c46 O; have O6 := hid (fX O5.out hg6 (fun k hk => by injection hk with hk; omega))) | (refine step_append_lies _ (by rfl) _ _ _ (by rfl) (gF + 1) 169 iT (.agg #[.int .i64 0, .int .i64 0]) 2 16 Tryz.underlying46 hiT hzT0 hzT1 hzT2 rfl (by omega) (.slice A' m cc) m (aW (tRd B m)) (by rfl) (O6.out.alloc _) ⟨w6.heap.size, 0, none⟩ 1 1 [.int .i64 V1, .int .i64 V2] (by rfl) rfl (World.news_of_block (heap_alloc_new w6 _)) (fun u hu => by simp at hu; rcases hu with rfl | rfl <;> rfl) (by omega) (by unfold maxLen; omega) (by omega) (by have := hlt T6.out.fr; simp; omega) (w6.heap.size + 1) (by simp) ?_; intro gg cap w7 hown7 hgrow7 hat7 hlt7; have T7 := hid (T6.out.other hwg hgg (aCU (aL w6 _) hgrow7) (fun k hk => bJ O6.out k hk)); have c7 := T7.out.cell4 HLm.out; have z7 := frozen_of_row w7 gF 4 _ _ T7.out.fr))
            all_goals
             have O7 := hid (fX hown7 (iH gF 4 (.slice (some ⟨gg, 0, none⟩) (m + 1) cap)) (fun k hk => by injection hk with hk; omega))
             have T8 := hid (T7.out.set hwg hgg 4 (.slice (some ⟨gg, 0, none⟩) (m + 1) cap) (HSe.out _ _))
             go_wp2
             go_roundw
             case rel => exact ⟨m + 1, some ⟨gg, 0, none⟩, cap, by omega, by go_num, T8.out, by rw [HSn.out]; exact O7.out⟩
             case measure => simp [intOf]; omega
          · have hmN : m = N := by omega
            have t1 : ¬ ((m : Int) < (N : Int)) := by omega
            subst hmN
            obtain ⟨tv, htv⟩ : ∃ tv, Value.slice A' m cc = tv := ⟨_, rfl⟩
            rw [htv] at HT0 HO0
            have Htv := hid htv
            have HLb := hid (show ∀ k, FrameV.Len ⟨gRd B 4, tRd B m, sRd B k, wRd B k, fZ⟩ from fun k => ⟨nW B 4, tA B k, tE B k, rfl⟩)
            have HLb2 := hid (show ∀ k, FrameV.Len ⟨gRd B 4, tRd B m, sRd B (k + 1), wRd B k, fZ⟩ from fun k => ⟨nW B 4, tA B _, tE B k, rfl⟩)
            have HBi := hid (SZ B)
            have TB := hid (show RdSt w wr g gF A c n (bSt B 0) ⟨gRd B 4, tRd B m, sRd B 0, wRd B 0, fZ⟩ tv from by
              rw [show bSt B 0 = tSt B m from by show tSt B (NT B) = _; rw [HCn.out]]
              exact HT0.out)
            clear HT HO HT0 htv HLt HTi
            go_wp2_with fail
            go_loopw [43] (fun i wr => ∃ k : Nat, k ≤ 4 ∧ i = .int .i64 k ∧ RdSt w wr g gF A c n (bSt B k) ⟨gRd B 4, tRd B m, sRd B k, wRd B k, fZ⟩ tv ∧ wr.ownsRow (gF + 1) 169 2 tv m (aW (tRd B m))) (fun i _ => 4 - (intOf i).toNat)
            case atStart => exact ⟨0, by omega, rfl, TB.out, HO0.out⟩
            case round =>
              obtain ⟨k, hk, rfl, hT, hown⟩ := hrel
              have HT := hid hT
              have HO := hid hown
              clear hT hown TB HO0
              by_cases hkk : k < 4
              · have t1 : (k : Int) < 4 := by omega
                have t2 : (0 : Int) ≤ (k : Int) := by omega
                have HG1 := hid (HG.out g (bSt B k) 5 wr (by omega) (HBi.out k) (HBy.out wr g (by omega) HT.out.bel) HT.out.rd)
                have HG2 := hid (fun W (hT : RdSt w W g gF A c n (cV B (bSt B k) 5) ⟨gRd B 4, tRd B m, sRd B (k + 1), wRd B k, fZ⟩ tv) => HG.out g (cV B (bSt B k) 5) 5 W (by omega) (jN (HBi.out k) 5) (HBy.out W g (by omega) hT.bel) hT.rd)
                have hv1 : eE B (bSt B k) 5 < 32 := qC B (bSt B k) 5
                have hv2 : eE B (cV B (bSt B k) 5) 5 < 32 := qC B _ 5
                have HNx := hid (show bSt B (k + 1) = if 23 < eE B (bSt B k) 5 ∨ 24 < eE B (cV B (bSt B k) 5) 5 then mV (cV B (cV B (bSt B k) 5) 5) 4 else cV B (cV B (bSt B k) 5) 5 from rfl)
                have HSe1 := hid (aAm (HLb.out k) tv hkk (eE B (bSt B k) 5 : Int))
                rw [show (⟨gRd B 4, tRd B m, sRd B k, wRd B k, fZ⟩ : FrameV).scale.set k (eE B (bSt B k) 5 : Int) = sRd B (k + 1) from aDf B hkk] at HSe1
                have HSe2 := hid (aAo (HLb2.out k) tv hkk (eE B (cV B (bSt B k) 5) 5 : Int))
                rw [show (⟨gRd B 4, tRd B m, sRd B (k + 1), wRd B k, fZ⟩ : FrameV).width.set k (eE B (cV B (bSt B k) 5) 5 : Int) = wRd B (k + 1) from aDl B hkk] at HSe2
                have HSg1 := hid (show (sRd B (k + 1))[k]? = some (eE B (bSt B k) 5 : Int) from by
                  unfold sRd
                  rw [aJ _ hkk, if_pos (by omega)]; rfl)
                have HWg1 := hid (show (wRd B (k + 1))[k]? = some (eE B (cV B (bSt B k) 5) 5 : Int) from by
                  unfold wRd
                  rw [aJ _ hkk, if_pos (by omega)]; rfl)
                generalize eE B (cV B (bSt B k) 5) 5 = V2 at *
                generalize eE B (bSt B k) 5 = V1 at *
                have hw1 : IntKind.i64.wrap (V1 : Int) = (V1 : Int) := IntWalk.i64_in _ (by omega)
                have hw2 : IntKind.i64.wrap (V2 : Int) = (V2 : Int) := IntWalk.i64_in _ (by omega)
                generalize cV B (cV B (bSt B k) 5) 5 = s2 at *
                generalize cV B (bSt B k) 5 = s1 at *
                obtain ⟨x1, hx1⟩ := aE (k := k) (tA B k) hkk
                obtain ⟨x2, hx2⟩ := aE (k := k) (tE B k) hkk
                have HX1 := hid (show ((sRd B k).map (Value.int .i64))[k]? = some (.int .i64 x1) by rw [List.getElem?_map, hx1]; rfl)
                have HX2 := hid (show ((wRd B k).map (Value.int .i64))[k]? = some (.int .i64 x2) by rw [List.getElem?_map, hx2]; rfl)
                clear hx1 hx2
                go_wp2_with (go_at_call 95; fail)
                refine HG1.out.mono ?_
                rintro e w5 ⟨rfl, hR5, hg5⟩
                have T5 := hid (HT.out.get hwg hgg hR5 hg5)
                have O5 := hid (fX HO.out hg5 (fun k hk => by injection hk with hk; omega))
                have z5 : w5.frozen? ⟨gF, 5 + k, none⟩ = false := frozen_of_row w5 gF _ _ _ T5.out.fr
                have c5 : w5.cell? ⟨gF, 5 + k, none⟩ = some (.int .i64 x1) := (dS (HLb.out k) T5.out.fr).2.2.1 k _ HX1.out
                have T6 := hid (T5.out.set hwg hgg (5 + k) _ HSe1.out)
                have O6 := hid (fX O5.out (iH gF (5 + k) (.int .i64 (V1 : Int))) (fun k hk => by injection hk with hk; omega))
                have HG3 := hid (HG2.out _ T6.out)
                clear hR5 hg5 HT HO HG1 HG2 HX1 HSe1
                go_wp2_with (go_at_call 95; fail)
                refine HG3.out.mono ?_
                rintro e w7 ⟨rfl, hR7, hg7⟩
                have T7 := hid (T6.out.get hwg hgg hR7 hg7)
                have O7 := hid (fX O6.out hg7 (fun k hk => by injection hk with hk; omega))
                have z7 : w7.frozen? ⟨gF, 9 + k, none⟩ = false := frozen_of_row w7 gF _ _ _ T7.out.fr
                have c7 : w7.cell? ⟨gF, 9 + k, none⟩ = some (.int .i64 x2) := (dS (HLb2.out k) T7.out.fr).2.2.2.1 k _ HX2.out
                have T8 := hid (T7.out.set hwg hgg (9 + k) _ HSe2.out)
                have O8 := hid (fX O7.out (iH gF (9 + k) (.int .i64 (V2 : Int))) (fun k hk => by injection hk with hk; omega))
                obtain ⟨W8, hW8⟩ : ∃ W8, w7.setCell ⟨gF, 9 + k, none⟩ (.int .i64 (V2 : Int)) = W8 := ⟨_, rfl⟩
                rw [hW8] at T8 O8
                have d1 : W8.cell? ⟨gF, 5 + k, none⟩ = some (.int .i64 (V1 : Int)) := (dS (HLb.out (k + 1)) T8.out.fr).2.2.1 k _ (by show ((sRd B (k + 1)).map _)[k]? = _; rw [List.getElem?_map, HSg1.out]; rfl)
                have d2 : W8.cell? ⟨gF, 9 + k, none⟩ = some (.int .i64 (V2 : Int)) := (dS (HLb.out (k + 1)) T8.out.fr).2.2.2.1 k _ (by show ((wRd B (k + 1)).map _)[k]? = _; rw [List.getElem?_map, HWg1.out]; rfl)
                clear hR7 hg7 T5 O5 T6 O6 HG3 HX2 HSe2 HSg1 HWg1 c5 z5 T7 O7
                have hcs : (decide (23 < (V1 : Int)) = true ∧ bSt B (k + 1) = mV s2 4) ∨ (decide (23 < (V1 : Int)) = false ∧ decide (24 < (V2 : Int)) = true ∧ bSt B (k + 1) = mV s2 4) ∨ (decide (23 < (V1 : Int)) = false ∧ decide (24 < (V2 : Int)) = false ∧ bSt B (k + 1) = s2) := by
                  rw [HNx.out]
                  by_cases h1 : 23 < V1
                  · exact .inl ⟨decide_eq_true (by omega), if_pos (.inl h1)⟩
                  · by_cases h2 : 24 < V2
                    · exact .inr (.inl ⟨decide_eq_false (by omega), decide_eq_true (by omega), if_pos (.inr h2)⟩)
                    · exact .inr (.inr ⟨decide_eq_false (by omega), decide_eq_false (by omega), if_neg (by omega)⟩)
                have HF8 := hid (HFl.out g s2 W8 T8.out.rd)
                clear HNx
                rcases hcs with ⟨e1, hE⟩ | ⟨e1, e2, hE⟩ | ⟨e1, e2, hE⟩
                case inr.inr =>
                  have HE := hid hE
                  clear hE
                  go_wp2_with (rw [hW8])
                  go_roundw
                  case rel => exact ⟨k + 1, by omega, by go_num, by rw [HE.out]; exact T8.out, O8.out⟩
                  case measure => simp [intOf]; omega
                all_goals
                  have HE := hid hE
                  clear hE
                  go_wp2_with (first | rw [hW8] | (go_at_call 96; fail))
                  refine HF8.out.mono ?_
                  rintro e w9 ⟨rfl, hR9, hg9⟩
                  have T9 := hid (T8.out.get hwg hgg hR9 hg9)
                  have O9 := hid (fX O8.out hg9 (fun k hk => by injection hk with hk; omega))
                  clear hR9 hg9
                  go_wp2
                  go_roundw
                  case rel => exact ⟨k + 1, by omega, by go_num, by rw [HE.out]; exact T9.out, O9.out⟩
                  case measure => simp [intOf]; omega
              · have hk4 : k = 4 := by omega
                subst hk4
                have t1 : ¬ (((4 : Nat) : Int) < 4) := by omega
                have HQi := hid (aB8 B)
                have HLq := hid (show ∀ j, FrameV.Len ⟨gRd B 4, tRd B m, sRd B 4, wRd B 4, qRd B j⟩ from fun j => ⟨nW B 4, tA B 4, tE B 4, BI B j⟩)
                have TQ := hid (show RdSt w wr g gF A c n (qSt B 0) ⟨gRd B 4, tRd B m, sRd B 4, wRd B 4, qRd B 0⟩ tv from HT.out)
                clear HT HLb HLb2 HBi
                go_wp2_with fail
                go_loopw [73] (fun i wr => ∃ j : Nat, j ≤ 16 ∧ i = .int .i64 j ∧ RdSt w wr g gF A c n (qSt B j) ⟨gRd B 4, tRd B m, sRd B 4, wRd B 4, qRd B j⟩ tv ∧ wr.ownsRow (gF + 1) 169 2 tv m (aW (tRd B m))) (fun i _ => 16 - (intOf i).toNat)
                case atStart => exact ⟨0, by omega, rfl, TQ.out, HO.out⟩
                case round =>
                  obtain ⟨j, hj, rfl, hT, hown⟩ := hrel
                  have HT := hid hT
                  have HO2 := hid hown
                  clear hT hown TQ HO
                  by_cases hjj : j < 16
                  · have t3 : (j : Int) < 16 := by omega
                    have t4 : (0 : Int) ≤ (j : Int) := by omega
                    obtain ⟨q, hq⟩ : ∃ q, j / 4 = q := ⟨_, rfl⟩
                    have hq4 : q < 4 := by omega
                    have t5 : (q : Int) < 4 := by omega
                    have t6 : (0 : Int) ≤ (q : Int) := by omega
                    have HBand := hid (show ∀ W, Calls Tryz.prog 98 #[.int .i64 j] W fun e w' => e = .returned (.int .i64 (q : Int)) ∧ W = w' from fun W => (oK j W hjj).mono fun e w' ⟨he, hw⟩ => ⟨he.trans (cE (by omega)), hw⟩)
                    have hwb : wOf B q < 32 := qC B _ 5
                    have HSq := hid (HSg.out g (qSt B j) (wOf B q) wr (by omega) (HQi.out j) (HBy.out wr g (by omega) HT.out.bel) HT.out.rd)
                    have HNx := hid (show qSt B (j + 1) = cV B (qSt B j) (wOf B q) by rw [← hq]; rfl)
                    have HQo := hid (show qOf B j = FD B (qSt B j) (wOf B q) by rw [← hq]; rfl)
                    rw [← HNx.out, ← HQo.out] at HSq
                    have c1 : wr.cell? ⟨gF, 9 + q, none⟩ = some (.int .i64 (wOf B q : Int)) := (dS (HLq.out j) HT.out.fr).2.2.2.1 q _ (by
                      show ((wRd B 4).map _)[q]? = _
                      rw [List.getElem?_map]
                      unfold wRd
                      rw [aJ _ hq4, if_pos hq4]; rfl)
                    have HSe := hid (aDV (HLq.out j) tv (m := j) (qOf B j))
                    rw [show (⟨gRd B 4, tRd B m, sRd B 4, wRd B 4, qRd B j⟩ : FrameV).q.set j (qOf B j) = qRd B (j + 1) from aDc B hjj] at HSe
                    obtain ⟨x, hx⟩ := aE (k := j) (BI B j) hjj
                    have HX := hid (show ((qRd B j).map (Value.int .i64))[j]? = some (.int .i64 x) by rw [List.getElem?_map, hx]; rfl)
                    generalize qOf B j = qv at *
                    generalize wOf B q = K at *
                    clear hx hq HNx HQo
                    go_wp2_with (first | (go_at_call 98; refine (HBand.out _).mono ?_; rintro e w5 ⟨rfl, rfl⟩) | (go_at_call 97; fail))
                    refine HSq.out.mono ?_
                    rintro e w7 ⟨rfl, hR7, hg7⟩
                    have T7 := hid (HT.out.get hwg hgg hR7 hg7)
                    have O7 := hid (fX HO2.out hg7 (fun k hk => by injection hk with hk; omega))
                    have z7 : w7.frozen? ⟨gF, 13 + j, none⟩ = false := frozen_of_row w7 gF _ _ _ T7.out.fr
                    have c7 : w7.cell? ⟨gF, 13 + j, none⟩ = some (.int .i64 x) := (dS (HLq.out j) T7.out.fr).2.2.2.2 j _ HX.out
                    have T8 := hid (T7.out.set hwg hgg (13 + j) _ HSe.out)
                    have O8 := hid (fX O7.out (iH gF (13 + j) (.int .i64 qv)) (fun k hk => by injection hk with hk; omega))
                    clear hR7 hg7 HT HO2 HSq HX HSe
                    go_wp2
                    go_roundw
                    case rel => exact ⟨j + 1, by omega, by go_num, T8.out, O8.out⟩
                    case measure => simp [intOf]; omega
                  · have hj16 : j = 16 := by omega
                    subst hj16
                    have t3 : ¬ (((16 : Nat) : Int) < 16) := by omega
                    have HE := hid (HEn.out g (qSt B 16) wr (HQi.out 16) (HBy.out wr g (by omega) HT.out.bel) HT.out.rd)
                    rw [HEr.out] at HE
                    have HFR := hid (show (⟨gRd B 4, tRd B m, sRd B 4, wRd B 4, qRd B 16⟩ : FrameV) = eQ B by unfold eQ; rw [HCn.out])
                    have HFz := hid (show (Tryz.prog.info? 50).map (·.size) = some bK.size from bX)
                    have Hz1 := hid (show bK.all (·.oneCell') = true by simp [bK, Value.oneCell'])
                    go_wp2_with (go_at_call 99; fail)
                    refine HE.out.mono ?_
                    rintro e w5 ⟨rfl, hg5⟩
                    have F5 := hid ((hg5.block gF (hlt HT.out.fr) (fun e => by injection e with e; omega)).trans HT.out.fr)
                    have S5 := hid ((hg5.block _ (hlt HT.out.rs) (fun e => by injection e with e; omega)).trans HT.out.rs)
                    have E5 := hid (HT.out.bel.grown hg5 (Nat.le_of_lt (hlt HT.out.rs)) (fun k hk => by injection hk with hk; omega))
                    have O5 := hid (fX HO2.out hg5 (fun k hk => by injection hk with hk; omega))
                    rw [HFR.out] at F5
                    have HLr := hid (UN B)
                    have htl : (eQ B).tones.length = m := by rw [← HFR.out]; exact aDh B m
                    have Htl := hid htl
                    have htn : (eQ B).tones = tRd B m := by rw [← HFR.out]
                    have Htn := hid htn
                    have HRa := hid (aD0 (B := B))
                    have HRb := hid (aDU (B := B))
                    have HRc := hid (aD1 (B := B))
                    have HRt := hid (fun W (hr : Row W W.heap.size A' (aW (tRd B m))) => (show Calls Tryz.prog 100 #[.agg (aY (eQ B) tv)] W (MO W (RightF (eQ B))) from by
                      have := YA (eQ B) A' cc W HLr.out (by rw [Htl.out]; omega) (by rw [Htn.out]; exact hr)
                      rw [Htl.out, Htv.out] at this
                      exact this))
                    have hfz : (aY (eQ B) tv).size = 29 := fJ HLr.out tv
                    have Hfz := hid hfz
                    have HFf := hid (show (Tryz.prog.info? 50).map (·.size) = some (aY (eQ B) tv).size by rw [hfz]; exact bX)
                    have Hf1 := hid (show (aY (eQ B) tv).all (·.oneCell') = true from by rw [← Htv.out]; exact lE _ rfl)
                    have HFA := hid (show aY (eQ B) (.slice A' (eQ B).tones.length cc) = aY (eQ B) tv by rw [Htl.out, Htv.out])
                    have HNo := hid (fun (er : Int) W (hb : Below w.heap.size w W) => (show mJ w eR er (.returned (.tuple #[.agg bK, .int .i64 er])) W from ⟨none, 0, rfl, Nat.le_refl _, by omega, .inl rfl, Row.none_ _ _ _, hb⟩))
                    generalize DF B = E at *
                    generalize n7 B = er at *
                    generalize rdF B = RF at *
                    generalize (RightF (eQ B)) = PR at *
                    obtain ⟨fa, hfa⟩ : ∃ fa, aY (eQ B) tv = fa := ⟨_, rfl⟩
                    rw [hfa] at F5 HRt HFf Hf1 HFA Hfz
                    clear hg5 HT HO2 HE HFR htl htn HQi HLq hfz hfa HG HSg HFl HEn HEr HBy HCn
                    by_cases hE0 : E = 0
                    · subst hE0
                      have t7 : ((0 : Int) != 0) = false := rfl
                      go_wp2_with (first | (refine aB rfl 50 (.tmp 5) rfl gF rfl _ fa _ _ F5.out Tryz.underlying50 rfl HFf.out ?_) | (go_at_call 100; fail))
                      have O5' := O5.out
                      rw [← Htv.out] at O5'
                      refine (HRt.out _ (Row.of_own O5')).mono ?_
                      rintro e w6 ⟨bb, rfl, hiff, hb6⟩
                      have F6 := hid (aF F5.out hb6)
                      have S6 := hid (aF S5.out hb6)
                      have E6 := hid (aC E5.out hb6)
                      have HIf := hid hiff
                      have P6 := hid (cS O5' hb6)
                      clear hb6 hiff O5' F5 S5 E5 O5 HRt HRa
                      cases bb
                      · have hq := HRc.out (by trivial) (fun h => by cases HIf.out.2 h)
                        obtain ⟨h1, h2⟩ := hq
                        have H1 := hid h1
                        have H2 := hid h2
                        clear h1 h2 HRb HRc HIf
                        go_wp2_with (refine aA rfl 50 (.tmp 2) (.tmp 96) rfl w.heap.size rfl _ _ bK rfl S6.out HFz.out (by rfl) Hz1.out ?_)
                        refine bodyPost_ret (v := .tuple #[.agg bK, .int .i64 4]) (aU Tryz.results37 _ _ w.heap.size 50 bK (0, 0) _ _ rfl rfl (setRow_heap _ _ _ _ _ _ S6.out) Tryz.underlying50 rfl HFz.out) rfl ?_
                        rw [H1.out, H2.out]
                        exact HNo.out _ _ (aO E6.out _ (Nat.le_refl _) _)
                      · have hq := HRb.out (by trivial) (HIf.out.1 rfl)
                        obtain ⟨h1, h2⟩ := hq
                        have H1 := hid h1
                        have H2 := hid h2
                        clear h1 h2 HRb HRc HIf
                        go_wp2_with (first | (refine aB rfl 50 (.tmp 5) rfl gF rfl _ fa _ _ F6.out Tryz.underlying50 rfl HFf.out ?_) | (refine aA rfl 50 (.tmp 2) (.tmp 97) rfl w.heap.size rfl _ _ fa rfl S6.out HFf.out (by rw [Hfz.out]; rfl) Hf1.out ?_))
                        refine bodyPost_ret (v := .tuple #[.agg fa, .int .i64 0]) (aU Tryz.results37 _ _ w.heap.size 50 fa (0, 0) _ _ rfl rfl (setRow_heap _ _ _ _ _ _ S6.out) Tryz.underlying50 rfl HFf.out) rfl ?_
                        rw [H1.out, H2.out]
                        have P7 := fX P6.out (UT w.heap.size fa) (fun k hk => by injection hk with hk; omega)
                        refine ⟨A', cc, by rw [HFA.out], by rw [Htl.out]; exact sW P6.out, iY P6.out, ?_, by rw [Htn.out]; exact Row.of_own P7, aO E6.out _ (Nat.le_refl _) _⟩
                        rcases VB P6.out with h | ⟨g', h3, h4⟩
                        · exact .inl (List.eq_nil_of_length_eq_zero (by rw [Htl.out]; exact h))
                        · exact .inr ⟨g', h3, by omega⟩
                    · have t7 : (E != 0) = true := by simp [hE0]
                      have hq := HRa.out hE0
                      obtain ⟨h1, h2⟩ := hq
                      have H1 := hid h1
                      have H2 := hid h2
                      clear h1 h2
                      go_wp2_with (refine aA rfl 50 (.tmp 2) (.tmp 91) rfl w.heap.size rfl _ _ bK rfl S5.out HFz.out (by rfl) Hz1.out ?_)
                      refine bodyPost_ret (v := .tuple #[.agg bK, .int .i64 E]) (aU Tryz.results37 _ _ w.heap.size 50 bK (0, 0) _ _ rfl rfl (setRow_heap _ _ _ _ _ _ S5.out) Tryz.underlying50 rfl HFz.out) rfl ?_
                      rw [H1.out, H2.out]
                      exact HNo.out _ _ (aO E5.out _ (Nat.le_refl _) _)
end Go.Proofs.YtnbbfblaipjcmaaGreatDoor
