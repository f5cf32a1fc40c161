/- RdC. Conditions: as each theorem states. -/
import Derived.Deep.RegionLaw
import Derived.Deep.AppendLies
import Derived.Deep.DrawnRows
import Derived.Deep.DeepCutAuto
import Derived.Test.YtnbbfblaipjcmaaGreatDoorPu20
import Derived.Test.YtnbbfblaipjcmaaGreatDoorPu28
namespace Go.Proofs.YtnbbfblaipjcmaaGreatDoor
open Go.Lib (hid)
open Go.RowKit
theorem set_gain {f:FrameV} (h:f.Len) (tv:Value) {m:Nat} (hm:m < 4) (x:Int):(frameA f tv).setIfInBounds m (.int .i64 x)=frameA ⟨f.gains.set m x,f.tones,f.scale,f.width,f.q⟩ tv:=by
 unfold frameA
 rw [List.setIfInBounds_toArray]
 congr 1
 unfold FrameV.cells
 rw [List.set_append_left _ _ (by rw [List.length_map,h.g]; exact hm),List.map_set]
theorem set_tones {f:FrameV} (h:f.Len) (tv tv':Value) (ts:List ToneV):(frameA f tv).setIfInBounds 4 tv'=frameA ⟨f.gains,ts,f.scale,f.width,f.q⟩ tv':=by
 unfold frameA
 rw [List.setIfInBounds_toArray]
 congr 1
 unfold FrameV.cells
 rw [List.set_append_right _ _ (by rw [List.length_map,h.g]; omega),List.length_map,h.g]
 rfl
theorem set_scale {f:FrameV} (h:f.Len) (tv:Value) {m:Nat} (hm:m < 4) (x:Int):(frameA f tv).setIfInBounds (5+m) (.int .i64 x)=frameA ⟨f.gains,f.tones,f.scale.set m x,f.width,f.q⟩ tv:=by
 unfold frameA
 rw [List.setIfInBounds_toArray]
 congr 1
 unfold FrameV.cells
 rw [List.set_append_right _ _ (by rw [List.length_map,h.g]; omega),List.length_map,h.g,show 5+m - 4=m+1 by omega,List.set_cons_succ,List.set_append_left _ _ (by rw [List.length_map,h.s]; exact hm),List.map_set]
theorem set_width {f:FrameV} (h:f.Len) (tv:Value) {m:Nat} (hm:m < 4) (x:Int):(frameA f tv).setIfInBounds (9+m) (.int .i64 x)=frameA ⟨f.gains,f.tones,f.scale,f.width.set m x,f.q⟩ tv:=by
 unfold frameA
 rw [List.setIfInBounds_toArray]
 congr 1
 unfold FrameV.cells
 rw [List.set_append_right _ _ (by rw [List.length_map,h.g]; omega),List.length_map,h.g,show 9+m - 4=(4+m)+1 by omega,List.set_cons_succ,List.set_append_right _ _ (by rw [List.length_map,h.s]; omega),List.length_map,h.s,show 4+m - 4=m by omega,
  List.set_append_left _ _ (by rw [List.length_map,h.w]; exact hm),List.map_set]
theorem set_q {f:FrameV} (h:f.Len) (tv:Value) {m:Nat} (x:Int):(frameA f tv).setIfInBounds (13+m) (.int .i64 x)=frameA ⟨f.gains,f.tones,f.scale,f.width,f.q.set m x⟩ tv:=by
 unfold frameA
 rw [List.setIfInBounds_toArray]
 congr 1
 unfold FrameV.cells
 rw [List.set_append_right _ _ (by rw [List.length_map,h.g]; omega),List.length_map,h.g,show 13+m - 4=(8+m)+1 by omega,List.set_cons_succ,List.set_append_right _ _ (by rw [List.length_map,h.s]; omega),List.length_map,h.s,show 8+m - 4=4+m by omega,
  List.set_append_right _ _ (by rw [List.length_map,h.w]; omega),List.length_map,h.w,show 4+m - 4=m by omega,List.map_set]
theorem gRd_set (B:List Nat) {m:Nat} (hm:m < 4):(gRd B m).set m (getV B (gSt B m) 2:Int)=gRd B (m+1):=upto_set 4 (fun i=>(getV B (gSt B i) 2:Int)) (fun _=>0) hm
theorem sRd_set (B:List Nat) {m:Nat} (hm:m < 4):(sRd B m).set m (sOf B m:Int)=sRd B (m+1):=upto_set 4 (fun i=>(sOf B i:Int)) (fun _=>0) hm
theorem wRd_set (B:List Nat) {m:Nat} (hm:m < 4):(wRd B m).set m (wOf B m:Int)=wRd B (m+1):=upto_set 4 (fun i=>(wOf B i:Int)) (fun _=>0) hm
theorem qRd_set (B:List Nat) {m:Nat} (hm:m < 16):(qRd B m).set m (qOf B m)=qRd B (m+1):=upto_set 16 (fun i=>qOf B i) (fun _=>0) hm
theorem tRd_succ (B:List Nat) (m:Nat):tRd B (m+1)=tRd B m ++ [toneR B m]:=by unfold tRd; rw [List.range_succ]; simp
theorem tRd_len (B:List Nat) (m:Nat):(tRd B m).length=m:=by simp [tRd]
theorem toneCells_snoc (l:List ToneV) (t:ToneV):toneCells (l ++ [t])=toneCells l ++ t.cells:=by simp [toneCells]
open Classical in
noncomputable def rdErr (B:List Nat):Int:=if endR B ≠ 0 then endR B else if RightF (frameR B) then 0 else 4
open Classical in
noncomputable def rdF (B:List Nat):FrameV:=if rdErr B=0 then frameR B else zeroFr
theorem rd_a {B:List Nat} (h:endR B ≠ 0):rdErr B=endR B/\rdF B=zeroFr:=by
 have e:rdErr B=endR B:=if_pos h
 exact ⟨e,if_neg (by rw [e]; exact h)⟩
theorem rd_b {B:List Nat} (h:endR B=0) (hR:RightF (frameR B)):rdErr B=0/\rdF B=frameR B:=by
 have e:rdErr B=0:=(if_neg (by simp [h])).trans (if_pos hR)
 exact ⟨e,if_pos e⟩
theorem rd_c {B:List Nat} (h:endR B=0) (hR:¬ RightF (frameR B)):rdErr B=4/\rdF B=zeroFr:=by
 have e:rdErr B=4:=(if_neg (by simp [h])).trans (if_neg hR)
 exact ⟨e,if_neg (by rw [e]; decide)⟩
structure RdSt (w W:World) (g gF:Nat) (A:Option Addr) (c n:Nat) (s:RdS) (f:FrameV) (tv:Value):Prop where
 rd:RdAt W g A c n s
 fr:W.heap[gF]? = some (.cells (frameA f tv) 50 (0,0))
 rs:W.heap[w.heap.size]? = some (.cells zeroF 50 (0,0))
 bel:Below w.heap.size w W
theorem grown_row' {w:World} (g:Nat) (cs:Array Value):w.grownBy (w.setRow g cs) (some g):=⟨rfl,rfl,rfl,by simp,fun k _ hk=>setRow_other w g k _ (fun e=>hk (by rw [e]))⟩
theorem RdSt.get {w W W':World} {g gF:Nat} {A:Option Addr} {c n:Nat} {s s':RdS} {f:FrameV} {tv:Value} (h:RdSt w W g gF A c n s f tv) (h1:w.heap.size < g) (h2:g < gF) (hR:RdAt W' g A c n s') (hG:W.grownBy W' (some g)):RdSt w W' g gF A c n s' f tv :=
 ⟨hR,(hG.block gF (hlt h.fr) (fun e=>by injection e with e; omega)).trans h.fr,(hG.block _ (hlt h.rs) (fun e=>by injection e with e; omega)).trans h.rs,h.bel.grown hG (Nat.le_of_lt (hlt h.rs)) (fun k hk=>by injection hk with hk; omega)⟩
theorem RdSt.set {w W:World} {g gF:Nat} {A:Option Addr} {c n:Nat} {s:RdS} {f f':FrameV} {tv tv':Value} (h:RdSt w W g gF A c n s f tv) (h1:w.heap.size < g) (h2:g < gF) (j:Nat) (v:Value) (he:(frameA f tv).setIfInBounds j v=frameA f' tv'):RdSt w (W.setCell ⟨gF,j,none⟩ v) g gF A c n s f' tv':=by
 have hG:W.grownBy (W.setCell ⟨gF,j,none⟩ v) (some gF):=grown_cell _ _ _
 refine ⟨(hG.block g (hlt h.rd) (fun e=>by injection e with e; omega)).trans h.rd,?_,(hG.block _ (hlt h.rs) (fun e=>by injection e with e; omega)).trans h.rs,h.bel.grown hG (Nat.le_of_lt (hlt h.rs)) (fun k hk=>by injection hk with hk; omega)⟩
 rw [heap_setCell_same W gF j _ _ _ h.fr,he]
theorem RdSt.other {w W W':World} {g gF:Nat} {A:Option Addr} {c n:Nat} {s:RdS} {f:FrameV} {tv:Value} {row:Option Nat} (h:RdSt w W g gF A c n s f tv) (h1:w.heap.size < g) (h2:g < gF) (hG:W.grownBy W' row) (hr:∀ k,row=some k->gF < k):RdSt w W' g gF A c n s f tv :=
 ⟨(hG.block g (hlt h.rd) (fun e=>by have:=hr _ e.symm; omega)).trans h.rd,(hG.block gF (hlt h.fr) (fun e=>by have:=hr _ e.symm; omega)).trans h.fr,(hG.block _ (hlt h.rs) (fun e=>by have:=hr _ e.symm; omega)).trans h.rs,h.bel.grown hG (Nat.le_of_lt (hlt h.rs)) (fun k hk=>by have:=hr _ hk; omega)⟩
theorem RdSt.cell4 {w W:World} {g gF:Nat} {A:Option Addr} {c n:Nat} {s:RdS} {f:FrameV} {tv:Value} (h:RdSt w W g gF A c n s f tv) (hf:f.Len):W.cell? ⟨gF,4,none⟩=some tv:=(frame_parts hf h.fr).2.1
theorem own_freshR {w:World} {base:Nat} {e:TypeId} {size n c:Nat} {A:Option Addr} {xs:List Value} (h:w.ownsRow base e size (.slice A n c) n xs):n=0\/∃ g,A=some ⟨g,0,none⟩/\base<=g:=by
 rcases h.2 with ⟨_,h0⟩ | ⟨g,cap,cur,hv,hb,_⟩
 ·exact .inl h0
 ·injection hv with h1
  exact .inr ⟨g,h1,hb⟩
theorem grown_b {a b c:World} {row:Option Nat} (h:Below a.heap.size a b) (k:b.grownBy c row):a.grownBy c row :=
 ⟨k.os.trans h.os,k.tape.trans h.tape,k.output.trans h.output,Nat.le_trans h.size k.size,fun i hi hr=>(k.block i (Nat.lt_of_lt_of_le hi h.size) hr).trans (h.block i hi)⟩
theorem own_step {W W':World} {base:Nat} {e:TypeId} {size n:Nat} {v:Value} {xs:List Value} {row:Option Nat} (h:W.ownsRow base e size v n xs) (hG:W.grownBy W' row) (hr:∀ k,row=some k->k < base):W'.ownsRow base e size v n xs :=
 h.kept hG (by
  rcases hv:v.ownBlock with _ | k
  ·exact .inl rfl
  ·right
   have:=own_block_ge h k hv
   intro e
   have:=hr k e.symm
   omega)
attribute [local go_sem ↓] Go.wp_at_zero Go.wp_at_succ
set_option maxRecDepth 100000 in
set_option maxHeartbeats 16000000 in
theorem FRead_gen (B : List Nat) (A : Option Addr) (c : Nat) (w : World) (hn : B.length ≤ 1000000) (hb : ∀ x ∈ B, x < 256) (hr : Row w w.heap.size A (u8s B)) :
    Calls Tryz.prog 37 #[.slice A B.length c] w (FitPost w (rdF B) (rdErr B)) := by
  have HBy := hid (fun W g (hg : w.heap.size ≤ g) (hW : Below w.heap.size w W) => (show RBytesAt W g A B from ⟨hr.later hW, fun hB ad ha => by
    obtain ⟨x, hx⟩ : ∃ x, B[0]? = some x := ⟨_, List.getElem?_eq_getElem (List.length_pos_iff.2 hB)⟩
    obtain ⟨b, off, hA, hbl, _⟩ := hr 0 _ (u8s_get hx)
    rw [hA] at ha
    injection ha with ha
    subst ha
    show b ≠ g
    omega⟩))
  have HG := hid (fun g s k W (hk : k ≤ 57) (hi : InB B s) (hB : RBytesAt W g A B) (hR : RdAt W g A c B.length s) => Get_any B g A c s k W hk hn hb hi hB hR)
  have HSg := hid (fun g s k W (hk : k ≤ 57) (hi : InB B s) (hB : RBytesAt W g A B) (hR : RdAt W g A c B.length s) => RSigned_any B g A c s k W hk hn hb hi hB hR)
  have HFl := hid (fun g s W (hR : RdAt W g A c B.length s) => Fail_any g A c B.length s 4 W hR)
  have HEn := hid (fun g s W (hi : InB B s) (hB : RBytesAt W g A B) (hR : RdAt W g A c B.length s) => End_any B g A c s W hn hb hi hB hR)
  have HRd := hid (bitsRead_any A c B.length)
  have hi0 : InB B ⟨0, 0⟩ := Nat.zero_le _
  have HEr := hid (show (endS B (qSt B 16) (8 * B.length)).er = endR B from rfl)
  have HI0 := hid hi0
  generalize hN : B.length = n at *
  have hrs := heap_alloc_new w (.cells zeroF 50)
  have HRs := hid hrs
  have HB0 := hid (bnew w (.cells zeroF 50))
  have HZ := hid (show zeroF = #[.int .i64 0, .int .i64 0, .int .i64 0, .int .i64 0, .slice none 0 0, .int .i64 0, .int .i64 0, .int .i64 0, .int .i64 0, .int .i64 0, .int .i64 0, .int .i64 0, .int .i64 0, .int .i64 0, .int .i64 0, .int .i64 0, .int .i64 0, .int .i64 0, .int .i64 0, .int .i64 0, .int .i64 0, .int .i64 0, .int .i64 0, .int .i64 0, .int .i64 0, .int .i64 0, .int .i64 0, .int .i64 0, .int .i64 0] from rfl)
  clear hr hb hrs hi0 hN hn
  go_enter Tryz.func37, Tryz.ntmps37
  go_wp2_with (go_at_call 94; fail)
  rw [← HZ.out]
  refine (HRd.out _).mono ?_
  rintro e w1 ⟨rfl, hR, hb1⟩
  obtain ⟨g, hg⟩ : ∃ g, (w.alloc (.cells zeroF 50)).heap.size = g := ⟨_, rfl⟩
  have hwg : w.heap.size < g := by rw [← hg]; simp
  rw [hg] at hR ⊢
  have R1 := hid (hR)
  have S1 := hid (hkeep HRs.out hb1)
  have E1 := hid (bnext HB0.out hb1)
  obtain ⟨gF, hgF⟩ : ∃ gF, w1.heap.size = gF := ⟨_, rfl⟩
  have hgg : g < gF := by rw [← hgF]; exact hlt hR
  obtain ⟨W2, hW2⟩ : ∃ W2, w1.alloc (.cells zeroF 50) = W2 := ⟨_, rfl⟩
  have T2 := hid (show RdSt w W2 g gF A c n ⟨0, 0⟩ zeroFr (.slice none 0 0) from by
    rw [← hW2, ← hgF]
    refine ⟨(heap_alloc_old _ _ (hlt hR)).trans hR, heap_alloc_new _ _, (heap_alloc_old _ _ (hlt S1.out)).trans S1.out, bnext E1.out (bnew w1 _)⟩)
  have HG2 := hid (HG.out g ⟨0, 0⟩ 2 W2 (by omega) HI0.out (HBy.out W2 g (by omega) T2.out.bel) T2.out.rd)
  have HR0 := hid (show rd0 B = if getV B ⟨0, 0⟩ 2 = 1 then getS B ⟨0, 0⟩ 2 else failS (getS B ⟨0, 0⟩ 2) 4 from rfl)
  have HI1 := hid (gSt_in B)
  generalize getV B ⟨0, 0⟩ 2 = v0 at *
  generalize getS B ⟨0, 0⟩ 2 = s0 at *
  clear hR hb1 HRs HB0 R1 S1 E1 HRd hg
  go_upto_if 14 with (go_at_call 95; (try rw [← HZ.out]); (try rw [hW2]); refine HG2.out.mono ?_; rintro e w3 ⟨rfl, hR3, hg3⟩)
  have T3 := hid (T2.out.get hwg hgg hR3 hg3)
  clear hR3 hg3 T2 HG2
  go_cut [] (fun wc => RdSt w wc g gF A c n (rd0 B) zeroFr (.slice none 0 0))
  case first =>
    by_cases hv : v0 = 1
    · have t1 : ((v0 : Int) != 1) = false := by subst hv; rfl
      have HR1 := hid (show rd0 B = s0 by rw [HR0.out, if_pos hv])
      clear hv
      go_wp2
      go_meet
      case rel => rw [HR1.out]; exact T3.out
    · have t1 : ((v0 : Int) != 1) = true := by simp; omega
      have HR1 := hid (show rd0 B = failS s0 4 by rw [HR0.out, if_neg hv])
      have HF3 := hid (HFl.out g s0 w3 T3.out.rd)
      clear hv
      go_wp2_with (go_at_call 96; fail)
      refine HF3.out.mono ?_
      rintro e w4 ⟨rfl, hR4, hg4⟩
      have T4 := hid (T3.out.get hwg hgg hR4 hg4)
      clear hR4 hg4
      go_wp2
      go_meet
      case rel => rw [HR1.out]; exact T4.out
  case rest =>
    have T4 := hid hcut
    clear hcut T3
    have HLz := hid (show ∀ m, FrameV.Len ⟨gRd B m, [], zero4, zero4, zero16⟩ from fun m => ⟨gRd_len B m, rfl, rfl, rfl⟩)
    go_wp2_with fail
    go_loopw [17] (fun i wr => ∃ m : Nat, m ≤ 4 ∧ i = .int .i64 m ∧ RdSt w wr g gF A c n (gSt B m) ⟨gRd B m, [], zero4, zero4, zero16⟩ (.slice none 0 0)) (fun i _ => 4 - (intOf i).toNat)
    case atStart => exact ⟨0, by omega, rfl, T4.out⟩
    case round =>
      obtain ⟨m, hm, rfl, hT⟩ := hrel
      have HT := hid hT
      clear hT T4
      by_cases hlk : m < 4
      · have t1 : (m : Int) < 4 := by omega
        have t2 : (0 : Int) ≤ (m : Int) := by omega
        have hGm := HG.out g (gSt B m) 2 wr (by omega) (HI1.out m) (HBy.out wr g (by omega) HT.out.bel) HT.out.rd
        have hV := getV_lt B (gSt B m) 2
        have HS := hid (gRd_set B hlk)
        have HSe := hid (set_gain (HLz.out m) (.slice none 0 0) hlk (getV B (gSt B m) 2 : Int))
        rw [show (⟨gRd B m, [], zero4, zero4, zero16⟩ : FrameV).gains.set m (getV B (gSt B m) 2 : Int) = gRd B (m + 1) from HS.out] at HSe
        have HNx := hid (show gSt B (m + 1) = getS B (gSt B m) 2 from rfl)
        rw [← HNx.out] at hGm
        generalize getV B (gSt B m) 2 = V at *
        have hwr : IntKind.i64.wrap (V : Int) = (V : Int) := IntWalk.i64_in _ (by omega)
        have HGm := hid hGm
        clear hGm HS
        go_wp2_with (go_at_call 95; fail)
        refine HGm.out.mono ?_
        rintro e w5 ⟨rfl, hR5, hg5⟩
        have T5 := hid (HT.out.get hwg hgg hR5 hg5)
        have z5 : w5.frozen? ⟨gF, m, none⟩ = false := frozen_of_row w5 gF m _ _ T5.out.fr
        obtain ⟨x, hx⟩ := list_get (k := m) (gRd_len B m) hlk
        have c5 : w5.cell? ⟨gF, m, none⟩ = some (.int .i64 x) := by
          have := (frame_parts (HLz.out m) T5.out.fr).1 m (.int .i64 x) (by rw [List.getElem?_map, hx]; rfl)
          rwa [Nat.zero_add] at this
        clear hR5 hg5 HT HGm hx
        go_wp2
        go_roundw
        case rel => exact ⟨m + 1, by omega, by go_num, T5.out.set hwg hgg m _ HSe.out⟩
        case measure => simp [intOf]; omega
      · have hm4 : m = 4 := by omega
        subst hm4
        have t1 : ¬ (((4 : Nat) : Int) < 4) := by omega
        have hGm := HG.out g (gSt B 4) 2 wr (by omega) (HI1.out 4) (HBy.out wr g (by omega) HT.out.bel) HT.out.rd
        have HGm := hid hGm
        go_wp2_with (go_at_call 95; fail)
        refine HGm.out.mono ?_
        rintro e w5 ⟨rfl, hR5, hg5⟩
        have T5 := hid (HT.out.get hwg hgg hR5 hg5)
        have hV := getV_lt B (gSt B 4) 2
        have HN0 := hid (show tSt B 0 = getS B (gSt B 4) 2 from rfl)
        obtain ⟨N, hN⟩ : ∃ N, getV B (gSt B 4) 2 = N := ⟨_, rfl⟩
        have HCn := hid (show cntR B = N from hN)
        rw [hN] at hV
        have hN4 : N < 4 := hV
        rw [hN]
        have T6 := hid (HN0.out ▸ T5.out)
        have HTi := hid (tSt_in B)
        have HLt := hid (show ∀ m, FrameV.Len ⟨gRd B 4, tRd B m, zero4, zero4, zero16⟩ from fun m => ⟨gRd_len B 4, rfl, rfl, rfl⟩)
        clear hR5 hg5 HT HGm hGm hN T5 hV HN0
        go_wp2_with fail
        go_loopw [29] (fun i wr => ∃ (m : Nat) (A' : Option Addr) (cc : Nat), m ≤ N ∧ i = .int .u64 m ∧ RdSt w wr g gF A c n (tSt B m) ⟨gRd B 4, tRd B m, zero4, zero4, zero16⟩ (.slice A' m cc) ∧ wr.ownsRow (gF + 1) 169 2 (.slice A' m cc) m (toneCells (tRd B m))) (fun i _ => N - (intOf i).toNat)
        case atStart => exact ⟨0, none, 0, by omega, rfl, T6.out, World.ownsRow_nil _ _ _ _⟩
        case round =>
          obtain ⟨m, A', cc, hm, rfl, hT, hown⟩ := hrel
          have HT := hid (hT.other hwg hgg (row := none) (grown_of (Below.refl wr.heap.size wr).drew) (fun k hk => by cases hk))
          have HO := hid (own_step hown (grown_of (Below.refl wr.heap.size wr).drew) (fun k hk => by cases hk) (row := none))
          have HT0 := hid hT
          have HO0 := hid hown
          clear hT hown T6
          by_cases hlk : m < N
          · have t1 : (m : Int) < (N : Int) := by omega
            have hV1 := getV_lt B (tSt B m) 4
            have HV1 := hid (show IntKind.i64.wrap ((getV B (tSt B m) 4 : Nat) : Int) = ((getV B (tSt B m) 4 : Nat) : Int) from IntWalk.i64_in _ (by omega))
            have hw1 := HV1.out
            have HG1 := hid (HG.out g (tSt B m) 4 wr.drew (by omega) (HTi.out m) (HBy.out _ g (by omega) HT.out.bel) HT.out.rd)
            have HTn := hid (show tSt B (m + 1) = getS B (getS B (tSt B m) 4) 24 from rfl)
            have HTo := hid (show toneR B m = ⟨getV B (tSt B m) 4, sgnV B (getS B (tSt B m) 4) 24⟩ from rfl)
            have HI2 := hid (getS_in (HTi.out m) 4)
            have HSn := hid (show toneCells (tRd B (m + 1)) = toneCells (tRd B m) ++ (toneR B m).cells by rw [tRd_succ, toneCells_snoc])
            have HSe := hid (fun tv tv' => (show (frameA ⟨gRd B 4, tRd B m, zero4, zero4, zero16⟩ tv).setIfInBounds 4 tv' = frameA ⟨gRd B 4, tRd B (m + 1), zero4, zero4, zero16⟩ tv' from set_tones (HLt.out m) tv tv' (tRd B (m + 1))))
            have HSg2 := hid (fun W (hT : RdSt w W g gF A c n (getS B (tSt B m) 4) ⟨gRd B 4, tRd B m, zero4, zero4, zero16⟩ (.slice A' m cc)) => HSg.out g (getS B (tSt B m) 4) 24 W (by omega) HI2.out (HBy.out W g (by omega) hT.bel) hT.rd)
            have HLm := hid (HLt.out m)
            rw [HTo.out] at HSn
            rw [← HTn.out] at HSg2
            generalize getV B (tSt B m) 4 = V1 at *
            generalize getS B (tSt B m) 4 = s1 at *
            generalize sgnV B s1 24 = V2 at *
            obtain ⟨iT, hiT, hzT0, hzT1, hzT2⟩ : ∃ i, Tryz.prog.info? 169 = some i ∧ i.zero = some (.agg #[.int .i64 0, .int .i64 0]) ∧ i.size = 2 ∧ i.bytes = 16 := by
              have : (Tryz.prog.info? 169).map (fun i => (i.zero, i.size, i.bytes)) = some (some (.agg #[.int .i64 0, .int .i64 0]), 2, 16) := by kernel_rfl
              cases h : Tryz.prog.info? 169 with
              | none => rw [h] at this; cases this
              | some i =>
                rw [h] at this
                simp only [Option.map_some, Option.some.injEq, Prod.mk.injEq] at this
                exact ⟨i, rfl, this.1, this.2.1, this.2.2⟩
            clear hV1 HTn HTo
            go_wp2_with fail
            have c40 := HT0.out.cell4 HLm.out
            go_region_law (first | (go_simp; go_at_call 95; refine HG1.out.mono ?_; rintro e w5 ⟨rfl, hR5, hg5⟩; have T5 := hid (HT.out.get hwg hgg hR5 hg5); have c45 := T5.out.cell4 HLm.out; have O5 := hid (own_step HO.out hg5 (fun k hk => by injection hk with hk; omega))) | (go_simp; go_at_call 97; refine (HSg2.out _ T5.out).mono ?_; rintro e w6 ⟨rfl, hR6, hg6⟩; have T6 := hid (T5.out.get hwg hgg hR6 hg6); have c46 := T6.out.cell4 HLm.out; have d46 := fun O => cell_alloc c46 O; have O6 := hid (own_step O5.out hg6 (fun k hk => by injection hk with hk; omega))) | (refine step_append_lies _ (by rfl) _ _ _ (by rfl) (gF + 1) 169 iT (.agg #[.int .i64 0, .int .i64 0]) 2 16 Tryz.underlying46 hiT hzT0 hzT1 hzT2 rfl (by omega) (.slice A' m cc) m (toneCells (tRd B m)) (by rfl) (O6.out.alloc _) ⟨w6.heap.size, 0, none⟩ 1 1 [.int .i64 V1, .int .i64 V2] (by rfl) rfl (World.news_of_block (heap_alloc_new w6 _)) (fun u hu => by simp at hu; rcases hu with rfl | rfl <;> rfl) (by omega) (by unfold maxLen; omega) (by omega) (by have := hlt T6.out.fr; simp; omega) (w6.heap.size + 1) (by simp) ?_; intro gg cap w7 hown7 hgrow7 hat7 hlt7; have T7 := hid (T6.out.other hwg hgg (grown_b (bnew w6 _) hgrow7) (fun k hk => own_block_ge O6.out k hk)); have c7 := T7.out.cell4 HLm.out; have z7 := frozen_of_row w7 gF 4 _ _ T7.out.fr))
            all_goals
             have O7 := hid (own_step hown7 (grown_cell gF 4 (.slice (some ⟨gg, 0, none⟩) (m + 1) cap)) (fun k hk => by injection hk with hk; omega))
             have T8 := hid (T7.out.set hwg hgg 4 (.slice (some ⟨gg, 0, none⟩) (m + 1) cap) (HSe.out _ _))
             go_wp2
             go_roundw
             case rel => exact ⟨m + 1, some ⟨gg, 0, none⟩, cap, by omega, by go_num, T8.out, by rw [HSn.out]; exact O7.out⟩
             case measure => simp [intOf]; omega
          · have hmN : m = N := by omega
            have t1 : ¬ ((m : Int) < (N : Int)) := by omega
            subst hmN
            obtain ⟨tv, htv⟩ : ∃ tv, Value.slice A' m cc = tv := ⟨_, rfl⟩
            rw [htv] at HT0 HO0
            have Htv := hid htv
            have HLb := hid (show ∀ k, FrameV.Len ⟨gRd B 4, tRd B m, sRd B k, wRd B k, zero16⟩ from fun k => ⟨gRd_len B 4, sRd_len B k, wRd_len B k, rfl⟩)
            have HLb2 := hid (show ∀ k, FrameV.Len ⟨gRd B 4, tRd B m, sRd B (k + 1), wRd B k, zero16⟩ from fun k => ⟨gRd_len B 4, sRd_len B _, wRd_len B k, rfl⟩)
            have HBi := hid (bSt_in B)
            have TB := hid (show RdSt w wr g gF A c n (bSt B 0) ⟨gRd B 4, tRd B m, sRd B 0, wRd B 0, zero16⟩ tv from by
              rw [show bSt B 0 = tSt B m from by show tSt B (cntR B) = _; rw [HCn.out]]
              exact HT0.out)
            clear HT HO HT0 htv HLt HTi
            go_wp2_with fail
            go_loopw [43] (fun i wr => ∃ k : Nat, k ≤ 4 ∧ i = .int .i64 k ∧ RdSt w wr g gF A c n (bSt B k) ⟨gRd B 4, tRd B m, sRd B k, wRd B k, zero16⟩ tv ∧ wr.ownsRow (gF + 1) 169 2 tv m (toneCells (tRd B m))) (fun i _ => 4 - (intOf i).toNat)
            case atStart => exact ⟨0, by omega, rfl, TB.out, HO0.out⟩
            case round =>
              obtain ⟨k, hk, rfl, hT, hown⟩ := hrel
              have HT := hid hT
              have HO := hid hown
              clear hT hown TB HO0
              by_cases hkk : k < 4
              · have t1 : (k : Int) < 4 := by omega
                have t2 : (0 : Int) ≤ (k : Int) := by omega
                have HG1 := hid (HG.out g (bSt B k) 5 wr (by omega) (HBi.out k) (HBy.out wr g (by omega) HT.out.bel) HT.out.rd)
                have HG2 := hid (fun W (hT : RdSt w W g gF A c n (getS B (bSt B k) 5) ⟨gRd B 4, tRd B m, sRd B (k + 1), wRd B k, zero16⟩ tv) => HG.out g (getS B (bSt B k) 5) 5 W (by omega) (getS_in (HBi.out k) 5) (HBy.out W g (by omega) hT.bel) hT.rd)
                have hv1 : getV B (bSt B k) 5 < 32 := getV_lt B (bSt B k) 5
                have hv2 : getV B (getS B (bSt B k) 5) 5 < 32 := getV_lt B _ 5
                have HNx := hid (show bSt B (k + 1) = if 23 < getV B (bSt B k) 5 ∨ 24 < getV B (getS B (bSt B k) 5) 5 then failS (getS B (getS B (bSt B k) 5) 5) 4 else getS B (getS B (bSt B k) 5) 5 from rfl)
                have HSe1 := hid (set_scale (HLb.out k) tv hkk (getV B (bSt B k) 5 : Int))
                rw [show (⟨gRd B 4, tRd B m, sRd B k, wRd B k, zero16⟩ : FrameV).scale.set k (getV B (bSt B k) 5 : Int) = sRd B (k + 1) from sRd_set B hkk] at HSe1
                have HSe2 := hid (set_width (HLb2.out k) tv hkk (getV B (getS B (bSt B k) 5) 5 : Int))
                rw [show (⟨gRd B 4, tRd B m, sRd B (k + 1), wRd B k, zero16⟩ : FrameV).width.set k (getV B (getS B (bSt B k) 5) 5 : Int) = wRd B (k + 1) from wRd_set B hkk] at HSe2
                have HSg1 := hid (show (sRd B (k + 1))[k]? = some (getV B (bSt B k) 5 : Int) from by
                  unfold sRd
                  rw [range_map_get _ hkk, if_pos (by omega)]; rfl)
                have HWg1 := hid (show (wRd B (k + 1))[k]? = some (getV B (getS B (bSt B k) 5) 5 : Int) from by
                  unfold wRd
                  rw [range_map_get _ hkk, if_pos (by omega)]; rfl)
                generalize getV B (getS B (bSt B k) 5) 5 = V2 at *
                generalize getV B (bSt B k) 5 = V1 at *
                have hw1 : IntKind.i64.wrap (V1 : Int) = (V1 : Int) := IntWalk.i64_in _ (by omega)
                have hw2 : IntKind.i64.wrap (V2 : Int) = (V2 : Int) := IntWalk.i64_in _ (by omega)
                generalize getS B (getS B (bSt B k) 5) 5 = s2 at *
                generalize getS B (bSt B k) 5 = s1 at *
                obtain ⟨x1, hx1⟩ := list_get (k := k) (sRd_len B k) hkk
                obtain ⟨x2, hx2⟩ := list_get (k := k) (wRd_len B k) hkk
                have HX1 := hid (show ((sRd B k).map (Value.int .i64))[k]? = some (.int .i64 x1) by rw [List.getElem?_map, hx1]; rfl)
                have HX2 := hid (show ((wRd B k).map (Value.int .i64))[k]? = some (.int .i64 x2) by rw [List.getElem?_map, hx2]; rfl)
                clear hx1 hx2
                go_wp2_with (go_at_call 95; fail)
                refine HG1.out.mono ?_
                rintro e w5 ⟨rfl, hR5, hg5⟩
                have T5 := hid (HT.out.get hwg hgg hR5 hg5)
                have O5 := hid (own_step HO.out hg5 (fun k hk => by injection hk with hk; omega))
                have z5 : w5.frozen? ⟨gF, 5 + k, none⟩ = false := frozen_of_row w5 gF _ _ _ T5.out.fr
                have c5 : w5.cell? ⟨gF, 5 + k, none⟩ = some (.int .i64 x1) := (frame_parts (HLb.out k) T5.out.fr).2.2.1 k _ HX1.out
                have T6 := hid (T5.out.set hwg hgg (5 + k) _ HSe1.out)
                have O6 := hid (own_step O5.out (grown_cell gF (5 + k) (.int .i64 (V1 : Int))) (fun k hk => by injection hk with hk; omega))
                have HG3 := hid (HG2.out _ T6.out)
                clear hR5 hg5 HT HO HG1 HG2 HX1 HSe1
                go_wp2_with (go_at_call 95; fail)
                refine HG3.out.mono ?_
                rintro e w7 ⟨rfl, hR7, hg7⟩
                have T7 := hid (T6.out.get hwg hgg hR7 hg7)
                have O7 := hid (own_step O6.out hg7 (fun k hk => by injection hk with hk; omega))
                have z7 : w7.frozen? ⟨gF, 9 + k, none⟩ = false := frozen_of_row w7 gF _ _ _ T7.out.fr
                have c7 : w7.cell? ⟨gF, 9 + k, none⟩ = some (.int .i64 x2) := (frame_parts (HLb2.out k) T7.out.fr).2.2.2.1 k _ HX2.out
                have T8 := hid (T7.out.set hwg hgg (9 + k) _ HSe2.out)
                have O8 := hid (own_step O7.out (grown_cell gF (9 + k) (.int .i64 (V2 : Int))) (fun k hk => by injection hk with hk; omega))
                obtain ⟨W8, hW8⟩ : ∃ W8, w7.setCell ⟨gF, 9 + k, none⟩ (.int .i64 (V2 : Int)) = W8 := ⟨_, rfl⟩
                rw [hW8] at T8 O8
                have d1 : W8.cell? ⟨gF, 5 + k, none⟩ = some (.int .i64 (V1 : Int)) := (frame_parts (HLb.out (k + 1)) T8.out.fr).2.2.1 k _ (by show ((sRd B (k + 1)).map _)[k]? = _; rw [List.getElem?_map, HSg1.out]; rfl)
                have d2 : W8.cell? ⟨gF, 9 + k, none⟩ = some (.int .i64 (V2 : Int)) := (frame_parts (HLb.out (k + 1)) T8.out.fr).2.2.2.1 k _ (by show ((wRd B (k + 1)).map _)[k]? = _; rw [List.getElem?_map, HWg1.out]; rfl)
                clear hR7 hg7 T5 O5 T6 O6 HG3 HX2 HSe2 HSg1 HWg1 c5 z5 T7 O7
                have hcs : (decide (23 < (V1 : Int)) = true ∧ bSt B (k + 1) = failS s2 4) ∨ (decide (23 < (V1 : Int)) = false ∧ decide (24 < (V2 : Int)) = true ∧ bSt B (k + 1) = failS s2 4) ∨ (decide (23 < (V1 : Int)) = false ∧ decide (24 < (V2 : Int)) = false ∧ bSt B (k + 1) = s2) := by
                  rw [HNx.out]
                  by_cases h1 : 23 < V1
                  · exact .inl ⟨decide_eq_true (by omega), if_pos (.inl h1)⟩
                  · by_cases h2 : 24 < V2
                    · exact .inr (.inl ⟨decide_eq_false (by omega), decide_eq_true (by omega), if_pos (.inr h2)⟩)
                    · exact .inr (.inr ⟨decide_eq_false (by omega), decide_eq_false (by omega), if_neg (by omega)⟩)
                have HF8 := hid (HFl.out g s2 W8 T8.out.rd)
                clear HNx
                rcases hcs with ⟨e1, hE⟩ | ⟨e1, e2, hE⟩ | ⟨e1, e2, hE⟩
                case inr.inr =>
                  have HE := hid hE
                  clear hE
                  go_wp2_with (rw [hW8])
                  go_roundw
                  case rel => exact ⟨k + 1, by omega, by go_num, by rw [HE.out]; exact T8.out, O8.out⟩
                  case measure => simp [intOf]; omega
                all_goals
                  have HE := hid hE
                  clear hE
                  go_wp2_with (first | rw [hW8] | (go_at_call 96; fail))
                  refine HF8.out.mono ?_
                  rintro e w9 ⟨rfl, hR9, hg9⟩
                  have T9 := hid (T8.out.get hwg hgg hR9 hg9)
                  have O9 := hid (own_step O8.out hg9 (fun k hk => by injection hk with hk; omega))
                  clear hR9 hg9
                  go_wp2
                  go_roundw
                  case rel => exact ⟨k + 1, by omega, by go_num, by rw [HE.out]; exact T9.out, O9.out⟩
                  case measure => simp [intOf]; omega
              · have hk4 : k = 4 := by omega
                subst hk4
                have t1 : ¬ (((4 : Nat) : Int) < 4) := by omega
                have HQi := hid (qSt_in B)
                have HLq := hid (show ∀ j, FrameV.Len ⟨gRd B 4, tRd B m, sRd B 4, wRd B 4, qRd B j⟩ from fun j => ⟨gRd_len B 4, sRd_len B 4, wRd_len B 4, qRd_len B j⟩)
                have TQ := hid (show RdSt w wr g gF A c n (qSt B 0) ⟨gRd B 4, tRd B m, sRd B 4, wRd B 4, qRd B 0⟩ tv from HT.out)
                clear HT HLb HLb2 HBi
                go_wp2_with fail
                go_loopw [73] (fun i wr => ∃ j : Nat, j ≤ 16 ∧ i = .int .i64 j ∧ RdSt w wr g gF A c n (qSt B j) ⟨gRd B 4, tRd B m, sRd B 4, wRd B 4, qRd B j⟩ tv ∧ wr.ownsRow (gF + 1) 169 2 tv m (toneCells (tRd B m))) (fun i _ => 16 - (intOf i).toNat)
                case atStart => exact ⟨0, by omega, rfl, TQ.out, HO.out⟩
                case round =>
                  obtain ⟨j, hj, rfl, hT, hown⟩ := hrel
                  have HT := hid hT
                  have HO2 := hid hown
                  clear hT hown TQ HO
                  by_cases hjj : j < 16
                  · have t3 : (j : Int) < 16 := by omega
                    have t4 : (0 : Int) ≤ (j : Int) := by omega
                    obtain ⟨q, hq⟩ : ∃ q, j / 4 = q := ⟨_, rfl⟩
                    have hq4 : q < 4 := by omega
                    have t5 : (q : Int) < 4 := by omega
                    have t6 : (0 : Int) ≤ (q : Int) := by omega
                    have HBand := hid (show ∀ W, Calls Tryz.prog 98 #[.int .i64 j] W fun e w' => e = .returned (.int .i64 (q : Int)) ∧ W = w' from fun W => (Band_any j W hjj).mono fun e w' ⟨he, hw⟩ => ⟨he.trans (ret_int (by omega)), hw⟩)
                    have hwb : wOf B q < 32 := getV_lt B _ 5
                    have HSq := hid (HSg.out g (qSt B j) (wOf B q) wr (by omega) (HQi.out j) (HBy.out wr g (by omega) HT.out.bel) HT.out.rd)
                    have HNx := hid (show qSt B (j + 1) = getS B (qSt B j) (wOf B q) by rw [← hq]; rfl)
                    have HQo := hid (show qOf B j = sgnV B (qSt B j) (wOf B q) by rw [← hq]; rfl)
                    rw [← HNx.out, ← HQo.out] at HSq
                    have c1 : wr.cell? ⟨gF, 9 + q, none⟩ = some (.int .i64 (wOf B q : Int)) := (frame_parts (HLq.out j) HT.out.fr).2.2.2.1 q _ (by
                      show ((wRd B 4).map _)[q]? = _
                      rw [List.getElem?_map]
                      unfold wRd
                      rw [range_map_get _ hq4, if_pos hq4]; rfl)
                    have HSe := hid (set_q (HLq.out j) tv (m := j) (qOf B j))
                    rw [show (⟨gRd B 4, tRd B m, sRd B 4, wRd B 4, qRd B j⟩ : FrameV).q.set j (qOf B j) = qRd B (j + 1) from qRd_set B hjj] at HSe
                    obtain ⟨x, hx⟩ := list_get (k := j) (qRd_len B j) hjj
                    have HX := hid (show ((qRd B j).map (Value.int .i64))[j]? = some (.int .i64 x) by rw [List.getElem?_map, hx]; rfl)
                    generalize qOf B j = qv at *
                    generalize wOf B q = K at *
                    clear hx hq HNx HQo
                    go_wp2_with (first | (go_at_call 98; refine (HBand.out _).mono ?_; rintro e w5 ⟨rfl, rfl⟩) | (go_at_call 97; fail))
                    refine HSq.out.mono ?_
                    rintro e w7 ⟨rfl, hR7, hg7⟩
                    have T7 := hid (HT.out.get hwg hgg hR7 hg7)
                    have O7 := hid (own_step HO2.out hg7 (fun k hk => by injection hk with hk; omega))
                    have z7 : w7.frozen? ⟨gF, 13 + j, none⟩ = false := frozen_of_row w7 gF _ _ _ T7.out.fr
                    have c7 : w7.cell? ⟨gF, 13 + j, none⟩ = some (.int .i64 x) := (frame_parts (HLq.out j) T7.out.fr).2.2.2.2 j _ HX.out
                    have T8 := hid (T7.out.set hwg hgg (13 + j) _ HSe.out)
                    have O8 := hid (own_step O7.out (grown_cell gF (13 + j) (.int .i64 qv)) (fun k hk => by injection hk with hk; omega))
                    clear hR7 hg7 HT HO2 HSq HX HSe
                    go_wp2
                    go_roundw
                    case rel => exact ⟨j + 1, by omega, by go_num, T8.out, O8.out⟩
                    case measure => simp [intOf]; omega
                  · have hj16 : j = 16 := by omega
                    subst hj16
                    have t3 : ¬ (((16 : Nat) : Int) < 16) := by omega
                    have HE := hid (HEn.out g (qSt B 16) wr (HQi.out 16) (HBy.out wr g (by omega) HT.out.bel) HT.out.rd)
                    rw [HEr.out] at HE
                    have HFR := hid (show (⟨gRd B 4, tRd B m, sRd B 4, wRd B 4, qRd B 16⟩ : FrameV) = frameR B by unfold frameR; rw [HCn.out])
                    have HFz := hid (show (Tryz.prog.info? 50).map (·.size) = some zeroF.size from inf_frame)
                    have Hz1 := hid (show zeroF.all (·.oneCell') = true by simp [zeroF, Value.oneCell'])
                    go_wp2_with (go_at_call 99; fail)
                    refine HE.out.mono ?_
                    rintro e w5 ⟨rfl, hg5⟩
                    have F5 := hid ((hg5.block gF (hlt HT.out.fr) (fun e => by injection e with e; omega)).trans HT.out.fr)
                    have S5 := hid ((hg5.block _ (hlt HT.out.rs) (fun e => by injection e with e; omega)).trans HT.out.rs)
                    have E5 := hid (HT.out.bel.grown hg5 (Nat.le_of_lt (hlt HT.out.rs)) (fun k hk => by injection hk with hk; omega))
                    have O5 := hid (own_step HO2.out hg5 (fun k hk => by injection hk with hk; omega))
                    rw [HFR.out] at F5
                    have HLr := hid (frameR_len B)
                    have htl : (frameR B).tones.length = m := by rw [← HFR.out]; exact tRd_len B m
                    have Htl := hid htl
                    have htn : (frameR B).tones = tRd B m := by rw [← HFR.out]
                    have Htn := hid htn
                    have HRa := hid (rd_a (B := B))
                    have HRb := hid (rd_b (B := B))
                    have HRc := hid (rd_c (B := B))
                    have HRt := hid (fun W (hr : Row W W.heap.size A' (toneCells (tRd B m))) => (show Calls Tryz.prog 100 #[.agg (frameA (frameR B) tv)] W (BoolPost W (RightF (frameR B))) from by
                      have := Right_any (frameR B) A' cc W HLr.out (by rw [Htl.out]; omega) (by rw [Htn.out]; exact hr)
                      rw [Htl.out, Htv.out] at this
                      exact this))
                    have hfz : (frameA (frameR B) tv).size = 29 := frameA_size HLr.out tv
                    have Hfz := hid hfz
                    have HFf := hid (show (Tryz.prog.info? 50).map (·.size) = some (frameA (frameR B) tv).size by rw [hfz]; exact inf_frame)
                    have Hf1 := hid (show (frameA (frameR B) tv).all (·.oneCell') = true from by rw [← Htv.out]; exact frameA_one _ rfl)
                    have HFA := hid (show frameA (frameR B) (.slice A' (frameR B).tones.length cc) = frameA (frameR B) tv by rw [Htl.out, Htv.out])
                    have HNo := hid (fun (er : Int) W (hb : Below w.heap.size w W) => (show FitPost w zeroFr er (.returned (.tuple #[.agg zeroF, .int .i64 er])) W from ⟨none, 0, rfl, Nat.le_refl _, by omega, .inl rfl, Row.none_ _ _ _, hb⟩))
                    generalize endR B = E at *
                    generalize rdErr B = er at *
                    generalize rdF B = RF at *
                    generalize (RightF (frameR B)) = PR at *
                    obtain ⟨fa, hfa⟩ : ∃ fa, frameA (frameR B) tv = fa := ⟨_, rfl⟩
                    rw [hfa] at F5 HRt HFf Hf1 HFA Hfz
                    clear hg5 HT HO2 HE HFR htl htn HQi HLq hfz hfa HG HSg HFl HEn HEr HBy HCn
                    by_cases hE0 : E = 0
                    · subst hE0
                      have t7 : ((0 : Int) != 0) = false := rfl
                      go_wp2_with (first | (refine wpList_load_row_w rfl 50 (.tmp 5) rfl gF rfl _ fa _ _ F5.out Tryz.underlying50 rfl HFf.out ?_) | (go_at_call 100; fail))
                      have O5' := O5.out
                      rw [← Htv.out] at O5'
                      refine (HRt.out _ (Row.of_own O5')).mono ?_
                      rintro e w6 ⟨bb, rfl, hiff, hb6⟩
                      have F6 := hid (hkeep F5.out hb6)
                      have S6 := hid (hkeep S5.out hb6)
                      have E6 := hid (bnext E5.out hb6)
                      have HIf := hid hiff
                      have P6 := hid (own_below O5' hb6)
                      clear hb6 hiff O5' F5 S5 E5 O5 HRt HRa
                      cases bb
                      · have hq := HRc.out (by trivial) (fun h => by cases HIf.out.2 h)
                        obtain ⟨h1, h2⟩ := hq
                        have H1 := hid h1
                        have H2 := hid h2
                        clear h1 h2 HRb HRc HIf
                        go_wp2_with (refine wpList_store_row_w rfl 50 (.tmp 2) (.tmp 96) rfl w.heap.size rfl _ _ zeroF rfl S6.out HFz.out (by rfl) Hz1.out ?_)
                        refine bodyPost_ret (v := .tuple #[.agg zeroF, .int .i64 4]) (results_cell_tmp Tryz.results37 _ _ w.heap.size 50 zeroF (0, 0) _ _ rfl rfl (setRow_heap _ _ _ _ _ _ S6.out) Tryz.underlying50 rfl HFz.out) rfl ?_
                        rw [H1.out, H2.out]
                        exact HNo.out _ _ (setRow_below E6.out _ (Nat.le_refl _) _)
                      · have hq := HRb.out (by trivial) (HIf.out.1 rfl)
                        obtain ⟨h1, h2⟩ := hq
                        have H1 := hid h1
                        have H2 := hid h2
                        clear h1 h2 HRb HRc HIf
                        go_wp2_with (first | (refine wpList_load_row_w rfl 50 (.tmp 5) rfl gF rfl _ fa _ _ F6.out Tryz.underlying50 rfl HFf.out ?_) | (refine wpList_store_row_w rfl 50 (.tmp 2) (.tmp 97) rfl w.heap.size rfl _ _ fa rfl S6.out HFf.out (by rw [Hfz.out]; rfl) Hf1.out ?_))
                        refine bodyPost_ret (v := .tuple #[.agg fa, .int .i64 0]) (results_cell_tmp Tryz.results37 _ _ w.heap.size 50 fa (0, 0) _ _ rfl rfl (setRow_heap _ _ _ _ _ _ S6.out) Tryz.underlying50 rfl HFf.out) rfl ?_
                        rw [H1.out, H2.out]
                        have P7 := own_step P6.out (grown_row' w.heap.size fa) (fun k hk => by injection hk with hk; omega)
                        refine ⟨A', cc, by rw [HFA.out], by rw [Htl.out]; exact own_len P6.out, own_cap P6.out, ?_, by rw [Htn.out]; exact Row.of_own P7, setRow_below E6.out _ (Nat.le_refl _) _⟩
                        rcases own_freshR P6.out with h | ⟨g', h3, h4⟩
                        · exact .inl (List.eq_nil_of_length_eq_zero (by rw [Htl.out]; exact h))
                        · exact .inr ⟨g', h3, by omega⟩
                    · have t7 : (E != 0) = true := by simp [hE0]
                      have hq := HRa.out hE0
                      obtain ⟨h1, h2⟩ := hq
                      have H1 := hid h1
                      have H2 := hid h2
                      clear h1 h2
                      go_wp2_with (refine wpList_store_row_w rfl 50 (.tmp 2) (.tmp 91) rfl w.heap.size rfl _ _ zeroF rfl S5.out HFz.out (by rfl) Hz1.out ?_)
                      refine bodyPost_ret (v := .tuple #[.agg zeroF, .int .i64 E]) (results_cell_tmp Tryz.results37 _ _ w.heap.size 50 zeroF (0, 0) _ _ rfl rfl (setRow_heap _ _ _ _ _ _ S5.out) Tryz.underlying50 rfl HFz.out) rfl ?_
                      rw [H1.out, H2.out]
                      exact HNo.out _ _ (setRow_below E5.out _ (Nat.le_refl _) _)
end Go.Proofs.YtnbbfblaipjcmaaGreatDoor
