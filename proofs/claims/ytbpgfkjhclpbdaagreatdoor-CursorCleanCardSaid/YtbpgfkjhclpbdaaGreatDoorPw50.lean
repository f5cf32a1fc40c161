/- RdC. Conditions: as each theorem states. -/
import Derived.Deep.RegionLaw
import Derived.Deep.AppendLies
import Derived.Deep.DrawnRows
import Derived.Deep.DeepCutAuto
import Derived.Test.YtbpgfkjhclpbdaaGreatDoorPw20
import Derived.Test.YtbpgfkjhclpbdaaGreatDoorPw29
namespace Go.Proofs.YtbpgfkjhclpbdaaGreatDoor
open Tryz
open Go.Lib (hid)
open Go.RowKit
theorem aDV{f:aFJ}(h:f.Len)(tv:Value){m:Nat}(hm:m<4)(x:Int):(aZ f tv).setIfInBounds m (.int .i64 x)=aZ ⟨f.gains.set m x,f.tones,f.scale,f.width,f.q⟩ tv:=by
 unfold aZ;rw[aGK]
 congr 1
 unfold aFJ.cells;rw[aJo _ _ (by rw[aF7,h.g];exact hm),aG0]
theorem aBY{f:aFJ}(h:f.Len)(tv d:Value)(ts:List aFP):(aZ f tv).setIfInBounds 4 d=aZ ⟨f.gains,ts,f.scale,f.width,f.q⟩ d:=by
 unfold aZ;rw[aGK]
 congr 1
 unfold aFJ.cells;rw[aHA _ _ (by rw[aF7,h.g];omega),aF7,h.g]
 rfl
theorem aBX{f:aFJ}(h:f.Len)(tv:Value){m:Nat}(hm:m<4)(x:Int):(aZ f tv).setIfInBounds (5+m) (.int .i64 x)=aZ ⟨f.gains,f.tones,f.scale.set m x,f.width,f.q⟩ tv:=by
 unfold aZ;rw[aGK]
 congr 1
 unfold aFJ.cells;rw[aHA _ _ (by rw[aF7,h.g];omega),aF7,h.g,show 5+m-4=m+1 by omega,List.set_cons_succ,aJo _ _ (by rw[aF7,h.s];exact hm),aG0]
theorem aBZ{f:aFJ}(h:f.Len)(tv:Value){m:Nat}(hm:m<4)(x:Int):(aZ f tv).setIfInBounds (9+m) (.int .i64 x)=aZ ⟨f.gains,f.tones,f.scale,f.width.set m x,f.q⟩ tv:=by
 unfold aZ;rw[aGK]
 congr 1
 unfold aFJ.cells;rw[aHA _ _ (by rw[aF7,h.g];omega),aF7,h.g,show 9+m-4=(4+m)+1 by omega,List.set_cons_succ,aHA _ _ (by rw[aF7,h.s];omega),aF7,h.s,show 4+m-4=m by omega,
  aJo _ _ (by rw[aF7,h.w];exact hm),aG0]
theorem aFC{f:aFJ}(h:f.Len)(tv:Value){m:Nat}(x:Int):(aZ f tv).setIfInBounds (13+m) (.int .i64 x)=aZ ⟨f.gains,f.tones,f.scale,f.width,f.q.set m x⟩ tv:=by
 unfold aZ;rw[aGK]
 congr 1
 unfold aFJ.cells;rw[aHA _ _ (by rw[aF7,h.g];omega),aF7,h.g,show 13+m-4=(8+m)+1 by omega,List.set_cons_succ,aHA _ _ (by rw[aF7,h.s];omega),aF7,h.s,show 8+m-4=4+m by omega,
  aHA _ _ (by rw[aF7,h.w];omega),aF7,h.w,show 4+m-4=m by omega,aG0]
theorem aEA(B:List Nat){m:Nat}(hm:m<4):(gRd B m).set m (eV B (gSt B m) 2:Int)=gRd B (m+1):=zH 4 (fun i=>(eV B (gSt B i) 2:Int)) (fun _=>0) hm
theorem aEW(B:List Nat){m:Nat}(hm:m<4):(sRd B m).set m (sOf B m:Int)=sRd B (m+1):=zH 4 (fun i=>(sOf B i:Int)) (fun _=>0) hm
theorem aE2(B:List Nat){m:Nat}(hm:m<4):(wRd B m).set m (wOf B m:Int)=wRd B (m+1):=zH 4 (fun i=>(wOf B i:Int)) (fun _=>0) hm
theorem aET(B:List Nat){m:Nat}(hm:m<16):(qRd B m).set m (qOf B m)=qRd B (m+1):=zH 16 (fun i=>qOf B i) (fun _=>0) hm
theorem aD0(B:List Nat)(m:Nat):tRd B (m+1)=tRd B m++[aAA B m]:=by unfold tRd;rw[aH0];simp
theorem aEY(B:List Nat)(m:Nat):(tRd B m).length=m:=by simp[tRd]
theorem I1(l:List aFP)(t:aFP):aV (l++[t])=aV l++t.cells:=by simp[aV]
open Classical in
noncomputable def o6(B:List Nat):Int:=if FK B≠0 then FK B else if aFQ (fH B) then 0 else 4
open Classical in
noncomputable def rdF(B:List Nat):aFJ:=if o6 B=0 then fH B else fD
theorem aFH{B:List Nat}(h:FK B≠0):o6 B=FK B/\rdF B=fD:=by
 have e:o6 B=FK B:=FN h;exact⟨e,sL (by rw[e];exact h)⟩
theorem aFB{B:List Nat}(h:FK B=0)(hR:aFQ (fH B)):o6 B=0/\rdF B=fH B:=by
 have e:o6 B=0:=(sL (by simp[h])).trans (FN hR);exact⟨e,FN e⟩
theorem aFI{B:List Nat}(h:FK B=0)(hR:¬ aFQ (fH B)):o6 B=4/\rdF B=fD:=by
 have e:o6 B=4:=(sL (by simp[h])).trans (sL hR);exact⟨e,sL (by rw[e];decide)⟩
structure aF4(w W:World)(g gF:Nat)(A:Option Addr)(c n:Nat)(s:RdS)(f:aFJ)(tv:Value):Prop where
 rd:kZ W g A c n s
 fr:W.heap[gF]? = some (.cells (aZ f tv) 45 (0,0))
 rs:W.heap[w.heap.size]? = some (.cells bS 45 (0,0))
 bel:Below w.heap.size w W
theorem XW{w:World}(g:Nat)(d:Array Value):w.grownBy (w.setRow g d) (some g):=⟨rfl,rfl,rfl,by simp,fun k _ hk=>aHy w g k _ (fun e=>hk (by rw[e]))⟩
theorem aF4.get{w W W':World}{g gF:Nat}{A:Option Addr}{c n:Nat}{s s':RdS}{f:aFJ}{tv:Value}(h:aF4 w W g gF A c n s f tv)(h1:w.heap.size<g)(h2:g<gF)(hR:kZ W' g A c n s')(d:W.grownBy W' (some g)):aF4 w W' g gF A c n s' f tv :=
 ⟨hR,(d.block gF (hlt h.fr) (fun e=>by injection e with e;omega)).trans h.fr,(d.block _ (hlt h.rs) (fun e=>by injection e with e;omega)).trans h.rs,h.bel.grown d (aHv (hlt h.rs)) (fun k hk=>by injection hk with hk;omega)⟩
theorem aF4.set{w W:World}{g gF:Nat}{A:Option Addr}{c n:Nat}{s:RdS}{f t:aFJ}{tv z:Value}(h:aF4 w W g gF A c n s f tv)(h1:w.heap.size<g)(h2:g<gF)(j:Nat)(v:Value)(he:(aZ f tv).setIfInBounds j v=aZ t z):aF4 w (W.setCell ⟨gF,j,none⟩ v) g gF A c n s t z:=by
 have d:W.grownBy (W.setCell ⟨gF,j,none⟩ v) (some gF):=jH _ _ _;refine⟨(d.block g (hlt h.rd) (fun e=>by injection e with e;omega)).trans h.rd,?_,(d.block _ (hlt h.rs) (fun e=>by injection e with e;omega)).trans h.rs,h.bel.grown d (aHv (hlt h.rs)) (fun k hk=>by injection hk with hk;omega)⟩;rw[heap_setCell_same W gF j _ _ _ h.fr,he]
theorem aF4.other{w W W':World}{g gF:Nat}{A:Option Addr}{c n:Nat}{s:RdS}{f:aFJ}{tv:Value}{row:Option Nat}(h:aF4 w W g gF A c n s f tv)(h1:w.heap.size<g)(h2:g<gF)(d:W.grownBy W' row)(t:∀ k,row=some k->gF<k):aF4 w W' g gF A c n s f tv :=
 ⟨(d.block g (hlt h.rd) (fun e=>by have:=t _ e.symm;omega)).trans h.rd,(d.block gF (hlt h.fr) (fun e=>by have:=t _ e.symm;omega)).trans h.fr,(d.block _ (hlt h.rs) (fun e=>by have:=t _ e.symm;omega)).trans h.rs,h.bel.grown d (aHv (hlt h.rs)) (fun k hk=>by have:=t _ hk;omega)⟩
theorem aF4.cell4{w W:World}{g gF:Nat}{A:Option Addr}{c n:Nat}{s:RdS}{f:aFJ}{tv:Value}(h:aF4 w W g gF A c n s f tv)(hf:f.Len):W.cell? ⟨gF,4,none⟩=some tv:=(eI hf h.fr).2.1
theorem YP{w:World}{base:Nat}{e:TypeId}{size n c:Nat}{A:Option Addr}{xs:List Value}(h:w.ownsRow base e size (.slice A n c) n xs):n=0\/∃ g,A=some ⟨g,0,none⟩/\base<=g:=by
 rcases h.2 with ⟨_,d⟩|⟨g,cap,z,t,hb,_⟩
 ·exact .inl d
 ·injection t with h1
  exact .inr ⟨g,h1,hb⟩
theorem aED{a b c:World}{row:Option Nat}(h:Below a.heap.size a b)(k:b.grownBy c row):a.grownBy c row :=
 ⟨k.os.trans h.os,k.tape.trans h.tape,k.output.trans h.output,aGE h.size k.size,fun i hi d=>(k.block i (aGM hi h.size) d).trans (h.block i hi)⟩
theorem gQ{W W':World}{base:Nat}{e:TypeId}{size n:Nat}{v:Value}{xs:List Value}{row:Option Nat}(h:W.ownsRow base e size v n xs)(d:W.grownBy W' row)(t:∀ k,row=some k->k<base):W'.ownsRow base e size v n xs :=
 h.kept d (by
  rcases z:v.ownBlock with _|k
  ·exact .inl rfl
  ·right;have:=bO h k z;intro e;have:=t k e.symm;omega)
attribute [local go_sem ↓] Go.wp_at_zero Go.wp_at_succ
set_option maxRecDepth 100000 in
set_option maxHeartbeats 16000000 in
theorem aAI(B : List Nat)(A : Option Addr)(c : Nat)(w : World)(hn : B.length ≤ 1000000)(hb : ∀ x ∈ B, x < 256)(hr : Row w w.heap.size A (u8s B)):
    Calls prog 69 #[.slice A B.length c] w (j8 w (rdF B) (o6 B)) := by
  have HBy := hid (fun W g (hg : w.heap.size ≤ g) (hW : Below w.heap.size w W) => (show RBytesAt W g A B from ⟨hr.later hW, fun hB ad ha => by
    obtain ⟨x, hx⟩ : ∃ x, B[0]? = some x := ⟨_, List.getElem?_eq_getElem (List.length_pos_iff.2 hB)⟩
    obtain ⟨b, off, hA, hbl, _⟩ := hr 0 _ (eL hx)
    rw [hA] at ha
    injection ha with ha
    subst ha
    show b ≠ g
    omega⟩))
  have HG := hid (fun g s k W (hk : k ≤ 57) (hi : InB B s) (hB : RBytesAt W g A B) (hR : kZ W g A c B.length s) => MZ B g A c s k W hk hn hb hi hB hR)
  have HSg := hid (fun g s k W (hk : k ≤ 57) (hi : InB B s) (hB : RBytesAt W g A B) (hR : kZ W g A c B.length s) => QE B g A c s k W hk hn hb hi hB hR)
  have HFl := hid (fun g s W (hR : kZ W g A c B.length s) => PY g A c B.length s 4 W hR)
  have HEn := hid (fun g s W (hi : InB B s) (hB : RBytesAt W g A B) (hR : kZ W g A c B.length s) => aEd B g A c s W hn hb hi hB hR)
  have HRd := hid (NG A c B.length)
  have hi0 : InB B ⟨0, 0⟩ := Nat.zero_le _
  have HEr := hid (show (FM B (qSt B 16) (8 * B.length)).er = FK B from rfl)
  have HI0 := hid hi0
  generalize hN : B.length = n at *
  have hrs := heap_alloc_new w (.cells bS 45)
  have HRs := hid hrs
  have HB0 := hid (aP w (.cells bS 45))
  have HZ := hid (show bS = #[.int .i64 0, .int .i64 0, .int .i64 0, .int .i64 0, .slice none 0 0, .int .i64 0, .int .i64 0, .int .i64 0, .int .i64 0, .int .i64 0, .int .i64 0, .int .i64 0, .int .i64 0, .int .i64 0, .int .i64 0, .int .i64 0, .int .i64 0, .int .i64 0, .int .i64 0, .int .i64 0, .int .i64 0, .int .i64 0, .int .i64 0, .int .i64 0, .int .i64 0, .int .i64 0, .int .i64 0, .int .i64 0, .int .i64 0] from rfl)
  clear hr hb hrs hi0 hN hn
  go_enter func69, ntmps69
  go_wp2_with (go_at_call 111; fail)
  rw [← HZ.out]
  refine (HRd.out _).mono ?_
  rintro e w1 ⟨rfl, hR, hb1⟩
  obtain ⟨g, hg⟩ : ∃ g, (w.alloc (.cells bS 45)).heap.size = g := ⟨_, rfl⟩
  have hwg : w.heap.size < g := by rw [← hg]; simp
  rw [hg] at hR ⊢
  have R1 := hid (hR)
  have S1 := hid (aF HRs.out hb1)
  have E1 := hid (aC HB0.out hb1)
  obtain ⟨gF, hgF⟩ : ∃ gF, w1.heap.size = gF := ⟨_, rfl⟩
  have hgg : g < gF := by rw [← hgF]; exact hlt hR
  obtain ⟨W2, hW2⟩ : ∃ W2, w1.alloc (.cells bS 45) = W2 := ⟨_, rfl⟩
  have T2 := hid (show aF4 w W2 g gF A c n ⟨0, 0⟩ fD (.slice none 0 0) from by
    rw [← hW2, ← hgF]
    refine ⟨(heap_alloc_old _ _ (hlt hR)).trans hR, heap_alloc_new _ _, (heap_alloc_old _ _ (hlt S1.out)).trans S1.out, aC E1.out (aP w1 _)⟩)
  have HG2 := hid (HG.out g ⟨0, 0⟩ 2 W2 (by omega) HI0.out (HBy.out W2 g (by omega) T2.out.bel) T2.out.rd)
  have HR0 := hid (show rd0 B = if eV B ⟨0, 0⟩ 2 = 1 then dC B ⟨0, 0⟩ 2 else nW (dC B ⟨0, 0⟩ 2) 4 from rfl)
  have HI1 := hid (XR B)
  generalize eV B ⟨0, 0⟩ 2 = v0 at *
  generalize dC B ⟨0, 0⟩ 2 = s0 at *
  clear hR hb1 HRs HB0 R1 S1 E1 HRd hg
  go_upto_if 14 with (go_at_call 112; (try rw [← HZ.out]); (try rw [hW2]); refine HG2.out.mono ?_; rintro e w3 ⟨rfl, hR3, hg3⟩)
  have T3 := hid (T2.out.get hwg hgg hR3 hg3)
  clear hR3 hg3 T2 HG2
  go_cut [] (fun wc => aF4 w wc g gF A c n (rd0 B) fD (.slice none 0 0))
  case first =>
    by_cases hv : v0 = 1
    · have t1 : ((v0 : Int) != 1) = false := by subst hv; rfl
      have HR1 := hid (show rd0 B = s0 by rw [HR0.out, if_pos hv])
      clear hv
      go_wp2
      go_meet
      case rel => rw [HR1.out]; exact T3.out
    · have t1 : ((v0 : Int) != 1) = true := by simp; omega
      have HR1 := hid (show rd0 B = nW s0 4 by rw [HR0.out, if_neg hv])
      have HF3 := hid (HFl.out g s0 w3 T3.out.rd)
      clear hv
      go_wp2_with (go_at_call 113; fail)
      refine HF3.out.mono ?_
      rintro e w4 ⟨rfl, hR4, hg4⟩
      have T4 := hid (T3.out.get hwg hgg hR4 hg4)
      clear hR4 hg4
      go_wp2
      go_meet
      case rel => rw [HR1.out]; exact T4.out
  case rest =>
    have T4 := hid hcut
    clear hcut T3
    have HLz := hid (show ∀ m, aFJ.Len ⟨gRd B m, [], dL, dL, gU⟩ from fun m => ⟨oV B m, rfl, rfl, rfl⟩)
    go_wp2_with fail
    go_loopw [17] (fun i wr => ∃ m : Nat, m ≤ 4 ∧ i = .int .i64 m ∧ aF4 w wr g gF A c n (gSt B m) ⟨gRd B m, [], dL, dL, gU⟩ (.slice none 0 0)) (fun i _ => 4 - (intOf i).toNat)
    case atStart => exact ⟨0, by omega, rfl, T4.out⟩
    case round =>
      obtain ⟨m, hm, rfl, hT⟩ := hrel
      have HT := hid hT
      clear hT T4
      by_cases hlk : m < 4
      · have t1 : (m : Int) < 4 := by omega
        have t2 : (0 : Int) ≤ (m : Int) := by omega
        have hGm := HG.out g (gSt B m) 2 wr (by omega) (HI1.out m) (HBy.out wr g (by omega) HT.out.bel) HT.out.rd
        have hV := rH B (gSt B m) 2
        have HS := hid (aEA B hlk)
        have HSe := hid (aDV (HLz.out m) (.slice none 0 0) hlk (eV B (gSt B m) 2 : Int))
        rw [show (⟨gRd B m, [], dL, dL, gU⟩ : aFJ).gains.set m (eV B (gSt B m) 2 : Int) = gRd B (m + 1) from HS.out] at HSe
        have HNx := hid (show gSt B (m + 1) = dC B (gSt B m) 2 from rfl)
        rw [← HNx.out] at hGm
        generalize eV B (gSt B m) 2 = V at *
        have hwr : IntKind.i64.wrap (V : Int) = (V : Int) := IntWalk.i64_in _ (by omega)
        have HGm := hid hGm
        clear hGm HS
        go_wp2_with (go_at_call 112; fail)
        refine HGm.out.mono ?_
        rintro e w5 ⟨rfl, hR5, hg5⟩
        have T5 := hid (HT.out.get hwg hgg hR5 hg5)
        have z5 : w5.frozen? ⟨gF, m, none⟩ = false := frozen_of_row w5 gF m _ _ T5.out.fr
        obtain ⟨x, hx⟩ := aE (k := m) (oV B m) hlk
        have c5 : w5.cell? ⟨gF, m, none⟩ = some (.int .i64 x) := by
          have := (eI (HLz.out m) T5.out.fr).1 m (.int .i64 x) (by rw [List.getElem?_map, hx]; rfl)
          rwa [Nat.zero_add] at this
        clear hR5 hg5 HT HGm hx
        go_wp2
        go_roundw
        case rel => exact ⟨m + 1, by omega, by go_num, T5.out.set hwg hgg m _ HSe.out⟩
        case measure => simp [intOf]; omega
      · have hm4 : m = 4 := by omega
        subst hm4
        have t1 : ¬ (((4 : Nat) : Int) < 4) := by omega
        have hGm := HG.out g (gSt B 4) 2 wr (by omega) (HI1.out 4) (HBy.out wr g (by omega) HT.out.bel) HT.out.rd
        have HGm := hid hGm
        go_wp2_with (go_at_call 112; fail)
        refine HGm.out.mono ?_
        rintro e w5 ⟨rfl, hR5, hg5⟩
        have T5 := hid (HT.out.get hwg hgg hR5 hg5)
        have hV := rH B (gSt B 4) 2
        have HN0 := hid (show tSt B 0 = dC B (gSt B 4) 2 from rfl)
        obtain ⟨N, hN⟩ : ∃ N, eV B (gSt B 4) 2 = N := ⟨_, rfl⟩
        have HCn := hid (show Q5 B = N from hN)
        rw [hN] at hV
        have hN4 : N < 4 := hV
        rw [hN]
        have T6 := hid (HN0.out ▸ T5.out)
        have HTi := hid (ZL B)
        have HLt := hid (show ∀ m, aFJ.Len ⟨gRd B 4, tRd B m, dL, dL, gU⟩ from fun m => ⟨oV B 4, rfl, rfl, rfl⟩)
        clear hR5 hg5 HT HGm hGm hN T5 hV HN0
        go_wp2_with fail
        go_loopw [29] (fun i wr => ∃ (m : Nat) (A' : Option Addr) (cc : Nat), m ≤ N ∧ i = .int .u64 m ∧ aF4 w wr g gF A c n (tSt B m) ⟨gRd B 4, tRd B m, dL, dL, gU⟩ (.slice A' m cc) ∧ wr.ownsRow (gF + 1) 156 2 (.slice A' m cc) m (aV (tRd B m))) (fun i _ => N - (intOf i).toNat)
        case atStart => exact ⟨0, none, 0, by omega, rfl, T6.out, World.ownsRow_nil _ _ _ _⟩
        case round =>
          obtain ⟨m, A', cc, hm, rfl, hT, hown⟩ := hrel
          have HT := hid (hT.other hwg hgg (row := none) (nZ (Below.refl wr.heap.size wr).drew) (fun k hk => by cases hk))
          have HO := hid (gQ hown (nZ (Below.refl wr.heap.size wr).drew) (fun k hk => by cases hk) (row := none))
          have HT0 := hid hT
          have HO0 := hid hown
          clear hT hown T6
          by_cases hlk : m < N
          · have t1 : (m : Int) < (N : Int) := by omega
            have hV1 := rH B (tSt B m) 4
            have HV1 := hid (show IntKind.i64.wrap ((eV B (tSt B m) 4 : Nat) : Int) = ((eV B (tSt B m) 4 : Nat) : Int) from IntWalk.i64_in _ (by omega))
            have hw1 := HV1.out
            have HG1 := hid (HG.out g (tSt B m) 4 wr.drew (by omega) (HTi.out m) (HBy.out _ g (by omega) HT.out.bel) HT.out.rd)
            have HTn := hid (show tSt B (m + 1) = dC B (dC B (tSt B m) 4) 24 from rfl)
            have HTo := hid (show aAA B m = ⟨eV B (tSt B m) 4, IQ B (dC B (tSt B m) 4) 24⟩ from rfl)
            have HI2 := hid (kB (HTi.out m) 4)
            have HSn := hid (show aV (tRd B (m + 1)) = aV (tRd B m) ++ (aAA B m).cells by rw [aD0, I1])
            have HSe := hid (fun tv tv' => (show (aZ ⟨gRd B 4, tRd B m, dL, dL, gU⟩ tv).setIfInBounds 4 tv' = aZ ⟨gRd B 4, tRd B (m + 1), dL, dL, gU⟩ tv' from aBY (HLt.out m) tv tv' (tRd B (m + 1))))
            have HSg2 := hid (fun W (hT : aF4 w W g gF A c n (dC B (tSt B m) 4) ⟨gRd B 4, tRd B m, dL, dL, gU⟩ (.slice A' m cc)) => HSg.out g (dC B (tSt B m) 4) 24 W (by omega) HI2.out (HBy.out W g (by omega) hT.bel) hT.rd)
            have HLm := hid (HLt.out m)
            rw [HTo.out] at HSn
            rw [← HTn.out] at HSg2
            generalize eV B (tSt B m) 4 = V1 at *
            generalize dC B (tSt B m) 4 = s1 at *
            generalize IQ B s1 24 = V2 at *
            obtain ⟨iT, hiT, hzT0, hzT1, hzT2⟩ : ∃ i, prog.info? 156 = some i ∧ i.zero = some (.agg #[.int .i64 0, .int .i64 0]) ∧ i.size = 2 ∧ i.bytes = 16 := by
              have : (prog.info? 156).map (fun i => (i.zero, i.size, i.bytes)) = some (some (.agg #[.int .i64 0, .int .i64 0]), 2, 16) := by kernel_rfl
              cases h : prog.info? 156 with
              | none => rw [h] at this; cases this
              | some i =>
                rw [h] at this
                simp only [Option.map_some, Option.some.injEq, Prod.mk.injEq] at this
                exact ⟨i, rfl, this.1, this.2.1, this.2.2⟩
            clear hV1 HTn HTo
            go_wp2_with fail
            have c40 := HT0.out.cell4 HLm.out
            go_region_law (first | (go_simp; go_at_call 112; refine HG1.out.mono ?_; rintro e w5 ⟨rfl, hR5, hg5⟩; have T5 := hid (HT.out.get hwg hgg hR5 hg5); have c45 := T5.out.cell4 HLm.out; have O5 := hid (gQ HO.out hg5 (fun k hk => by injection hk with hk; omega))) | (go_simp; go_at_call 114; refine (HSg2.out _ T5.out).mono ?_; rintro e w6 ⟨rfl, hR6, hg6⟩; have T6 := hid (T5.out.get hwg hgg hR6 hg6); have c46 := T6.out.cell4 HLm.out; have d46 := fun O => b8 c46 O; have O6 := hid (gQ O5.out hg6 (fun k hk => by injection hk with hk; omega))) | (refine step_append_lies _ (by rfl) _ _ _ (by rfl) (gF + 1) 156 iT (.agg #[.int .i64 0, .int .i64 0]) 2 16 underlying41 hiT hzT0 hzT1 hzT2 rfl (by omega) (.slice A' m cc) m (aV (tRd B m)) (by rfl) (O6.out.alloc _) ⟨w6.heap.size, 0, none⟩ 1 1 [.int .i64 V1, .int .i64 V2] (by rfl) rfl (World.news_of_block (heap_alloc_new w6 _)) (fun u hu => by simp at hu; rcases hu with rfl | rfl <;> rfl) (by omega) (by unfold maxLen; omega) (by omega) (by have := hlt T6.out.fr; simp; omega) (w6.heap.size + 1) (by simp) ?_; intro gg cap w7 hown7 hgrow7 hat7 hlt7; have T7 := hid (T6.out.other hwg hgg (aED (aP w6 _) hgrow7) (fun k hk => bO O6.out k hk)); have c7 := T7.out.cell4 HLm.out; have z7 := frozen_of_row w7 gF 4 _ _ T7.out.fr))
            all_goals
             have O7 := hid (gQ hown7 (jH gF 4 (.slice (some ⟨gg, 0, none⟩) (m + 1) cap)) (fun k hk => by injection hk with hk; omega))
             have T8 := hid (T7.out.set hwg hgg 4 (.slice (some ⟨gg, 0, none⟩) (m + 1) cap) (HSe.out _ _))
             go_wp2
             go_roundw
             case rel => exact ⟨m + 1, some ⟨gg, 0, none⟩, cap, by omega, by go_num, T8.out, by rw [HSn.out]; exact O7.out⟩
             case measure => simp [intOf]; omega
          · have hmN : m = N := by omega
            have t1 : ¬ ((m : Int) < (N : Int)) := by omega
            subst hmN
            obtain ⟨tv, htv⟩ : ∃ tv, Value.slice A' m cc = tv := ⟨_, rfl⟩
            rw [htv] at HT0 HO0
            have Htv := hid htv
            have HLb := hid (show ∀ k, aFJ.Len ⟨gRd B 4, tRd B m, sRd B k, wRd B k, gU⟩ from fun k => ⟨oV B 4, uP B k, uT B k, rfl⟩)
            have HLb2 := hid (show ∀ k, aFJ.Len ⟨gRd B 4, tRd B m, sRd B (k + 1), wRd B k, gU⟩ from fun k => ⟨oV B 4, uP B _, uT B k, rfl⟩)
            have HBi := hid (WF B)
            have TB := hid (show aF4 w wr g gF A c n (bSt B 0) ⟨gRd B 4, tRd B m, sRd B 0, wRd B 0, gU⟩ tv from by
              rw [show bSt B 0 = tSt B m from by show tSt B (Q5 B) = _; rw [HCn.out]]
              exact HT0.out)
            clear HT HO HT0 htv HLt HTi
            go_wp2_with fail
            go_loopw [43] (fun i wr => ∃ k : Nat, k ≤ 4 ∧ i = .int .i64 k ∧ aF4 w wr g gF A c n (bSt B k) ⟨gRd B 4, tRd B m, sRd B k, wRd B k, gU⟩ tv ∧ wr.ownsRow (gF + 1) 156 2 tv m (aV (tRd B m))) (fun i _ => 4 - (intOf i).toNat)
            case atStart => exact ⟨0, by omega, rfl, TB.out, HO0.out⟩
            case round =>
              obtain ⟨k, hk, rfl, hT, hown⟩ := hrel
              have HT := hid hT
              have HO := hid hown
              clear hT hown TB HO0
              by_cases hkk : k < 4
              · have t1 : (k : Int) < 4 := by omega
                have t2 : (0 : Int) ≤ (k : Int) := by omega
                have HG1 := hid (HG.out g (bSt B k) 5 wr (by omega) (HBi.out k) (HBy.out wr g (by omega) HT.out.bel) HT.out.rd)
                have HG2 := hid (fun W (hT : aF4 w W g gF A c n (dC B (bSt B k) 5) ⟨gRd B 4, tRd B m, sRd B (k + 1), wRd B k, gU⟩ tv) => HG.out g (dC B (bSt B k) 5) 5 W (by omega) (kB (HBi.out k) 5) (HBy.out W g (by omega) hT.bel) hT.rd)
                have hv1 : eV B (bSt B k) 5 < 32 := rH B (bSt B k) 5
                have hv2 : eV B (dC B (bSt B k) 5) 5 < 32 := rH B _ 5
                have HNx := hid (show bSt B (k + 1) = if 23 < eV B (bSt B k) 5 ∨ 24 < eV B (dC B (bSt B k) 5) 5 then nW (dC B (dC B (bSt B k) 5) 5) 4 else dC B (dC B (bSt B k) 5) 5 from rfl)
                have HSe1 := hid (aBX (HLb.out k) tv hkk (eV B (bSt B k) 5 : Int))
                rw [show (⟨gRd B 4, tRd B m, sRd B k, wRd B k, gU⟩ : aFJ).scale.set k (eV B (bSt B k) 5 : Int) = sRd B (k + 1) from aEW B hkk] at HSe1
                have HSe2 := hid (aBZ (HLb2.out k) tv hkk (eV B (dC B (bSt B k) 5) 5 : Int))
                rw [show (⟨gRd B 4, tRd B m, sRd B (k + 1), wRd B k, gU⟩ : aFJ).width.set k (eV B (dC B (bSt B k) 5) 5 : Int) = wRd B (k + 1) from aE2 B hkk] at HSe2
                have HSg1 := hid (show (sRd B (k + 1))[k]? = some (eV B (bSt B k) 5 : Int) from by
                  unfold sRd
                  rw [aI _ hkk, if_pos (by omega)]; rfl)
                have HWg1 := hid (show (wRd B (k + 1))[k]? = some (eV B (dC B (bSt B k) 5) 5 : Int) from by
                  unfold wRd
                  rw [aI _ hkk, if_pos (by omega)]; rfl)
                generalize eV B (dC B (bSt B k) 5) 5 = V2 at *
                generalize eV B (bSt B k) 5 = V1 at *
                have hw1 : IntKind.i64.wrap (V1 : Int) = (V1 : Int) := IntWalk.i64_in _ (by omega)
                have hw2 : IntKind.i64.wrap (V2 : Int) = (V2 : Int) := IntWalk.i64_in _ (by omega)
                generalize dC B (dC B (bSt B k) 5) 5 = s2 at *
                generalize dC B (bSt B k) 5 = s1 at *
                obtain ⟨x1, hx1⟩ := aE (k := k) (uP B k) hkk
                obtain ⟨x2, hx2⟩ := aE (k := k) (uT B k) hkk
                have HX1 := hid (show ((sRd B k).map (Value.int .i64))[k]? = some (.int .i64 x1) by rw [List.getElem?_map, hx1]; rfl)
                have HX2 := hid (show ((wRd B k).map (Value.int .i64))[k]? = some (.int .i64 x2) by rw [List.getElem?_map, hx2]; rfl)
                clear hx1 hx2
                go_wp2_with (go_at_call 112; fail)
                refine HG1.out.mono ?_
                rintro e w5 ⟨rfl, hR5, hg5⟩
                have T5 := hid (HT.out.get hwg hgg hR5 hg5)
                have O5 := hid (gQ HO.out hg5 (fun k hk => by injection hk with hk; omega))
                have z5 : w5.frozen? ⟨gF, 5 + k, none⟩ = false := frozen_of_row w5 gF _ _ _ T5.out.fr
                have c5 : w5.cell? ⟨gF, 5 + k, none⟩ = some (.int .i64 x1) := (eI (HLb.out k) T5.out.fr).2.2.1 k _ HX1.out
                have T6 := hid (T5.out.set hwg hgg (5 + k) _ HSe1.out)
                have O6 := hid (gQ O5.out (jH gF (5 + k) (.int .i64 (V1 : Int))) (fun k hk => by injection hk with hk; omega))
                have HG3 := hid (HG2.out _ T6.out)
                clear hR5 hg5 HT HO HG1 HG2 HX1 HSe1
                go_wp2_with (go_at_call 112; fail)
                refine HG3.out.mono ?_
                rintro e w7 ⟨rfl, hR7, hg7⟩
                have T7 := hid (T6.out.get hwg hgg hR7 hg7)
                have O7 := hid (gQ O6.out hg7 (fun k hk => by injection hk with hk; omega))
                have z7 : w7.frozen? ⟨gF, 9 + k, none⟩ = false := frozen_of_row w7 gF _ _ _ T7.out.fr
                have c7 : w7.cell? ⟨gF, 9 + k, none⟩ = some (.int .i64 x2) := (eI (HLb2.out k) T7.out.fr).2.2.2.1 k _ HX2.out
                have T8 := hid (T7.out.set hwg hgg (9 + k) _ HSe2.out)
                have O8 := hid (gQ O7.out (jH gF (9 + k) (.int .i64 (V2 : Int))) (fun k hk => by injection hk with hk; omega))
                obtain ⟨W8, hW8⟩ : ∃ W8, w7.setCell ⟨gF, 9 + k, none⟩ (.int .i64 (V2 : Int)) = W8 := ⟨_, rfl⟩
                rw [hW8] at T8 O8
                have d1 : W8.cell? ⟨gF, 5 + k, none⟩ = some (.int .i64 (V1 : Int)) := (eI (HLb.out (k + 1)) T8.out.fr).2.2.1 k _ (by show ((sRd B (k + 1)).map _)[k]? = _; rw [List.getElem?_map, HSg1.out]; rfl)
                have d2 : W8.cell? ⟨gF, 9 + k, none⟩ = some (.int .i64 (V2 : Int)) := (eI (HLb.out (k + 1)) T8.out.fr).2.2.2.1 k _ (by show ((wRd B (k + 1)).map _)[k]? = _; rw [List.getElem?_map, HWg1.out]; rfl)
                clear hR7 hg7 T5 O5 T6 O6 HG3 HX2 HSe2 HSg1 HWg1 c5 z5 T7 O7
                have hcs : (decide (23 < (V1 : Int)) = true ∧ bSt B (k + 1) = nW s2 4) ∨ (decide (23 < (V1 : Int)) = false ∧ decide (24 < (V2 : Int)) = true ∧ bSt B (k + 1) = nW s2 4) ∨ (decide (23 < (V1 : Int)) = false ∧ decide (24 < (V2 : Int)) = false ∧ bSt B (k + 1) = s2) := by
                  rw [HNx.out]
                  by_cases h1 : 23 < V1
                  · exact .inl ⟨decide_eq_true (by omega), if_pos (.inl h1)⟩
                  · by_cases h2 : 24 < V2
                    · exact .inr (.inl ⟨decide_eq_false (by omega), decide_eq_true (by omega), if_pos (.inr h2)⟩)
                    · exact .inr (.inr ⟨decide_eq_false (by omega), decide_eq_false (by omega), if_neg (by omega)⟩)
                have HF8 := hid (HFl.out g s2 W8 T8.out.rd)
                clear HNx
                rcases hcs with ⟨e1, hE⟩ | ⟨e1, e2, hE⟩ | ⟨e1, e2, hE⟩
                case inr.inr =>
                  have HE := hid hE
                  clear hE
                  go_wp2_with (rw [hW8])
                  go_roundw
                  case rel => exact ⟨k + 1, by omega, by go_num, by rw [HE.out]; exact T8.out, O8.out⟩
                  case measure => simp [intOf]; omega
                all_goals
                  have HE := hid hE
                  clear hE
                  go_wp2_with (first | rw [hW8] | (go_at_call 113; fail))
                  refine HF8.out.mono ?_
                  rintro e w9 ⟨rfl, hR9, hg9⟩
                  have T9 := hid (T8.out.get hwg hgg hR9 hg9)
                  have O9 := hid (gQ O8.out hg9 (fun k hk => by injection hk with hk; omega))
                  clear hR9 hg9
                  go_wp2
                  go_roundw
                  case rel => exact ⟨k + 1, by omega, by go_num, by rw [HE.out]; exact T9.out, O9.out⟩
                  case measure => simp [intOf]; omega
              · have hk4 : k = 4 := by omega
                subst hk4
                have t1 : ¬ (((4 : Nat) : Int) < 4) := by omega
                have HQi := hid (aDT B)
                have HLq := hid (show ∀ j, aFJ.Len ⟨gRd B 4, tRd B m, sRd B 4, wRd B 4, qRd B j⟩ from fun j => ⟨oV B 4, uP B 4, uT B 4, DV B j⟩)
                have TQ := hid (show aF4 w wr g gF A c n (qSt B 0) ⟨gRd B 4, tRd B m, sRd B 4, wRd B 4, qRd B 0⟩ tv from HT.out)
                clear HT HLb HLb2 HBi
                go_wp2_with fail
                go_loopw [73] (fun i wr => ∃ j : Nat, j ≤ 16 ∧ i = .int .i64 j ∧ aF4 w wr g gF A c n (qSt B j) ⟨gRd B 4, tRd B m, sRd B 4, wRd B 4, qRd B j⟩ tv ∧ wr.ownsRow (gF + 1) 156 2 tv m (aV (tRd B m))) (fun i _ => 16 - (intOf i).toNat)
                case atStart => exact ⟨0, by omega, rfl, TQ.out, HO.out⟩
                case round =>
                  obtain ⟨j, hj, rfl, hT, hown⟩ := hrel
                  have HT := hid hT
                  have HO2 := hid hown
                  clear hT hown TQ HO
                  by_cases hjj : j < 16
                  · have t3 : (j : Int) < 16 := by omega
                    have t4 : (0 : Int) ≤ (j : Int) := by omega
                    obtain ⟨q, hq⟩ : ∃ q, j / 4 = q := ⟨_, rfl⟩
                    have hq4 : q < 4 := by omega
                    have t5 : (q : Int) < 4 := by omega
                    have t6 : (0 : Int) ≤ (q : Int) := by omega
                    have HBand := hid (show ∀ W, Calls prog 115 #[.int .i64 j] W fun e w' => e = .returned (.int .i64 (q : Int)) ∧ W = w' from fun W => (pJ j W hjj).mono fun e w' ⟨he, hw⟩ => ⟨he.trans (cL (by omega)), hw⟩)
                    have hwb : wOf B q < 32 := rH B _ 5
                    have HSq := hid (HSg.out g (qSt B j) (wOf B q) wr (by omega) (HQi.out j) (HBy.out wr g (by omega) HT.out.bel) HT.out.rd)
                    have HNx := hid (show qSt B (j + 1) = dC B (qSt B j) (wOf B q) by rw [← hq]; rfl)
                    have HQo := hid (show qOf B j = IQ B (qSt B j) (wOf B q) by rw [← hq]; rfl)
                    rw [← HNx.out, ← HQo.out] at HSq
                    have c1 : wr.cell? ⟨gF, 9 + q, none⟩ = some (.int .i64 (wOf B q : Int)) := (eI (HLq.out j) HT.out.fr).2.2.2.1 q _ (by
                      show ((wRd B 4).map _)[q]? = _
                      rw [List.getElem?_map]
                      unfold wRd
                      rw [aI _ hq4, if_pos hq4]; rfl)
                    have HSe := hid (aFC (HLq.out j) tv (m := j) (qOf B j))
                    rw [show (⟨gRd B 4, tRd B m, sRd B 4, wRd B 4, qRd B j⟩ : aFJ).q.set j (qOf B j) = qRd B (j + 1) from aET B hjj] at HSe
                    obtain ⟨x, hx⟩ := aE (k := j) (DV B j) hjj
                    have HX := hid (show ((qRd B j).map (Value.int .i64))[j]? = some (.int .i64 x) by rw [List.getElem?_map, hx]; rfl)
                    generalize qOf B j = qv at *
                    generalize wOf B q = K at *
                    clear hx hq HNx HQo
                    go_wp2_with (first | (go_at_call 115; refine (HBand.out _).mono ?_; rintro e w5 ⟨rfl, rfl⟩) | (go_at_call 114; fail))
                    refine HSq.out.mono ?_
                    rintro e w7 ⟨rfl, hR7, hg7⟩
                    have T7 := hid (HT.out.get hwg hgg hR7 hg7)
                    have O7 := hid (gQ HO2.out hg7 (fun k hk => by injection hk with hk; omega))
                    have z7 : w7.frozen? ⟨gF, 13 + j, none⟩ = false := frozen_of_row w7 gF _ _ _ T7.out.fr
                    have c7 : w7.cell? ⟨gF, 13 + j, none⟩ = some (.int .i64 x) := (eI (HLq.out j) T7.out.fr).2.2.2.2 j _ HX.out
                    have T8 := hid (T7.out.set hwg hgg (13 + j) _ HSe.out)
                    have O8 := hid (gQ O7.out (jH gF (13 + j) (.int .i64 qv)) (fun k hk => by injection hk with hk; omega))
                    clear hR7 hg7 HT HO2 HSq HX HSe
                    go_wp2
                    go_roundw
                    case rel => exact ⟨j + 1, by omega, by go_num, T8.out, O8.out⟩
                    case measure => simp [intOf]; omega
                  · have hj16 : j = 16 := by omega
                    subst hj16
                    have t3 : ¬ (((16 : Nat) : Int) < 16) := by omega
                    have HE := hid (HEn.out g (qSt B 16) wr (HQi.out 16) (HBy.out wr g (by omega) HT.out.bel) HT.out.rd)
                    rw [HEr.out] at HE
                    have HFR := hid (show (⟨gRd B 4, tRd B m, sRd B 4, wRd B 4, qRd B 16⟩ : aFJ) = fH B by unfold fH; rw [HCn.out])
                    have HFz := hid (show (prog.info? 45).map (·.size) = some bS.size from bZ)
                    have Hz1 := hid (show bS.all (·.oneCell') = true by simp [bS, Value.oneCell'])
                    go_wp2_with (go_at_call 116; fail)
                    refine HE.out.mono ?_
                    rintro e w5 ⟨rfl, hg5⟩
                    have F5 := hid ((hg5.block gF (hlt HT.out.fr) (fun e => by injection e with e; omega)).trans HT.out.fr)
                    have S5 := hid ((hg5.block _ (hlt HT.out.rs) (fun e => by injection e with e; omega)).trans HT.out.rs)
                    have E5 := hid (HT.out.bel.grown hg5 (Nat.le_of_lt (hlt HT.out.rs)) (fun k hk => by injection hk with hk; omega))
                    have O5 := hid (gQ HO2.out hg5 (fun k hk => by injection hk with hk; omega))
                    rw [HFR.out] at F5
                    have HLr := hid (XQ B)
                    have htl : (fH B).tones.length = m := by rw [← HFR.out]; exact aEY B m
                    have Htl := hid htl
                    have htn : (fH B).tones = tRd B m := by rw [← HFR.out]
                    have Htn := hid htn
                    have HRa := hid (aFH (B := B))
                    have HRb := hid (aFB (B := B))
                    have HRc := hid (aFI (B := B))
                    have HRt := hid (fun W (hr : Row W W.heap.size A' (aV (tRd B m))) => (show Calls prog 117 #[.agg (aZ (fH B) tv)] W (PV W (aFQ (fH B))) from by
                      have := aAP (fH B) A' cc W HLr.out (by rw [Htl.out]; omega) (by rw [Htn.out]; exact hr)
                      rw [Htl.out, Htv.out] at this
                      exact this))
                    have hfz : (aZ (fH B) tv).size = 29 := fX HLr.out tv
                    have Hfz := hid hfz
                    have HFf := hid (show (prog.info? 45).map (·.size) = some (aZ (fH B) tv).size by rw [hfz]; exact bZ)
                    have Hf1 := hid (show (aZ (fH B) tv).all (·.oneCell') = true from by rw [← Htv.out]; exact l8 _ rfl)
                    have HFA := hid (show aZ (fH B) (.slice A' (fH B).tones.length cc) = aZ (fH B) tv by rw [Htl.out, Htv.out])
                    have HNo := hid (fun (er : Int) W (hb : Below w.heap.size w W) => (show j8 w fD er (.returned (.tuple #[.agg bS, .int .i64 er])) W from ⟨none, 0, rfl, Nat.le_refl _, by omega, .inl rfl, Row.none_ _ _ _, hb⟩))
                    generalize FK B = E at *
                    generalize o6 B = er at *
                    generalize rdF B = RF at *
                    generalize (aFQ (fH B)) = PR at *
                    obtain ⟨fa, hfa⟩ : ∃ fa, aZ (fH B) tv = fa := ⟨_, rfl⟩
                    rw [hfa] at F5 HRt HFf Hf1 HFA Hfz
                    clear hg5 HT HO2 HE HFR htl htn HQi HLq hfz hfa HG HSg HFl HEn HEr HBy HCn
                    by_cases hE0 : E = 0
                    · subst hE0
                      have t7 : ((0 : Int) != 0) = false := rfl
                      go_wp2_with (first | (refine aB rfl 45 (.tmp 5) rfl gF rfl _ fa _ _ F5.out underlying45 rfl HFf.out ?_) | (go_at_call 117; fail))
                      have O5' := O5.out
                      rw [← Htv.out] at O5'
                      refine (HRt.out _ (Row.of_own O5')).mono ?_
                      rintro e w6 ⟨bb, rfl, hiff, hb6⟩
                      have F6 := hid (aF F5.out hb6)
                      have S6 := hid (aF S5.out hb6)
                      have E6 := hid (aC E5.out hb6)
                      have HIf := hid hiff
                      have P6 := hid (cU O5' hb6)
                      clear hb6 hiff O5' F5 S5 E5 O5 HRt HRa
                      cases bb
                      · have hq := HRc.out (by trivial) (fun h => by cases HIf.out.2 h)
                        obtain ⟨h1, h2⟩ := hq
                        have H1 := hid h1
                        have H2 := hid h2
                        clear h1 h2 HRb HRc HIf
                        go_wp2_with (refine aA rfl 45 (.tmp 2) (.tmp 96) rfl w.heap.size rfl _ _ bS rfl S6.out HFz.out (by rfl) Hz1.out ?_)
                        refine bodyPost_ret (v := .tuple #[.agg bS, .int .i64 4]) (aX results69 _ _ w.heap.size 45 bS (0, 0) _ _ rfl rfl (setRow_heap _ _ _ _ _ _ S6.out) underlying45 rfl HFz.out) rfl ?_
                        rw [H1.out, H2.out]
                        exact HNo.out _ _ (aO E6.out _ (Nat.le_refl _) _)
                      · have hq := HRb.out (by trivial) (HIf.out.1 rfl)
                        obtain ⟨h1, h2⟩ := hq
                        have H1 := hid h1
                        have H2 := hid h2
                        clear h1 h2 HRb HRc HIf
                        go_wp2_with (first | (refine aB rfl 45 (.tmp 5) rfl gF rfl _ fa _ _ F6.out underlying45 rfl HFf.out ?_) | (refine aA rfl 45 (.tmp 2) (.tmp 97) rfl w.heap.size rfl _ _ fa rfl S6.out HFf.out (by rw [Hfz.out]; rfl) Hf1.out ?_))
                        refine bodyPost_ret (v := .tuple #[.agg fa, .int .i64 0]) (aX results69 _ _ w.heap.size 45 fa (0, 0) _ _ rfl rfl (setRow_heap _ _ _ _ _ _ S6.out) underlying45 rfl HFf.out) rfl ?_
                        rw [H1.out, H2.out]
                        have P7 := gQ P6.out (XW w.heap.size fa) (fun k hk => by injection hk with hk; omega)
                        refine ⟨A', cc, by rw [HFA.out], by rw [Htl.out]; exact oZ P6.out, gK P6.out, ?_, by rw [Htn.out]; exact Row.of_own P7, aO E6.out _ (Nat.le_refl _) _⟩
                        rcases YP P6.out with h | ⟨g', h3, h4⟩
                        · exact .inl (List.eq_nil_of_length_eq_zero (by rw [Htl.out]; exact h))
                        · exact .inr ⟨g', h3, by omega⟩
                    · have t7 : (E != 0) = true := by simp [hE0]
                      have hq := HRa.out hE0
                      obtain ⟨h1, h2⟩ := hq
                      have H1 := hid h1
                      have H2 := hid h2
                      clear h1 h2
                      go_wp2_with (refine aA rfl 45 (.tmp 2) (.tmp 91) rfl w.heap.size rfl _ _ bS rfl S5.out HFz.out (by rfl) Hz1.out ?_)
                      refine bodyPost_ret (v := .tuple #[.agg bS, .int .i64 E]) (aX results69 _ _ w.heap.size 45 bS (0, 0) _ _ rfl rfl (setRow_heap _ _ _ _ _ _ S5.out) underlying45 rfl HFz.out) rfl ?_
                      rw [H1.out, H2.out]
                      exact HNo.out _ _ (aO E5.out _ (Nat.le_refl _) _)
end Go.Proofs.YtbpgfkjhclpbdaaGreatDoor
