/- LawSamples. Conditions: as each theorem states. -/
import Derived.Test.YthmgjielcmjenaaMcxRtC
import Derived.Test.YthmgjielcmjenaaMc50

namespace Go.Proofs.Ythmgjielcmjenaa
open Go.RowKit

/-- two rows do not share a block -/
def Apart (a b : Value) : Prop := a.ownBlock = none ∨ a.ownBlock ≠ b.ownBlock
theorem Apart.symm {a b : Value} (h : Apart a b) : Apart b a := by
  unfold Apart at *
  rcases h with h | h
  · rcases hb : b.ownBlock with _ | k
    · exact .inl rfl
    · right; rw [h]; simp
  · right; exact fun e => h e.symm
theorem Apart.grow {a a' b : Value} {n : Nat} (h : Apart a b) (ha : a'.ownBlock = a.ownBlock ∨ a'.ownBlock = some n) (hb : ∀ k, b.ownBlock = some k → k < n) : Apart a' b := by
  unfold Apart at *
  rcases ha with ha | ha
  · rw [ha]; exact h
  · right; rw [ha]; intro e; have := hb n e.symm; omega
theorem Row.left {w : World} {B : Nat} {A : Option Addr} {xs ys : List Value} (h : Row w B A (xs ++ ys)) : Row w B A xs := fun i v hv => h i v (by rw [List.getElem?_append_left (List.getElem?_eq_some_iff.1 hv).1]; exact hv)
theorem tones_take (l : List ToneV) (n : Nat) : toneCells l = toneCells (l.take n) ++ toneCells (l.drop n) := by
  unfold toneCells
  rw [← List.flatten_append, ← List.map_append, List.take_append_drop]
theorem grownB {a b c : World} {row : Option Nat} (h : Below a.heap.size a b) (k : b.grownBy c row) : a.grownBy c row :=
  ⟨k.os.trans h.os, k.tape.trans h.tape, k.output.trans h.output, Nat.le_trans h.size k.size, fun i hi hr => (k.block i (Nat.lt_of_lt_of_le hi h.size) hr).trans (h.block i hi)⟩
def specsL (M : List (FrH × FrameV)) : List Int := ((M.map Prod.snd).map specZ).flatten
def gainsL (M : List (FrH × FrameV)) : List Int := ((M.map Prod.snd).map (·.gains)).flatten
theorem specsL_snoc (M : List (FrH × FrameV)) (p : FrH × FrameV) : specsL (M ++ [p]) = specsL M ++ specZ p.2 := by simp [specsL]
theorem gainsL_snoc (M : List (FrH × FrameV)) (p : FrH × FrameV) : gainsL (M ++ [p]) = gainsL M ++ p.2.gains := by simp [gainsL]
/-- the rows of what may be, for Whole -/
theorem rows_good {M : List (FrH × FrameV)} (hR : ∀ p ∈ M, RightF p.2) : (specsL M).length = M.length * 16 ∧ GainsOk (gainsL M) M.length ∧ BdL 2147483648 (specsL M) := by
  have hRf : ∀ f ∈ M.map Prod.snd, RightF f := fun f hf => by
    obtain ⟨p, hp, rfl⟩ := List.mem_map.1 hf
    exact hR p hp
  obtain ⟨fs, hfs⟩ : ∃ fs, M.map Prod.snd = fs := ⟨_, rfl⟩
  have hlf : M.length = fs.length := by rw [← hfs, List.length_map]
  unfold specsL gainsL
  rw [hfs] at hRf ⊢
  rw [hlf, ← rowsTo_map (sz := 16) fs specZ, ← rowsTo_map (sz := 4) fs (·.gains)]
  have HSl := fun i => specZ_len (nthF fs i)
  have HGl := fun i => nthF_gains hRf i
  refine ⟨rowsTo_len (sz := 16) HSl _, ⟨rowsTo_len HGl _, fun i hi => ?_⟩, specs_bd fs⟩
  rw [rowsTo_row HGl hi]
  have hm := hRf _ (nthF_mem hi)
  exact ⟨hm.gains.1, gain_ok hm.gains⟩

set_option maxRecDepth 100000 in
set_option maxHeartbeats 16000000 in
theorem CodeSamples_walk (L : List (FrH × FrameV)) (A : Option Addr) (cap : Nat) (k : Int) (w : World) (hl : L.length ≤ 9223372036854775807) (hA : FramesAt w A L) (hN : ∀ p ∈ L, NilTight p) :
    Calls Try.prog 8 #[.slice A L.length cap, .int .i64 k] w fun e w' => e = .returned (.bool true) ∧ Below w.heap.size w w' := by
  have HAw := Lib.hid (fun W => awake13_any W)
  have HNew := Lib.hid (fun W => codeNew_any 24 W (by omega) (by omega))
  have HLp := Lib.hid (fun W => lapNew_any W)
  have HA := Lib.hid hA
  have HN := Lib.hid hN
  obtain ⟨n, hn⟩ : ∃ n, L.length = n := ⟨_, rfl⟩
  have Hn := Lib.hid hn
  rw [hn] at hl ⊢
  clear hA hN hn
  obtain ⟨i0, hi, ⟨z0, hz0, hz0s⟩, hi1, hi2⟩ := frames_info
  obtain ⟨iB, hiB, hzB0, hzB1, hzB2⟩ := blk_info
  obtain ⟨i4, hi4, hz4, hz5', hz6⟩ : ∃ i, Try.prog.info? 91 = some i ∧ i.zero = some (.agg (List.replicate 4 (Value.int .i64 0)).toArray) ∧ i.size = 4 ∧ i.bytes = 32 := by
    have := inf_4
    cases h : Try.prog.info? 91 with
    | none => rw [h] at this; cases this
    | some i =>
      rw [h] at this
      simp only [Option.map_some, Option.some.injEq, Prod.mk.injEq] at this
      exact ⟨i, rfl, this.1, this.2.1, this.2.2⟩
  have HW := Lib.hid (fun (M : List (FrH × FrameV)) (hc : M.length ≤ 100000) (hR : ∀ p ∈ M, RightF p.2) B Bg kb kg W (r : Row W W.heap.size B ((specsL M).map (.int .i64))) (rg : Row W W.heap.size Bg ((gainsL M).map (.int .i64))) =>
    Whole_any (specsL M) (gainsL M) B Bg kb kg M.length k W (rows_good hR).1 hc r (rows_good hR).2.1 rg (rows_good hR).2.2)
  generalize lapA = lv at *
  go_enter Try.func8, Try.ntmps8
  go_wp2
  go_loopw [5, 6, 7, 8] (fun f s g i wr => ∃ (m : Nat) (M : List (FrH × FrameV)) (k : Nat) (A1 A2 A3 : Option Addr) (c1 c2 c3 : Nat), m ≤ n ∧ m ≤ 10 ∧ M.length = k ∧ k ≤ m ∧ i = .int .i64 m ∧ f = .slice A1 k c1 ∧ s = .slice A2 k c2 ∧ g = .slice A3 k c3 ∧
      wr.ownsRow w.heap.size 96 29 (.slice A1 k c1) k (framesC M) ∧ wr.ownsRow w.heap.size 94 16 (.slice A2 k c2) k ((specsL M).map (.int .i64)) ∧ wr.ownsRow w.heap.size 91 4 (.slice A3 k c3) k ((gainsL M).map (.int .i64)) ∧
      Apart (.slice A1 k c1) (.slice A2 k c2) ∧ Apart (.slice A1 k c1) (.slice A3 k c3) ∧ Apart (.slice A2 k c2) (.slice A3 k c3) ∧ (∀ p ∈ M, RightF p.2) ∧ (∀ p ∈ M, Tones w p) ∧ Below w.heap.size w wr) (fun _ _ _ i _ => 10 - (intOf i).toNat)
  case atStart => exact ⟨0, [], 0, none, none, none, 0, 0, 0, by omega, by omega, rfl, by omega, rfl, rfl, rfl, rfl, World.ownsRow_nil _ _ _ _, World.ownsRow_nil _ _ _ _, World.ownsRow_nil _ _ _ _, .inl rfl, .inl rfl, .inl rfl, nofun, nofun, Below.refl _ _⟩
  case round =>
    obtain ⟨m, M, k', A1, A2, A3, c1, c2, c3, hm, hm10, hM, hkm, rfl, rfl, rfl, rfl, o1, o2, o3, d12, d13, d23, hR, hT, hbel⟩ := hrel
    have HM := Lib.hid hM
    have O1 := Lib.hid o1
    have O2 := Lib.hid o2
    have O3 := Lib.hid o3
    have D12 := Lib.hid d12
    have D13 := Lib.hid d13
    have D23 := Lib.hid d23
    have HR := Lib.hid hR
    have HT := Lib.hid hT
    have Hbel := Lib.hid hbel
    clear hM o1 o2 o3 d12 d13 d23 hR hT hbel
    by_cases hlk : m < n ∧ m < 10
    · obtain ⟨hmn, hm9⟩ := hlk
      have t1 : decide ((m : Int) < (n : Int)) = true := decide_eq_true (by omega)
      have t2 : decide ((m : Int) < 10) = true := decide_eq_true (by omega)
      have t3 : (m : Int) < (n : Int) := by omega
      have t4 : (0 : Int) ≤ (m : Int) := by omega
      obtain ⟨p, hp⟩ := list_get (k := m) Hn.out hmn
      have hmem := List.mem_of_getElem? hp
      have hpl := HA.out.len p hmem
      have hpT := HA.out.tones p hmem
      have hpN := HN.out p hmem
      obtain ⟨b, off, rfl, hb, hcell⟩ := frame_at HA.out hp
      have FX := Lib.hid (fun j v (hv : (frC p)[j]? = some v) => (show wr.cell? ⟨b, off + m * 29 + j, none⟩ = some v from (Hbel.out.cell (p := ⟨b, off + m * 29 + j, none⟩) hb).trans (hcell j v hv)))
      have hfl : (frC p).length = 29 := frC_len hpl
      obtain ⟨q, hq⟩ : ∃ q : FrH × FrameV, (p.1, fewF p.2) = q := ⟨_, rfl⟩
      have hq2 : q.2 = fewF p.2 := by rw [← hq]
      have hq1 : q.1 = p.1 := by rw [← hq]
      have hql : q.2.Len := by rw [hq2]; exact ⟨hpl.g, hpl.s, hpl.w, hpl.q⟩
      have hqt : q.2.tones = p.2.tones.take 5 := by rw [hq2]; rfl
      have hqn : q.2.tones.length ≤ p.2.tones.length := by rw [hqt, List.length_take]; omega
      have hqT : Tones w q := ⟨by rw [hq1]; have := hpT.1; omega, by rw [hq1]; exact hpT.2.1, by
        rw [hq1, hqt]
        have := hpT.2.2
        rw [tones_take p.2.tones 5] at this
        exact this.left⟩
      have HF := Lib.hid (fun W => (show Calls Try.prog 44 #[.agg (frC p).toArray] W fun e w' => e = .returned (.agg (frC q).toArray) ∧ Below W.heap.size W w' from by
        rw [← hq]
        exact Few10_any p.2 p.1.a p.1.c W hpl hpT.1 hpT.2.1 hpN))
      have HRt := Lib.hid (fun W (hW : Below w.heap.size w W) => (show Calls Try.prog 45 #[.agg (frC q).toArray] W (BoolPost W (RightF q.2)) from Right_any q.2 q.1.a q.1.c W hql (by have := hqT.1; have := hqT.2.1; omega) (hqT.later hW).2.2))
      have HSp := Lib.hid (fun W (hW : Below w.heap.size w W) (h : RightF q.2) => (show Calls Try.prog 46 #[.agg (frC q).toArray] W fun e w' => e = .returned (blockV (specZ q.2)) ∧ Below W.heap.size W w' from Spectrum_any q.2 q.1.a q.1.c W h (hqT.later hW).2.2))
      have HqT := Lib.hid hqT
      have hgl := frC_len hql
      have Hf1 := Lib.hid (show (frC q).toArray.all (·.oneCell') = true by
        rw [Array.all_eq_true_iff_forall_mem]
        intro v hv
        exact frC_one q v (by simpa using hv))
      have Hp1 := Lib.hid (frC_one q)
      have HGp := Lib.hid (fun j v (hv : (q.2.gains.map (Value.int .i64))[j]? = some v) => (show (frC q).toArray[0 + j]? = some v from frameA_gain hql _ hv))
      have hgg : (q.2.gains.map (Value.int .i64)).length = 4 := by rw [List.length_map, hql.g]
      have hss : ((specZ q.2).map (Value.int .i64)).length = 16 := by rw [List.length_map, specZ_len]
      unfold blockV at HSp
      have HM1 := Lib.hid (framesC_snoc M q)
      have HM2 := Lib.hid (show (specsL (M ++ [q])).map (Value.int .i64) = (specsL M).map (.int .i64) ++ (specZ q.2).map (.int .i64) by rw [specsL_snoc, List.map_append])
      have HM3 := Lib.hid (show (gainsL (M ++ [q])).map (Value.int .i64) = (gainsL M).map (.int .i64) ++ q.2.gains.map (.int .i64) by rw [gainsL_snoc, List.map_append])
      have Ho1 := Lib.hid (ints_each (specZ q.2))
      have Ho2 := Lib.hid (ints_each q.2.gains)
      generalize (specZ q.2).map (Value.int .i64) = zs at *
      generalize q.2.gains.map (Value.int .i64) = ys at *
      generalize frC p = pl at *
      generalize frC q = fl at *
      have HFl := Lib.hid (show (Try.prog.info? 96).map (·.size) = some pl.length by rw [hfl]; exact inf_frame)
      have HFa := Lib.hid (show (Try.prog.info? 96).map (·.size) = some fl.toArray.size by rw [List.size_toArray, hgl]; exact inf_frame)
      have Hfz := Lib.hid (show fl.toArray.size = 29 by rw [List.size_toArray, hgl])
      have HFz := Lib.hid (show zs.toArray.size = 16 by rw [List.size_toArray, hss])
      have HFy := Lib.hid (show (Try.prog.info? 91).map (·.size) = some ys.length by rw [hgg]; exact inf_four)
      have HFw := Lib.hid (show ys.toArray.size = 4 by rw [List.size_toArray, hgg])
      have Hgl := Lib.hid hgl
      have Hgg := Lib.hid hgg
      have Hss := Lib.hid hss
      clear hp hmem hpl hpT hpN hcell hfl hq hq1 hq2 hql hqt hqn hqT hgl hgg hss
      go_wp2_with (first | (refine wpList_load_part_w rfl 96 (.tmp 28) rfl b (off + m * 29) rfl pl _ FX.out Try.underlying96 rfl HFl.out ?_) | (go_at_call 44; fail))
      refine (HF.out _).mono ?_
      rintro e w1 ⟨rfl, hb1⟩
      have HNw := Lib.hid (heap_alloc_new w1 (.cells fl.toArray 96))
      have EV := Lib.hid (bnext (bnext Hbel.out hb1) (bnew w1 (.cells fl.toArray 96)))
      have FV := Lib.hid (bnext hb1 (bnew w1 (.cells fl.toArray 96)))
      have hz1 := hb1.size
      obtain ⟨V, hV⟩ : ∃ V, w1.alloc (.cells fl.toArray 96) = V := ⟨_, rfl⟩
      rw [hV] at HNw EV FV
      clear hb1 FX HF
      go_wp2_with (first | (refine wpList_store_row_w rfl 96 (.tmp 9) (.tmp 30) rfl w1.heap.size rfl _ _ fl.toArray rfl (heap_alloc_new w1 _) HFa.out (by rw [Hfz.out]; rfl) Hf1.out ?_; rw [World.setRow_alloc_new]; rw [hV]) | (refine wpList_load_row_w rfl 96 (.tmp 9) rfl w1.heap.size rfl _ fl.toArray _ _ HNw.out Try.underlying96 rfl HFa.out ?_) | (go_at_call 45; fail))
      refine (HRt.out _ EV.out).mono ?_
      rintro e w2 ⟨bb, rfl, hiff, hb2⟩
      have N2 := Lib.hid (hkeep HNw.out hb2)
      have E2 := Lib.hid (bnext EV.out hb2)
      have F2 := Lib.hid (bnext FV.out hb2)
      have hz2 := hlt N2.out
      have hzw := Hbel.out.size
      obtain ⟨gF, hgF⟩ : ∃ gF, w1.heap.size = gF := ⟨_, rfl⟩
      rw [hgF] at N2 hz1 hz2 ⊢
      have HIf := Lib.hid hiff
      clear HNw EV FV hb2 hV hiff HRt
      cases bb
      · clear HIf HSp
        go_wp2
        go_roundw
        case rel => exact ⟨m + 1, M, k', A1, A2, A3, c1, c2, c3, by omega, by omega, HM.out, by omega, by go_num, rfl, rfl, rfl, own_below O1.out F2.out, own_below O2.out F2.out, own_below O3.out F2.out, D12.out, D13.out, D23.out, HR.out, HT.out, E2.out⟩
        case measure => simp [intOf]; omega
      · have HRq := Lib.hid (HIf.out.1 rfl)
        have P1 := Lib.hid (own_below O1.out F2.out)
        have P2 := Lib.hid (own_below O2.out F2.out)
        have P3 := Lib.hid (own_below O3.out F2.out)
        have K1 := Lib.hid (own_row_lt O1.out)
        have K2 := Lib.hid (own_row_lt O2.out)
        have K3 := Lib.hid (own_row_lt O3.out)
        have G1 := Lib.hid (own_block_ge O1.out)
        have G2 := Lib.hid (own_block_ge O2.out)
        have G3 := Lib.hid (own_block_ge O3.out)
        clear HIf O1 O2 O3
        go_wp2_with (first | (refine wpList_load_row_w rfl 96 (.tmp 9) rfl gF rfl _ fl.toArray _ _ N2.out Try.underlying96 rfl HFa.out ?_) | (refine wpList_load_row_w rfl 96 (.tmp 9) rfl gF rfl _ fl.toArray _ _ N3.out Try.underlying96 rfl HFa.out ?_) | (go_at_call 46; fail) | (refine wpList_build_one rfl 76 96 (.tmp 34) rfl i0 z0 29 Try.underlying76 hi hz0 hi1 (by omega) (by omega) fl.toArray rfl Hfz.out ?_) | (at_builtin; (refine wpList_app _ rfl (.tmp 33) (.tmp 35) 76 rfl w.heap.size 96 i0 z0 29 248 Try.underlying76 hi hz0 hi1 hi2 hz0s (by omega) _ k' (framesC M) rfl (P1.out.alloc _) (w2.heap.size + 1) (some ⟨w2.heap.size, 0, none⟩) 1 1 fl rfl (by rw [Hgl.out]) (Row.new w2 _ fl) Hp1.out (by omega) (by omega) (by simp; omega) ?_); intro B1 e1 w3 hown3 hgrow3 hat3 hcc3; have GB3 := Lib.hid (grownB (bnew w2 (.cells fl.toArray 96)) hgrow3); have N3 := Lib.hid ((GB3.out.block gF (hlt N2.out) (fun h => by have := K1.out _ h.symm; omega)).trans N2.out)))
        have Q1 := Lib.hid hown3
        have Q2 := Lib.hid ((P2.out.alloc (.cells fl.toArray 96)).kept hgrow3 D12.out.symm)
        have Q3 := Lib.hid ((P3.out.alloc (.cells fl.toArray 96)).kept hgrow3 D13.out.symm)
        have E3 := Lib.hid ((E2.out.alloc (by omega) (.cells fl.toArray 96)).grown hgrow3 (by simp; omega) (fun g h => G1.out g h))
        have X12 := Lib.hid (D12.out.grow hat3 (fun k hk => by have := own_row_lt P2.out k hk; simp; omega))
        have X13 := Lib.hid (D13.out.grow hat3 (fun k hk => by have := own_row_lt P3.out k hk; simp; omega))
        have hzx3 := hlt N3.out
        clear hown3 hgrow3 hat3 hcc3 GB3 N2 P1 P2 P3 E2 F2 D12 D13
        refine (HSp.out _ E3.out HRq.out).mono ?_
        rintro e w4 ⟨rfl, hb4⟩
        have N4 := Lib.hid (hkeep N3.out hb4)
        have Q1 := Lib.hid (own_below Q1.out hb4)
        have Q2 := Lib.hid (own_below Q2.out hb4)
        have Q3 := Lib.hid (own_below Q3.out hb4)
        have E4 := Lib.hid (bnext E3.out hb4)
        have hzx4 := hb4.size
        clear hb4 N3 E3 HSp
        go_wp2_with (first | (refine wpList_build_one rfl 79 94 (.tmp 39) rfl iB _ 16 Try.underlying79 hiB hzB0 hzB1 (by omega) (by omega) zs.toArray rfl HFz.out ?_) | (at_builtin; refine wpList_app _ rfl (.tmp 37) (.tmp 40) 79 rfl w.heap.size 94 iB _ 16 128 Try.underlying79 hiB hzB0 hzB1 hzB2 rfl (by omega) _ k' ((specsL M).map (.int .i64)) rfl (Q2.out.alloc _) (w4.heap.size + 1) (some ⟨w4.heap.size, 0, none⟩) 1 1 zs rfl (by rw [Hss.out]) (Row.new w4 _ zs) Ho1.out (by omega) (by omega) (by simp; omega) ?_; intro B2 e2 w5 hown5 hgrow5 hat5 hcc5; have GB5 := Lib.hid (grownB (bnew w4 (.cells zs.toArray 94)) hgrow5); have N5 := Lib.hid ((GB5.out.block gF (hlt N4.out) (fun h => by have := K2.out _ h.symm; omega)).trans N4.out); have R2 := Lib.hid hown5; have R1 := Lib.hid ((Q1.out.alloc (.cells zs.toArray 94)).kept hgrow5 X12.out); have R3 := Lib.hid ((Q3.out.alloc (.cells zs.toArray 94)).kept hgrow5 D23.out.symm); have E5 := Lib.hid ((E4.out.alloc (by omega) (.cells zs.toArray 94)).grown hgrow5 (by simp; omega) (fun g h => G2.out g h)); have Y12 := Lib.hid ((X12.out.symm.grow hat5 (fun k hk => by have := own_row_lt Q1.out k hk; simp; omega)).symm); have Y23 := Lib.hid (D23.out.grow hat5 (fun k hk => by have := own_row_lt Q3.out k hk; simp; omega)); have hzx5 := hlt N5.out; have Y5 := Lib.hid (fun j v (hv : ys[j]? = some v) => (show w5.cell? ⟨gF, 0 + j, none⟩ = some v from (cell_of_row _ _ _ _ _ _ N5.out).trans (HGp.out j v hv)))) | (refine wpList_load_part_w rfl 91 (.tmp 43) rfl gF 0 rfl ys _ Y5.out Try.underlying91 rfl HFy.out ?_) | (refine wpList_build_one rfl 73 91 (.tmp 44) rfl i4 _ 4 Try.underlying73 hi4 hz4 hz5' (by omega) (by omega) ys.toArray rfl HFw.out ?_) | (at_builtin; refine wpList_app _ rfl (.tmp 42) (.tmp 45) 73 rfl w.heap.size 91 i4 _ 4 32 Try.underlying73 hi4 hz4 hz5' hz6 rfl (by omega) _ k' ((gainsL M).map (.int .i64)) rfl (R3.out.alloc _) (w5.heap.size + 1) (some ⟨w5.heap.size, 0, none⟩) 1 1 ys rfl (by rw [Hgg.out]) (Row.new w5 _ ys) Ho2.out (by omega) (by omega) (by have := E5.out.size; simp; omega) ?_; intro B3 e3 w6 hown6 hgrow6 hat6 hcc6))
        go_roundw
        case rel =>
          have S1 := (R1.out.alloc (.cells ys.toArray 91)).kept hgrow6 X13.out
          have S2 := (R2.out.alloc (.cells ys.toArray 91)).kept hgrow6 Y23.out
          have E6 := (E5.out.alloc (by have := E5.out.size; omega) (.cells ys.toArray 91)).grown hgrow6 (by have := E5.out.size; simp; omega) (fun g h => G3.out g h)
          have Z13 := (X13.out.symm.grow hat6 (fun k hk => by have := own_row_lt R1.out k hk; simp; omega)).symm
          have Z23 := (Y23.out.symm.grow hat6 (fun k hk => by have := own_row_lt R2.out k hk; simp; omega)).symm
          refine ⟨m + 1, M ++ [q], k' + 1, B1, B2, B3, e1, e2, e3, by omega, by omega, by simp [HM.out], by omega, by go_num, rfl, rfl, rfl, ?_, ?_, ?_, Y12.out, Z13, Z23, ?_, ?_, E6⟩
          · rw [HM1.out]; exact S1
          · rw [HM2.out]; exact S2
          · rw [HM3.out]; exact hown6
          · intro p hp
            rcases List.mem_append.1 hp with h | h
            · exact HR.out p h
            · rw [List.mem_singleton] at h; rw [h]; exact HRq.out
          · intro p hp
            rcases List.mem_append.1 hp with h | h
            · exact HT.out p h
            · rw [List.mem_singleton] at h; rw [h]; exact HqT.out
        case measure => simp [intOf]; omega
    · have hcs : (¬ ((m : Int) < (n : Int)) ∧ decide ((m : Int) < (n : Int)) = false) ∨ ((m : Int) < (n : Int) ∧ decide ((m : Int) < (n : Int)) = true ∧ ¬ ((m : Int) < 10) ∧ decide ((m : Int) < 10) = false) := by
        by_cases h : m < n
        · exact .inr ⟨by omega, decide_eq_true (by omega), by omega, decide_eq_false (by omega)⟩
        · exact .inl ⟨by omega, decide_eq_false (by omega)⟩
      have HRw1 := Lib.hid (Row.of_own O1.out)
      have HRw2 := Lib.hid (Row.of_own O2.out)
      have HRw3 := Lib.hid (Row.of_own O3.out)
      have hk100 : k' ≤ 100000 := by omega
      have HS := Lib.hid (fun gc W (hg : CoderAt W gc 24) (hA : FramesAt W A1 M) => Samples_any gc 24 M A1 c1 k W hg (by rw [HM.out]; exact hk100) hA HR.out)
      have HW2 := Lib.hid (HW.out M (by rw [HM.out]; exact hk100) HR.out)
      have hse : sampsZ (M.map Prod.snd) k = (firstZ (wholeZ (specsL M) (gainsL M) M.length) k).map satZ := by
        unfold sampsZ specsL gainsL
        rw [List.length_map]
      rw [hse] at HS
      rw [HM.out] at HS HW2
      have hwl : (firstZ (wholeZ (specsL M) (gainsL M) k') k).length ≤ k' * 16 := by
        unfold firstZ
        rw [List.length_take, wholeZ_len (by rw [(rows_good HR.out).1, HM.out])]; omega
      generalize firstZ (wholeZ (specsL M) (gainsL M) k') k = X at *
      obtain ⟨N, hN⟩ : ∃ N, X.length = N := ⟨_, rfl⟩
      have HN2 := Lib.hid hN
      unfold GapPost at HS HW2
      rw [List.length_map, hN] at HS
      rw [hN] at HW2 hwl
      clear hlk hse hN O1 O2 O3 D12 D13 D23 HW HA HN
      rcases hcs with ⟨t0, t1⟩ | ⟨t0, t1, t3, t2⟩
      all_goals
        go_wp2_with (go_at_call 30; fail)
        refine (HNew.out _).mono ?_
        rintro e w2 ⟨gc, rfl, _, hg, hb2⟩
        have E2 := Lib.hid (bnext Hbel.out hb2)
        have FA := Lib.hid (show FramesAt w2 A1 M from ⟨HRw1.out.later hb2, fun p hp => (HR.out p hp).len, fun p hp => (HT.out p hp).later E2.out⟩)
        have V2 := Lib.hid (HRw2.out.later hb2)
        have V3 := Lib.hid (HRw3.out.later hb2)
        have CG := Lib.hid hg
        clear hb2 hg HRw1 HRw2 HRw3
        go_wp2_with (go_at_call 47; fail)
        refine (HS.out _ _ CG.out FA.out).mono ?_
        rintro e w3 ⟨A3', c3', rfl, _, _, hr3, hb3⟩
        have V2 := Lib.hid (V2.out.later hb3)
        have V3 := Lib.hid (V3.out.later hb3)
        have T3 := Lib.hid hr3
        have E3 := Lib.hid (bnext E2.out hb3)
        clear hb3 hr3 CG FA E2 HS
        go_wp2_with (go_at_call 38; fail)
        refine (HLp.out _).mono ?_
        rintro e w4 ⟨rfl, hb4⟩
        have V2 := Lib.hid (V2.out.later hb4)
        have V3 := Lib.hid (V3.out.later hb4)
        have T4 := Lib.hid (T3.out.later hb4)
        have E4 := Lib.hid (bnext E3.out hb4)
        clear hb4 T3 E3
        go_wp2_with (go_at_call 48; fail)
        refine (HW2.out _ _ _ _ _ V2.out V3.out).mono ?_
        rintro e w5 ⟨A5, c5, rfl, _, _, hr5, hb5⟩
        have T5 := Lib.hid (T4.out.later hb5)
        have X5 := Lib.hid hr5
        have E5 := Lib.hid (bnext E4.out hb5)
        clear hb5 hr5 T4 E4 V2 V3 HW2
        go_wp2_with fail
        go_loop [14] (fun i => ∃ q : Nat, q ≤ N ∧ i = .int .i64 q) (fun i => N - (intOf i).toNat)
        case atStart => exact ⟨0, by omega, rfl⟩
        case round =>
          obtain ⟨q, hq, rfl⟩ := hrel
          by_cases hlq : q < N
          · have t3 : (q : Int) < (N : Int) := by omega
            have t4 : (0 : Int) ≤ (q : Int) := by omega
            obtain ⟨x, hx⟩ := list_get (k := q) HN2.out hlq
            obtain ⟨b5, o5, rfl, hb5, k5⟩ := X5.out q (.int .i64 x) (by rw [List.getElem?_map, hx]; rfl)
            obtain ⟨b4, o4, rfl, hb4, k4⟩ := T5.out q (.int .i64 (satZ x)) (by rw [List.getElem?_map, List.getElem?_map, hx]; rfl)
            have hcs : (decide (32767 < x) = true ∧ satZ x = 32767) ∨ (decide (32767 < x) = false ∧ decide (x < -32768) = true ∧ satZ x = -32768) ∨ (decide (32767 < x) = false ∧ decide (x < -32768) = false ∧ satZ x = x) := by
              unfold satZ clampZ
              by_cases h1 : 32767 < x
              · exact .inl ⟨decide_eq_true h1, by rw [if_neg (by omega), if_pos h1]⟩
              · by_cases h2 : x < -32768
                · exact .inr (.inl ⟨decide_eq_false h1, decide_eq_true h2, by rw [if_pos (.inl h2)]⟩)
                · exact .inr (.inr ⟨decide_eq_false h1, decide_eq_false h2, by rw [if_neg (by omega), if_neg h1]⟩)
            clear hx hb5 hb4
            rcases hcs with ⟨e1, e2⟩ | ⟨e1, e2, e3⟩ | ⟨e1, e2, e3⟩
            all_goals
              first | rw [e3] at k4 | rw [e2] at k4
              go_wp2
              go_round
              case rel => exact ⟨q + 1, by omega, by go_num⟩
              case measure => simp [intOf]; omega
          · have hqn : q = N := by omega
            subst hqn
            have t3 : ¬ ((q : Int) < (q : Int)) := by omega
            go_wp2_with (go_at_call 31; refine (HAw.out _).mono ?_; rintro e w9 ⟨rfl, hb9⟩)
            go_ret
            exact ⟨rfl, bnext E5.out hb9⟩
theorem CodeSamples_law (W : World) (v0 v1 : Value) (a0 : Arg W (.slice 29 frTy) v0) (a1 : Arg W (.int .i64) v1) :
    Calls Try.prog 8 #[v0, v1] W fun e w' => e = .returned (.bool true) ∧ Below W.heap.size W w' := by
  obtain ⟨k, ha, _, _⟩ := a1
  obtain rfl : v1 = .int .i64 k := by simpa using ha
  obtain ⟨L, A, cap, rfl, h1, h2, h3⟩ := frames_arg a0
  exact CodeSamples_walk L A cap k W h1 h2 h3
end Go.Proofs.Ythmgjielcmjenaa
