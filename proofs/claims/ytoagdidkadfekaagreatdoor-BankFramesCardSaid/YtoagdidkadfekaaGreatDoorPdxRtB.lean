/- RtB. Conditions: as each theorem states. -/
import Derived.Test.YtoagdidkadfekaaGreatDoorPdxRtA
import Derived.Test.YtoagdidkadfekaaGreatDoorPd28

namespace Go.Proofs.YtoagdidkadfekaaGreatDoor
open Go.RowKit

/-- an answer that tells whether a frame may be -/
def BoolPost (W : World) (PF : Prop) (e : Ending) (w' : World) : Prop := ∃ b : Bool, e = .returned (.bool b) ∧ (b = true ↔ PF) ∧ Below W.heap.size W w'
theorem scb_of {s : List Int} (hl : s.length = 4) (h : scaleOk s = true) : ScB s := ⟨hl, fun i hi => by
  obtain ⟨x, hx⟩ := list_get (k := i) hl hi
  have := List.all_eq_true.1 h x (List.mem_of_getElem? hx)
  simp only [Bool.and_eq_true, decide_eq_true_eq] at this
  rw [bgt_get hx]; exact this⟩
theorem gain_of' {g : List Int} (hl : g.length = 4) (h : gainOk g = true) : g.length = 4 ∧ ∀ i, i < 4 → 0 ≤ bgt g i ∧ bgt g i ≤ 3 := ⟨hl, fun i hi => by
  obtain ⟨x, hx⟩ := list_get (k := i) hl hi
  have := List.all_eq_true.1 h x (List.mem_of_getElem? hx)
  unfold inB at this
  simp only [Bool.and_eq_true, decide_eq_true_eq] at this
  rw [bgt_get hx]; exact this⟩
theorem fitsZ_iff {v : Int} {k : Nat} : fitsZ v k = true ↔ widthZ v ≤ k := by unfold fitsZ; rw [decide_eq_true_eq]

set_option maxRecDepth 100000 in
set_option maxHeartbeats 8000000 in
theorem Right_any (f : FrameV) (A : Option Addr) (c : Nat) (w : World) (h : f.Len) (hlen : f.tones.length ≤ 9223372036854775807) (hr : Row w w.heap.size A (toneCells f.tones)) :
    Calls Tryz.prog 70 #[.agg (frameA f (.slice A f.tones.length c))] w (BoolPost w (RightF f)) := by
  have HG := Lib.hid (fun W => gainRight_any f.gains W h.g)
  have HT := Lib.hid (fun W (hW : Below w.heap.size w W) => rightTones_any f.tones A c W hlen (hr.later hW))
  have HS := Lib.hid (fun W => scalesRight_any f.scale W h.s)
  have HL := h
  have Hno1 := Lib.hid (fun (hR : RightF f) => gain_ok hR.gains)
  have Hno2 := Lib.hid (fun (hR : RightF f) => (show TonesR f.tones ∧ f.tones.length ≤ 2 from ⟨⟨hR.tidx, hR.tinc⟩, hR.tlen⟩))
  have Hno3 := Lib.hid (fun (hR : RightF f) => hR.scale.ok)
  have Hno4 := Lib.hid (fun (hR : RightF f) => hR.width)
  have Hno5 := Lib.hid (fun (hR : RightF f) => hR.q)
  have Hyes := Lib.hid (fun (h1 : gainOk f.gains = true) (h2 : TonesR f.tones ∧ f.tones.length ≤ 2) (h3 : scaleOk f.scale = true) (h4 : ∀ i, i < 4 → 0 ≤ bgt f.width i ∧ bgt f.width i ≤ 24) (h5 : ∀ k, k < 16 → (widthZ (bgt f.q k) : Int) ≤ bgt f.width (k / 4)) =>
    (show RightF f from ⟨gain_of' h.g h1, h2.2, h2.1.1, h2.1.2, scb_of h.s h3, h.w, h4, h.q, h5⟩))
  have HPa := Lib.hid (fun (W : World) (g : Nat) hg => frame_parts (w := W) (g := g) HL (tv := .slice A f.tones.length c) hg)
  have hgl : (f.gains.map (Value.int .i64)).length = 4 := by simp [HL.g]
  have hsl : (f.scale.map (Value.int .i64)).length = 4 := by simp [HL.s]
  have hwl : (f.width.map (Value.int .i64)).length = 4 := by simp [HL.w]
  obtain ⟨PF, hPF⟩ : ∃ PF : Prop, RightF f = PF := ⟨_, rfl⟩
  rw [hPF] at Hno1 Hno2 Hno3 Hno4 Hno5 Hyes ⊢
  clear hPF
  obtain ⟨gg, ts, sc, wd, q⟩ := f
  simp only at *
  have Hql := Lib.hid HL.q
  have Hwl := Lib.hid HL.w
  simp only at Hql Hwl
  have HCw := Lib.hid (fun (k : Nat) (x : Int) (h : wd[k]? = some x) => blk_get h)
  have HCq := Lib.hid (fun (k : Nat) (x : Int) (h : q[k]? = some x) => (show (q.map (Value.int .i64))[k]? = some (.int .i64 x) by rw [List.getElem?_map, h]; rfl))
  generalize gainOk gg = B1 at *
  generalize scaleOk sc = B3 at *
  unfold RTonesPost at HT
  generalize (TonesR ts ∧ ts.length ≤ 2) = PT at *
  generalize ts.length = n at *
  generalize frameA ⟨gg, ts, sc, wd, q⟩ (.slice A n c) = fc at *
  unfold blockV at *
  generalize hgv : gg.map (Value.int .i64) = gv at *
  generalize hsv : sc.map (Value.int .i64) = sv at *
  generalize hwv : wd.map (Value.int .i64) = wv at *
  generalize hqv : q.map (Value.int .i64) = qv at *
  have HFg := Lib.hid (show (Tryz.prog.info? 57).map (·.size) = some gv.length by rw [hgl]; exact inf_four)
  have HFs := Lib.hid (show (Tryz.prog.info? 57).map (·.size) = some sv.length by rw [hsl]; exact inf_four)
  have HFw := Lib.hid (show (Tryz.prog.info? 57).map (·.size) = some wv.length by rw [hwl]; exact inf_four)
  have HM := Lib.hid (heap_alloc_new w (.cells fc 62))
  have P := HPa.out _ _ HM.out
  have P0 := Lib.hid P.1
  have P3 := P.2.1
  have HB0 := Lib.hid (bnew w (.cells fc 62))
  clear P hr h hgv hsv hwv hqv hgl hsl hwl HL hlen
  go_enter Tryz.func70, Tryz.ntmps70
  go_wp2_with (first | (go_at_call 91; fail) | (refine wpList_load_part_w rfl 57 (.tmp 7) rfl w.heap.size 0 rfl gv _ P0.out Tryz.underlying57 rfl HFg.out ?_))
  refine (HG.out _).mono ?_
  rintro e w1 ⟨rfl, hb1⟩
  have HM1 := Lib.hid (hkeep HM.out hb1)
  have HB1 := Lib.hid (bnext HB0.out hb1)
  have Q := HPa.out _ _ HM1.out
  have p3 := Q.2.1
  clear Q hb1 P3 P0 HM HB0 HG
  cases B1
  · have HX := Lib.hid (show ¬ PF from fun h => (by cases Hno1.out h))
    clear Hno1 Hyes
    go_wp2
    go_ret
    exact ⟨false, rfl, ⟨nofun, fun h => (HX.out h).elim⟩, HB1.out⟩
  have Hy1 := Lib.hid (Hyes.out rfl)
  clear Hno1 Hyes
  go_wp2_with (go_at_call 92; fail)
  refine (HT.out _ HB1.out).mono ?_
  rintro e w2 ⟨b2, rfl, hb2i, hb2⟩
  have HI2 := Lib.hid hb2i
  have HM2 := Lib.hid (hkeep HM1.out hb2)
  have HB2 := Lib.hid (bnext HB1.out hb2)
  have Q := HPa.out _ _ HM2.out
  have Q2 := Lib.hid Q.2.2.1
  clear Q hb2 hb2i p3 HM1 HB1 HT
  cases b2
  · have HX := Lib.hid (show ¬ PF from fun h => (by cases HI2.out.2 (Hno2.out h)))
    clear Hy1 HI2
    go_wp2
    go_ret
    exact ⟨false, rfl, ⟨nofun, fun h => (HX.out h).elim⟩, HB2.out⟩
  have Hy2 := Lib.hid (Hy1.out (HI2.out.1 rfl))
  clear Hno2 HI2 Hy1
  go_wp2_with (first | (go_at_call 93; fail) | (refine wpList_load_part_w rfl 57 (.tmp 18) rfl w.heap.size 5 rfl sv _ Q2.out Tryz.underlying57 rfl HFs.out ?_))
  refine (HS.out _).mono ?_
  rintro e w3 ⟨rfl, hb3⟩
  have HM3 := Lib.hid (hkeep HM2.out hb3)
  have HB3 := Lib.hid (bnext HB2.out hb3)
  have Q := HPa.out _ _ HM3.out
  have Q3 := Lib.hid Q.2.2.2.1
  have Q4 := Lib.hid Q.2.2.2.2
  clear Q hb3 HM2 HB2 HS
  cases B3
  · have HX := Lib.hid (show ¬ PF from fun h => (by cases Hno3.out h))
    clear Hy2 Hno3
    go_wp2
    go_ret
    exact ⟨false, rfl, ⟨nofun, fun h => (HX.out h).elim⟩, HB3.out⟩
  have Hy3 := Lib.hid (Hy2.out rfl)
  clear Hno3 Hy2
  go_wp2_with (refine wpList_load_part_w rfl 57 (.tmp 23) rfl w.heap.size 9 rfl wv _ Q3.out Tryz.underlying57 rfl HFw.out ?_)
  go_loop [25] (fun i => ∃ m : Nat, m ≤ 4 ∧ i = .int .i64 m ∧ (∀ i, i < m → 0 ≤ bgt wd i ∧ bgt wd i ≤ 24) ∧ ∀ k, k < m * 4 → (widthZ (bgt q k) : Int) ≤ bgt wd (k / 4)) (fun i => 4 - (intOf i).toNat)
  case atStart => exact ⟨0, by omega, rfl, fun i hi => by omega, fun k hk => by omega⟩
  case round =>
    obtain ⟨m, hm, rfl, hw1, hw2⟩ := hrel
    have Hw1 := Lib.hid hw1
    have Hw2 := Lib.hid hw2
    clear hw1 hw2
    by_cases hlk : m < 4
    · have t1 : (m : Int) < 4 := by omega
      obtain ⟨x, hx⟩ := list_get (k := m) Hwl.out hlk
      have Hx := Lib.hid (bgt_get hx)
      have hix := run_index_arr (P := Tryz.prog) Tryz.underlying57 hlk (fun W => by kernel_rfl) (fun W => by kernel_rfl) (HCw.out _ _ hx)
      by_cases hx1 : x < 0
      · have t2 : decide (x < 0) = true := decide_eq_true hx1
        have HX := Lib.hid (show ¬ PF from fun h => by
          have := Hno4.out h m hlk
          rw [Hx.out] at this
          omega)
        clear hx
        go_wp2
        go_ret
        exact ⟨false, rfl, ⟨nofun, fun h => (HX.out h).elim⟩, HB3.out⟩
      by_cases hx2 : 24 < x
      · have t2 : decide (x < 0) = false := decide_eq_false hx1
        have t3 : decide (24 < x) = true := decide_eq_true hx2
        have HX := Lib.hid (show ¬ PF from fun h => by
          have := Hno4.out h m hlk
          rw [Hx.out] at this
          omega)
        clear hx
        go_wp2
        go_ret
        exact ⟨false, rfl, ⟨nofun, fun h => (HX.out h).elim⟩, HB3.out⟩
      obtain ⟨W, rfl⟩ := Int.eq_ofNat_of_zero_le (show 0 ≤ x by omega)
      have hW24 : W ≤ 24 := by omega
      have t2 : decide ((W : Int) < 0) = false := decide_eq_false (by omega)
      have t3 : decide ((24 : Int) < (W : Int)) = false := decide_eq_false (by omega)
      have hsl := slice_block w.heap.size 13 ((m : Int) * 4) (((m : Int) + 1) * 4) (m * 4) (m * 4 + 4) (by omega) (by omega) (by omega) (by omega) (by omega)
      rw [show m * 4 + 4 - m * 4 = 4 by omega] at hsl
      clear hx hx1 hx2
      go_wp2
      go_loop [43] (fun i => ∃ k : Nat, k ≤ 4 ∧ i = .int .i64 k ∧ ∀ j, j < m * 4 + k → (widthZ (bgt q j) : Int) ≤ bgt wd (j / 4)) (fun i => 4 - (intOf i).toNat)
      case atStart => exact ⟨0, by omega, rfl, fun j hj => Hw2.out j (by omega)⟩
      case round =>
        obtain ⟨k, hk, rfl, hq1⟩ := hrel
        have Hq1 := Lib.hid hq1
        clear hq1
        by_cases hkk : k < 4
        · have t4 : (k : Int) < 4 := by omega
          obtain ⟨y, hy⟩ := list_get (k := m * 4 + k) Hql.out (by omega)
          have ce := Q4.out _ _ (HCq.out _ _ hy)
          rw [← Nat.add_assoc] at ce
          have Hy := Lib.hid (bgt_get hy)
          have HF := Lib.hid (fun V => Fits_any y W V (by omega))
          have Hiff := Lib.hid (fitsZ_iff (v := y) (k := W))
          obtain ⟨bf, hbf⟩ : ∃ bf, fitsZ y W = bf := ⟨_, rfl⟩
          rw [hbf] at HF Hiff
          clear hy hbf
          cases bf
          · have HX := Lib.hid (show ¬ PF from fun h => by
              have h1 := Hno5.out h (m * 4 + k) (by omega)
              rw [Hy.out, show (m * 4 + k) / 4 = m by omega, Hx.out] at h1
              cases Hiff.out.2 (by omega))
            clear Hiff
            go_wp2_with (go_at_call 94; refine (HF.out _).mono ?_; rintro e w5 ⟨rfl, rfl⟩)
            go_ret
            exact ⟨false, rfl, ⟨nofun, fun h => (HX.out h).elim⟩, HB3.out⟩
          · have Hok := Lib.hid (Hiff.out.1 rfl)
            clear Hiff
            go_wp2_with (go_at_call 94; refine (HF.out _).mono ?_; rintro e w5 ⟨rfl, rfl⟩)
            go_round
            case rel =>
              refine ⟨k + 1, by omega, by go_num, fun j hj => ?_⟩
              by_cases hjk : j = m * 4 + k
              · subst hjk
                rw [Hy.out, show (m * 4 + k) / 4 = m by omega, Hx.out]
                have := Hok.out
                omega
              · exact Hq1.out j (by omega)
            case measure => simp [intOf]; omega
        · have hk4 : k = 4 := by omega
          subst hk4
          have t4 : ¬ (((4 : Nat) : Int) < 4) := by omega
          go_wp2
          go_round
          case rel =>
            refine ⟨m + 1, by omega, by go_num, fun i hi => ?_, fun j hj => Hq1.out j (by omega)⟩
            by_cases him : i = m
            · subst him; rw [Hx.out]; omega
            · exact Hw1.out i (by omega)
          case measure => simp [intOf]; omega
    · have hm4 : m = 4 := by omega
      subst hm4
      have t1 : ¬ (((4 : Nat) : Int) < 4) := by omega
      have HY := Lib.hid (Hy3.out Hw1.out (fun k hk => Hw2.out k (by omega)))
      go_wp2
      go_ret
      exact ⟨true, rfl, ⟨fun _ => HY.out, fun _ => rfl⟩, HB3.out⟩
end Go.Proofs.YtoagdidkadfekaaGreatDoor
