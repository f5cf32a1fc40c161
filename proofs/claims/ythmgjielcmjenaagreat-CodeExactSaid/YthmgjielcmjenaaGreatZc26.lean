/- FitD. Conditions: as each theorem states. -/
import Derived.Test.YthmgjielcmjenaaGreatZc21

namespace Go.Proofs.YthmgjielcmjenaaGreat
open Go.RowKit

theorem nextTo_step (w s m : List Int) (k : Nat) : nextTo w s m (k + 1) = if 0 < bgt w k ∧ bgt s k < 23 ∧ (nextTo w s m k < 0 ∨ bgt m (nextTo w s m k).toNat - bgt s (nextTo w s m k).toNat < bgt m k - bgt s k) then (k : Int) else nextTo w s m k := rfl
def Mid (l : List Int) : Prop := ∀ (k : Nat) (x : Int), l[k]? = some x → -1000000000 ≤ x ∧ x ≤ 1000000000

set_option maxRecDepth 100000 in
set_option maxHeartbeats 4000000 in
theorem next_any (f : FrameV) (tv : Value) (mk : List Int) (w : World) (h : f.Len) (hm : mk.length = 4) (hs : ScB f.scale) (hw : ∀ (k : Nat) (x : Int), f.width[k]? = some x → 0 ≤ x) (hmid : Mid mk) :
    Calls Tryz.prog 75 #[.agg (frameA f tv), blockV mk] w fun e w' => e = .returned (.int .i64 (nextTo f.width f.scale mk 4)) ∧ Below w.heap.size w w' := by
  obtain ⟨g, ts, s, wd, q⟩ := f
  have HS := Lib.hid (fun (j : Nat) (x : Int) (hx : s[j]? = some x) => frameA_scale h tv (f := ⟨g, ts, s, wd, q⟩) (j := j) (v := .int .i64 x) (by rw [List.getElem?_map]; show Option.map _ s[j]? = _; rw [hx]; rfl))
  have HWp := Lib.hid (fun (j : Nat) (v : Value) (hv : (wd.map (Value.int .i64))[j]? = some v) => frameA_width h tv (f := ⟨g, ts, s, wd, q⟩) hv)
  obtain ⟨_, hls, hlw, _⟩ := h
  simp only at hls hlw hs hw ⊢
  have HL := Lib.hid hls
  have HLw := Lib.hid hlw
  have HLm := Lib.hid hm
  have Hs := Lib.hid hs
  have Hw := Lib.hid hw
  have Hmid := Lib.hid hmid
  have HF4 := Lib.hid (show (Tryz.prog.info? 37).map (·.size) = some (wd.map (Value.int .i64)).length by rw [List.length_map, hlw]; exact inf_four)
  unfold blockV
  have HCm := Lib.hid (fun (k : Nat) (x : Int) (h : mk[k]? = some x) => blk_get h)
  have HCw := Lib.hid (fun (k : Nat) (x : Int) (h : wd[k]? = some x) => blk_get h)
  generalize (mk.map (Value.int .i64)).toArray = mv at *
  generalize hwv : wd.map (Value.int .i64) = wv at *
  generalize frameA ⟨g, ts, s, wd, q⟩ tv = fc at *
  have H2 := Lib.hid (heap2 w (.cells fc 42) (.cells mv 37))
  clear hls hlw hm hs hw hmid hwv
  have HP := Lib.hid (fun j v (hv : wv[j]? = some v) => (show ((w.alloc (.cells fc 42)).alloc (.cells mv 37)).cell? ⟨w.heap.size, 9 + j, none⟩ = some v by
    rw [cell_of_row _ _ _ fc 42 (0, 0) H2.out.1]; exact HWp.out j v hv))
  go_enter Tryz.func75, Tryz.ntmps75
  go_wp2_with (refine wpList_load_part_w rfl 37 (.tmp 8) rfl w.heap.size 9 rfl wv _ HP.out Tryz.underlying37 rfl HF4.out ?_)
  go_loopw [5, 10] (fun b i wr => ∃ (m : Nat), m ≤ 4 ∧ i = .int .i64 m ∧ b = .int .i64 (nextTo wd s mk m) ∧ wr.heap[w.heap.size]? = some (.cells fc 42 (0, 0)) ∧ wr.heap[w.heap.size + 1]? = some (.cells mv 37 (0, 0)) ∧ Below w.heap.size w wr) (fun _ i _ => 4 - (intOf i).toNat)
  case atStart => exact ⟨0, by omega, rfl, rfl, H2.out.1, H2.out.2.1, H2.out.2.2.2⟩
  case round =>
    obtain ⟨m, hm4, rfl, rfl, hF, hM, hbel⟩ := hrel
    have HFr := Lib.hid hF
    have HMr := Lib.hid hM
    have Hbel := Lib.hid hbel
    have hbd := nextTo_bd wd s mk m
    have HN := Lib.hid (nextTo_step wd s mk m)
    obtain ⟨B, hBB⟩ : ∃ B, nextTo wd s mk m = B := ⟨_, rfl⟩
    rw [hBB] at hbd HN ⊢
    have HBB := Lib.hid hBB
    clear hF hM hbel H2 HP hBB
    by_cases hlt : m < 4
    · have t1 : (m : Int) < 4 := by omega
      obtain ⟨W, hW⟩ := list_get (k := m) HLw.out hlt
      obtain ⟨S, hS⟩ := list_get (k := m) HL.out hlt
      obtain ⟨M, hMk⟩ := list_get (k := m) HLm.out hlt
      have hW0 := Hw.out m W hW
      have hSb := Hs.out.2 m hlt
      have hMb := Hmid.out m M hMk
      have hcS := HS.out _ _ hS
      have hcM := HCm.out m M hMk
      have hix := run_index_arr (P := Tryz.prog) Tryz.underlying37 hlt (fun W => by kernel_rfl) (fun W => by kernel_rfl) (HCw.out m W hW)
      rw [bgt_get hS] at hSb
      rw [bgt_get hW, bgt_get hS, bgt_get hMk] at HN
      have hx5 := gw_cells HFr.out
      have hcell : ∀ j, wr.cell? ⟨w.heap.size, j, none⟩ = fc[j]? := fun j => cell_of_row wr w.heap.size j fc 42 (0, 0) HFr.out
      have hcs : wr.cell? ⟨w.heap.size, 5 + m, none⟩ = some (.int .i64 S) := (hcell _).trans hcS
      clear hW hS hMk hcell
      by_cases h0 : W = 0
      · have e0 : (W == 0) = true := beq_iff_eq.2 h0
        have HK := Lib.hid (show nextTo wd s mk (m + 1) = B by rw [HN.out, if_neg (by omega)])
        have H0 := Lib.hid h0
        clear h0 hx5
        go_wp2
        go_roundw
        case rel => exact ⟨m + 1, by omega, by go_num, val_int HK.out.symm, HFr.out, HMr.out, Hbel.out⟩
        case measure => simp [intOf]; omega
      · have e0 : (W == 0) = false := beq_eq_false_iff_ne.2 h0
        by_cases h1 : 23 ≤ S
        · have e1 : decide (23 ≤ S) = true := decide_eq_true h1
          have HK := Lib.hid (show nextTo wd s mk (m + 1) = B by rw [HN.out, if_neg (by omega)])
          have H0 := Lib.hid h0
          clear h0 hx5
          go_wp2
          go_roundw
          case rel => exact ⟨m + 1, by omega, by go_num, val_int HK.out.symm, HFr.out, HMr.out, Hbel.out⟩
          case measure => simp [intOf]; omega
        · have e1 : decide (23 ≤ S) = false := decide_eq_false h1
          have hw1 : IntKind.i64.wrap (M - S) = M - S := IntWalk.i64_in _ (by omega)
          have hy5 := gw_cells HMr.out
          by_cases h2 : B < 0
          · have e2 : decide (B < 0) = true := decide_eq_true h2
            have HK := Lib.hid (show nextTo wd s mk (m + 1) = (m : Int) by rw [HN.out, if_pos ⟨by omega, by omega, .inl h2⟩])
            have H0 := Lib.hid h0
            clear h0
            go_wp2
            refine wp_region_calm (by kernel_rfl) (by kernel_rfl) ?_
            repeat (go_big_quiet_step (fail))
            refine wpQuiet_nil ?_
            intro w5 hw'
            have hb5 := gw_below hw'
            have F5 := Lib.hid (hkeep HFr.out hb5)
            have M5 := Lib.hid (hkeep HMr.out hb5)
            have B5 := Lib.hid (bnext Hbel.out hb5)
            clear hw' hb5 hx5 hy5
            go_wp2
            go_roundw
            case rel => exact ⟨m + 1, by omega, by go_num, val_int HK.out.symm, F5.out, M5.out, B5.out⟩
            case measure => simp [intOf]; omega
          · obtain ⟨b, hb⟩ := Int.eq_ofNat_of_zero_le (show 0 ≤ B by omega)
            subst hb
            have hb4 : b < 4 := by omega
            obtain ⟨Sb, hSb2⟩ := list_get (k := b) HL.out hb4
            obtain ⟨Mb, hMb2⟩ := list_get (k := b) HLm.out hb4
            have hSbb := Hs.out.2 b hb4
            rw [bgt_get hSb2] at hSbb
            have hMbb := Hmid.out b Mb hMb2
            have hcSb := HS.out _ _ hSb2
            have hcMb := HCm.out b Mb hMb2
            have hw2 : IntKind.i64.wrap (Mb - Sb) = Mb - Sb := IntWalk.i64_in _ (by omega)
            have e2 : decide ((b : Int) < 0) = false := decide_eq_false h2
            have tb : (b : Int) < 4 := by omega
            rw [Int.toNat_natCast, bgt_get hSb2, bgt_get hMb2] at HN
            have H0 := Lib.hid (show 0 < W by omega)
            clear h0 hSb2 hMb2
            by_cases h3 : Mb - Sb < M - S
            · have HK := Lib.hid (show nextTo wd s mk (m + 1) = (m : Int) by rw [HN.out, if_pos ⟨H0.out, by omega, .inr h3⟩])
              have e3 : decide (Mb - Sb < M - S) = true := decide_eq_true h3
              go_wp2
              refine wp_region_calm (by kernel_rfl) (by kernel_rfl) ?_
              repeat (go_big_quiet_step (fail))
              refine wpQuiet_nil ?_
              intro w5 hw'
              have hb5 := gw_below hw'
              have F5 := Lib.hid (hkeep HFr.out hb5)
              have M5 := Lib.hid (hkeep HMr.out hb5)
              have B5 := Lib.hid (bnext Hbel.out hb5)
              clear hw' hb5 hx5 hy5
              go_wp2
              go_roundw
              case rel => exact ⟨m + 1, by omega, by go_num, val_int HK.out.symm, F5.out, M5.out, B5.out⟩
              case measure => simp [intOf]; omega
            · have HK := Lib.hid (show nextTo wd s mk (m + 1) = (b : Int) by rw [HN.out, if_neg (fun hh => by rcases hh.2.2 with x | x; exact h2 x; exact h3 x)])
              have e3 : decide (Mb - Sb < M - S) = false := decide_eq_false h3
              go_wp2
              refine wp_region_calm (by kernel_rfl) (by kernel_rfl) ?_
              repeat (go_big_quiet_step (fail))
              refine wpQuiet_nil ?_
              intro w5 hw'
              have hb5 := gw_below hw'
              have F5 := Lib.hid (hkeep HFr.out hb5)
              have M5 := Lib.hid (hkeep HMr.out hb5)
              have B5 := Lib.hid (bnext Hbel.out hb5)
              clear hw' hb5 hx5 hy5
              go_wp2
              go_roundw
              case rel => exact ⟨m + 1, by omega, by go_num, val_int HK.out.symm, F5.out, M5.out, B5.out⟩
              case measure => simp [intOf]; omega
    · have hm' : m = 4 := by omega
      subst hm'
      have t1 : ¬ (((4 : Nat) : Int) < 4) := by omega
      go_wp2
      go_ret
      exact ⟨ret_int HBB.out.symm, Hbel.out⟩
end Go.Proofs.YthmgjielcmjenaaGreat
