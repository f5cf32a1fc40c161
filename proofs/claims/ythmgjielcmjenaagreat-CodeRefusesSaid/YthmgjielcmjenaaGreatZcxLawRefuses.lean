/- LawRefuses. Conditions: as each theorem states. -/
import Derived.Test.YthmgjielcmjenaaGreatZc50
import Derived.Test.YthmgjielcmjenaaGreatZc46

namespace Go.Proofs.YthmgjielcmjenaaGreat
open Go.RowKit

theorem row_argc {w : World} {v : Value} (h : Arg w (.slice 1 (.int .i64)) v) : ∃ (l : List Int) (A : Option Addr) (cap : Nat), v = .slice A l.length cap ∧ l.length ≤ cap ∧ cap ≤ 9223372036854775807 ∧ I64s l ∧ Row w w.heap.size A (l.map (.int .i64)) := by
  obtain ⟨v', xs, hc, hi, h64⟩ := ints_of_shape h
  obtain ⟨a, cap, rfl, h1, h2, h3⟩ := hi
  have hv : v = .slice a xs.length cap := by simpa using hc
  exact ⟨xs, a, cap, hv, h1, h2, h64, h3⟩
theorem bytes_flat {w : World} : ∀ (css : List (List Value)), (∀ cs ∈ css, Shape w (.int .u8) cs) → ∃ (B : List Nat), B.length = css.length ∧ css.flatten = u8s B ∧ ∀ x ∈ B, x < 256
  | [], _ => ⟨[], rfl, rfl, nofun⟩
  | cs :: r, h => by
    obtain ⟨B, h1, h2, h3⟩ := bytes_flat r (fun c hc => h c (by simp [hc]))
    obtain ⟨n, rfl, h4, h5⟩ := h cs (by simp)
    have h4 : 0 ≤ n := h4
    have h5 : n ≤ 255 := h5
    obtain ⟨k, rfl⟩ := Int.eq_ofNat_of_zero_le h4
    refine ⟨k :: B, by simp [h1], by rw [List.flatten_cons, h2]; rfl, fun x hx => ?_⟩
    rcases List.mem_cons.1 hx with rfl | hx
    · omega
    · exact h3 x hx
theorem bytes_arg {w : World} {v : Value} (h : Arg w (.slice 1 (.int .u8)) v) : ∃ (B : List Nat) (A : Option Addr) (cap : Nat), v = .slice A B.length cap ∧ B.length ≤ cap ∧ cap ≤ 9223372036854775807 ∧ (∀ x ∈ B, x < 256) ∧ Row w w.heap.size A (u8s B) := by
  obtain ⟨a, len, cap, hv, h1, h2, _, h4⟩ := h
  obtain ⟨css, hl, _, hs, hrow⟩ := rows_of_shape h4
  obtain ⟨B, hB, hf, hb⟩ := bytes_flat css hs
  injection hv with hv
  subst hv
  rw [hf] at hrow
  exact ⟨B, a, cap, by rw [hB, hl], by omega, h2, hb, hrow⟩
theorem row_take {w : World} {W : Nat} {A : Option Addr} {xs : List Value} (h : Row w W A xs) (n : Nat) : Row w W A (xs.take n) := fun i v hv => by
  rw [List.getElem?_take] at hv
  split at hv
  · exact h i v hv
  · cases hv
/-- frames read, or the first error, told by a place -/
def ReadTo (W : World) (B : List Nat) (K : Nat) (e : Ending) (w' : World) : Prop := ∃ A' k c er m0, e = .returned (.tuple #[.slice A' k c, .int .i64 er]) ∧ Below W.heap.size W w' ∧ m0 ≤ K ∧ (∀ i, i < m0 → rdErr (chunk B 24 i) = 0) ∧ (m0 < K → k = 0 ∧ er = rdErr (chunk B 24 m0) ∧ er ≠ 0) ∧ (m0 = K → k = K ∧ er = 0)
theorem readTo_any (gc : Nat) (B : List Nat) (A : Option Addr) (c K : Nat) (w : World) (hg : CoderAt w gc 24) (hK : B.length = K * 24) (hn : B.length ≤ 1000000) (hb : ∀ x ∈ B, x < 256) (hr : Row w w.heap.size A (u8s B)) (hcap : B.length ≤ c) :
    Calls Tryz.prog 7 #[.pointer (some ⟨gc, 0, none⟩), .slice A B.length c] w (ReadTo w B K) := by
  rcases Nat.eq_zero_or_pos B.length with h0 | h0
  · rw [h0]
    refine (CRead_empty gc 24 A c w hg (by omega) (by omega)).mono fun e w' h => ?_
    exact ⟨none, 0, 0, 0, 0, h.1, h.2, by omega, fun i hi => by omega, fun h => by omega, fun h => ⟨h, rfl⟩⟩
  · have hdiv : B.length / 24 = K := by omega
    refine (CRead_any gc 24 B A c w hg (by omega) (by omega) h0 hn hb hr hcap (by omega)).mono fun e w' h => ?_
    rcases h with ⟨m, h1, h2, h3, h4, h5⟩ | ⟨h1, A', c', L, h2, h3, _, _, _, h6⟩
    · exact ⟨none, 0, 0, _, m, h4, h5, by omega, h2, fun _ => ⟨rfl, rfl, h3⟩, fun h => by omega⟩
    · rw [hdiv] at h1 h3
      have hL : L.length = K := by rw [← List.length_map, h3, List.length_map, List.length_range]
      exact ⟨A', _, c', 0, K, h2, h6, by omega, h1, fun h => by omega, fun _ => ⟨hL, rfl⟩⟩

set_option maxRecDepth 100000 in
set_option maxHeartbeats 16000000 in
theorem CodeRefuses_walk (l0 : List Int) (A : Option Addr) (cap : Nat) (B0 : List Nat) (Ab : Option Addr) (capb : Nat) (w : World) (hl : l0.length ≤ cap) (hc : cap ≤ 9223372036854775807) (hr0 : Row w w.heap.size A (l0.map (.int .i64)))
    (hlb : B0.length ≤ capb) (hcb : capb ≤ 9223372036854775807) (hb0 : ∀ x ∈ B0, x < 256) (hrb0 : Row w w.heap.size Ab (u8s B0)) :
    Calls Tryz.prog 3 #[.slice A l0.length cap, .slice Ab B0.length capb] w fun e w' => e = .returned (.bool true) ∧ Below w.heap.size w w' := by
  have HAw := Lib.hid (fun W => awake13_any W)
  have HNew := Lib.hid (fun W => codeNew_any 24 W (by omega) (by omega))
  obtain ⟨l, hll⟩ : ∃ l, l0.take 150 = l := ⟨_, rfl⟩
  obtain ⟨B, hBB⟩ : ∃ B, B0.take 500 = B := ⟨_, rfl⟩
  have Hr := Lib.hid (show Row w w.heap.size A (l.map (.int .i64)) by rw [← hll, List.map_take]; exact row_take hr0 150)
  have Hrb := Lib.hid (show Row w w.heap.size Ab (u8s B) by rw [← hBB, u8s_take]; exact row_take hrb0 500)
  have hb : ∀ x ∈ B, x < 256 := fun x hx => hb0 x (List.mem_of_mem_take (by rw [hBB]; exact hx))
  obtain ⟨n, hn⟩ : ∃ n, l.length = n := ⟨_, rfl⟩
  obtain ⟨N, hN⟩ : ∃ N, B.length = N := ⟨_, rfl⟩
  have hn1 : n = min 150 l0.length := by rw [← hn, ← hll, List.length_take]
  have hN1 : N = min 500 B0.length := by rw [← hN, ← hBB, List.length_take]
  generalize l0.length = n0 at *
  generalize B0.length = N0 at *
  clear hr0 hrb0 hb0 hll hBB
  have Hn1 := Lib.hid hn1
  have HN1 := Lib.hid hN1
  clear hn1 hN1
  go_enter Tryz.func3, Tryz.ntmps3
  go_upto_if 25 with fail
  go_cut [0] (fun s0 wc => s0 = .slice A n cap ∧ w = wc)
  case first =>
    by_cases h : 150 < n0
    · have t1 : (150 : Int) < (n0 : Int) := by omega
      have t2 : (150 : Int) ≤ (cap : Int) := by omega
      have e := Hn1.out
      rw [Nat.min_eq_left (by omega)] at e
      subst e
      go_wp2
      go_meet
      case rel => exact ⟨rfl, rfl⟩
    · have t1 : ¬ (150 : Int) < (n0 : Int) := by omega
      have e := Hn1.out
      rw [Nat.min_eq_right (by omega)] at e
      subst e
      go_wp2
      go_meet
      case rel => exact ⟨rfl, rfl⟩
  case rest =>
    obtain ⟨rfl, rfl⟩ := hcut
    go_upto_if 30 with fail
    go_cut [1] (fun s1 wc => s1 = .slice Ab N capb ∧ w = wc)
    case first =>
      by_cases h : 500 < N0
      · have t1 : (500 : Int) < (N0 : Int) := by omega
        have t2 : (500 : Int) ≤ (capb : Int) := by omega
        have e := HN1.out
        rw [Nat.min_eq_left (by omega)] at e
        subst e
        go_wp2
        go_meet
        case rel => exact ⟨rfl, rfl⟩
      · have t1 : ¬ (500 : Int) < (N0 : Int) := by omega
        have e := HN1.out
        rw [Nat.min_eq_right (by omega)] at e
        subst e
        go_wp2
        go_meet
        case rel => exact ⟨rfl, rfl⟩
    case rest =>
      obtain ⟨rfl, rfl⟩ := hcut
      have hn150 : n ≤ 150 := by have := Hn1.out; omega
      have hN500 : N ≤ 500 := by have := HN1.out; omega
      have hNc : N ≤ capb := by have := HN1.out; omega
      clear Hn1 HN1
      go_wp2_with (go_at_call 5; fail)
      refine (HNew.out _).mono ?_
      rintro e w2 ⟨gc, rfl, _, hg, hb2⟩
      have C2 := Lib.hid hg
      have R2 := Lib.hid (Hr.out.later hb2)
      have B2 := Lib.hid (Hrb.out.later hb2)
      have E2 := Lib.hid hb2
      have HnL := Lib.hid hn
      clear hg hb2 Hr Hrb hn
      go_wp2_with fail
      go_loop [7, 8] (fun r i => ∃ m : Nat, m ≤ n ∧ i = .int .i64 m ∧ r = .bool ((l.take m).all in16)) (fun _ i => n - (intOf i).toNat)
      case atStart => exact ⟨0, by omega, rfl, rfl⟩
      case round =>
        obtain ⟨m, hm, rfl, rfl⟩ := hrel
        by_cases hlk : m < n
        · have t1 : (m : Int) < (n : Int) := by omega
          have t2 : (0 : Int) ≤ (m : Int) := by omega
          obtain ⟨x, hx⟩ := list_get (k := m) HnL.out hlk
          obtain ⟨b, off, rfl, _, k0⟩ := R2.out m (.int .i64 x) (by rw [List.getElem?_map, hx]; rfl)
          have HS := Lib.hid (show (l.take (m + 1)).all in16 = ((l.take m).all in16 && in16 x) by
            obtain ⟨hm', he⟩ := List.getElem?_eq_some_iff.1 hx
            rw [List.take_succ_eq_append_getElem hm', he]
            simp [List.all_append])
          generalize (l.take m).all in16 = b0 at *
          have hcs : (decide (-32768 ≤ x) = true ∧ decide (x ≤ 32767) = true ∧ in16 x = true) ∨ (decide (-32768 ≤ x) = false ∧ in16 x = false) ∨ (decide (-32768 ≤ x) = true ∧ decide (x ≤ 32767) = false ∧ in16 x = false) := by
            unfold in16
            by_cases h1 : -32768 ≤ x
            · by_cases h2 : x ≤ 32767
              · exact .inl ⟨decide_eq_true h1, decide_eq_true h2, by rw [decide_eq_true h1, decide_eq_true (show x < 32768 by omega)]; rfl⟩
              · exact .inr (.inr ⟨decide_eq_true h1, decide_eq_false h2, by rw [decide_eq_true h1, decide_eq_false (show ¬ x < 32768 by omega)]; rfl⟩)
            · exact .inr (.inl ⟨decide_eq_false h1, by rw [decide_eq_false h1]; rfl⟩)
          clear hx
          cases b0
          · go_wp2
            go_round
            case rel => exact ⟨m + 1, by omega, by go_num, by rw [HS.out]; rfl⟩
            case measure => simp [intOf]; omega
          · rcases hcs with ⟨e1, e2, e3⟩ | ⟨e1, e3⟩ | ⟨e1, e2, e3⟩
            all_goals
              have H3 := Lib.hid e3
              clear e3
              go_wp2
              go_round
              case rel => exact ⟨m + 1, by omega, by go_num, by rw [HS.out, H3.out]; rfl⟩
              case measure => simp [intOf]; omega
        · have hmn : m = n := by omega
          have t1 : ¬ ((m : Int) < (n : Int)) := by omega
          have htk : l.take m = l := List.take_of_length_le (by rw [HnL.out]; omega)
          rw [htk]
          subst hmn
          obtain ⟨R, hR⟩ : ∃ R, l.all in16 = R := ⟨_, rfl⟩
          have HFrames : Hid (∀ W, CoderAt W gc 24 → Row W W.heap.size A (l.map (.int .i64)) → Calls Tryz.prog 6 #[.pointer (some ⟨gc, 0, none⟩), .slice A m cap] W fun e w' => ∃ A' k c er, e = .returned (.tuple #[.slice A' k c, .int .i64 er]) ∧ Below W.heap.size W w' ∧ (R = true → er = 0) ∧ (R = false → k = 0 ∧ er = 5)) := Lib.hid (fun W h1 h2 => by
            cases R
            · have := Frames_range gc l A cap W (by rw [HnL.out]; omega) h2 hR
              rw [HnL.out] at this
              exact this.mono fun e w' h => ⟨none, 0, 0, 5, h.1, h.2 ▸ Below.refl _ _, nofun, fun _ => ⟨rfl, rfl⟩⟩
            · have := Frames_any gc 24 l A cap W h1 (by omega) (by omega) (by rw [HnL.out]; omega) h2 (fun x hx => by
                have := List.all_eq_true.1 hR x hx
                unfold in16 at this
                simp only [Bool.and_eq_true, decide_eq_true_eq] at this
                omega)
              rw [HnL.out] at this
              exact this.mono fun e w' h => by
                obtain ⟨A', c, L, h1, _, _, _, _, h6⟩ := h
                exact ⟨A', _, c, 0, h1, h6, fun _ => rfl, nofun⟩)
          rw [hR]
          clear htk hR
          go_wp2_with (go_at_call 6; fail)
          refine (HFrames.out _ C2.out R2.out).mono ?_
          rintro e w3 ⟨A3, k3, c3, er3, rfl, hb3, hy, hno⟩
          have C3 := Lib.hid (show CoderAt w3 gc 24 from hkeep C2.out hb3)
          have B3 := Lib.hid (B2.out.later hb3)
          have E3 := Lib.hid (bnext E2.out hb3)
          have Hy := Lib.hid hy
          have Hno := Lib.hid hno
          clear hb3 hy hno C2 R2 B2 E2 HFrames
          go_upto_region 14 with fail
          go_cut [87] (fun s87 wc => s87 = .bool false ∧ w3 = wc)
          case first =>
            cases R
            · obtain ⟨h1, h2⟩ := Hno.out rfl
              subst h1 h2
              go_wp2
              go_meet
              case rel => exact ⟨rfl, rfl⟩
            · have h2 := Hy.out rfl
              subst h2
              go_wp2
              go_meet
              case rel => exact ⟨rfl, rfl⟩
          case rest =>
            obtain ⟨rfl, rfl⟩ := hcut
            have HFn := Lib.hid (fun W => Frames_nil A m cap W)
            have HBn := Lib.hid (fun W => CBytes_nil W)
            have HRn := Lib.hid (fun W => CRead_nil Ab N capb W)
            have HSn := Lib.hid (fun W => Size_nil W)
            have HSa := Lib.hid (fun W => Samples_nil none 0 0 3 W)
            by_cases hmod : N % 24 = 0
            · obtain ⟨K, hK⟩ : ∃ K, N = K * 24 := ⟨N / 24, by omega⟩
              have HRT := Lib.hid (show Calls Tryz.prog 7 #[.pointer (some ⟨gc, 0, none⟩), .slice Ab N capb] w3 (ReadTo w3 B K) from by
                have := readTo_any gc B Ab capb K w3 C3.out (by rw [hN]; exact hK) (by omega) hb B3.out (by omega)
                rwa [hN] at this)
              have HFr := Lib.hid (fun q (hq : q < K) W (hW : Below w3.heap.size w3 W) => (show ∃ bb off, Ab = some ⟨bb, off, none⟩ ∧ Calls Tryz.prog 12 #[.slice (some ⟨bb, off + q * 24, none⟩) 24 (capb - q * 24)] W (FitPost W (rdF (chunk B 24 q)) (rdErr (chunk B 24 q))) from by
                have hl := chunk_len (B := B) (size := 24) (i := q) (by omega)
                obtain ⟨x, hx⟩ := list_get (k := 0) (b := B) rfl (by omega)
                obtain ⟨bb, off, ha, _, _⟩ := B3.out 0 _ (u8s_get hx)
                refine ⟨bb, off, ha, ?_⟩
                have hr3 := B3.out
                rw [ha] at hr3
                have h2 : chunk B 24 q = (B.drop (q * 24)).take 24 := rfl
                have := FRead_any (chunk B 24 q) (some ⟨bb, off + q * 24, none⟩) (capb - q * 24) W (by omega) (by omega) (chunk_mem hb) (by
                  rw [h2, u8s_take, u8s_drop]
                  exact (hr3.later hW).cut (q * 24) 24)
                rw [hl] at this
                exact this))
              have HFl := Lib.hid (fun q => rdF_len (chunk B 24 q))
              unfold ReadTo at HRT
              have q1 : (N : Int) % 24 = 0 := by omega
              have q2 : (N : Int) / 24 = (K : Int) := by omega
              have HK := Lib.hid hK
              clear hmod hb C3 B3 hN HnL hK
              go_wp2_with (go_at_call 7; fail)
              refine HRT.out.mono ?_
              rintro e w4 ⟨A4, k4, c4, er, m0, rfl, hb4, hm0, hall, hlt, heq⟩
              have E4 := Lib.hid (bnext E3.out hb4)
              have F4 := Lib.hid hb4
              have Hall := Lib.hid hall
              have Hlt := Lib.hid hlt
              have Heq := Lib.hid heq
              clear hb4 hall hlt heq HRT E3
              go_wp2_with (first | (go_at_call 6; refine (HFn.out _).mono ?_; rintro e w5 ⟨rfl, rfl⟩) | (go_at_call 8; refine (HBn.out _).mono ?_; rintro e w5 ⟨rfl, rfl⟩) | (go_at_call 7; refine (HRn.out _).mono ?_; rintro e w5 ⟨rfl, rfl⟩) | (go_at_call 9; refine (HSn.out _).mono ?_; rintro e w5 ⟨rfl, rfl⟩) | (go_at_call 10; refine (HSa.out _).mono ?_; rintro e w5 ⟨rfl, rfl⟩))
              clear q1
              go_loopw [20] (fun i wr => ∃ q : Nat, q ≤ m0 ∧ i = .int .i64 q ∧ Below w4.heap.size w4 wr) (fun i _ => K - (intOf i).toNat)
              case atStart => exact ⟨0, by omega, rfl, Below.refl _ _⟩
              case round =>
                obtain ⟨q, hq, rfl, hbel⟩ := hrel
                have Hbel := Lib.hid hbel
                clear hbel
                by_cases hlk : q < K
                · have t1 : (q : Int) < (K : Int) := by omega
                  obtain ⟨bb, off, rfl, HRq⟩ := HFr.out q hlk wr (bnext F4.out Hbel.out)
                  have HRq := Lib.hid HRq
                  have HL := HFl.out q
                  obtain ⟨s, hs⟩ : ∃ s, q * 24 = s := ⟨_, rfl⟩
                  have hy0 : (24 : Int) * (q : Int) = (s : Int) := by omega
                  have hsN : s + 24 ≤ N := by have := HK.out; omega
                  have hy1 : (0 : Int) ≤ (s : Int) := by omega
                  have hy2 : (s : Int) ≤ (s : Int) + 24 := by omega
                  have hy3 : (s : Int) + 24 ≤ (capb : Int) := by omega
                  have hy4 : ¬ (capb = s) := by omega
                  rw [hs] at HRq
                  have hcs : (rdErr (chunk B 24 q) = 0 ∧ q < m0) ∨ (rdErr (chunk B 24 q) ≠ 0 ∧ er = rdErr (chunk B 24 q) ∧ k4 = 0) := by
                    by_cases h : q < m0
                    · exact .inl ⟨Hall.out q h, h⟩
                    · have hqm : q = m0 := by omega
                      subst hqm
                      obtain ⟨h1, h2, h3⟩ := Hlt.out hlk
                      exact .inr ⟨by rw [← h2]; exact h3, h2, h1⟩
                  generalize rdF (chunk B 24 q) = F at *
                  generalize rdErr (chunk B 24 q) = e0 at *
                  clear hs
                  go_wp2_with (go_at_call 12; fail)
                  refine HRq.out.mono ?_
                  rintro e w6 ⟨Af, cf, rfl, htl, hcf, hfr, hrow, hb6⟩
                  have E6 := Lib.hid (bnext Hbel.out hb6)
                  have hfs : (frameA F (.slice Af F.tones.length cf)).size = 29 := frameA_size HL _
                  have Hf1 := Lib.hid (frameA_one F (tv := .slice Af F.tones.length cf) rfl)
                  obtain ⟨fa, hfa⟩ : ∃ fa, frameA F (.slice Af F.tones.length cf) = fa := ⟨_, rfl⟩
                  rw [hfa] at hfs Hf1 ⊢
                  have Hfs := Lib.hid hfs
                  have HFf := Lib.hid (show (Tryz.prog.info? 42).map (·.size) = some fa.size by rw [hfs]; exact inf_frame)
                  have E7 := Lib.hid (bnext E6.out (bnew w6 (.cells fa 42)))
                  have Hcs := Lib.hid hcs
                  clear htl hcf hfr hrow hb6 hfs hfa HL HRq hcs
                  rcases Hcs.out with ⟨h1, h2⟩ | ⟨h1, h2, h3⟩
                  · subst h1
                    have t5 : ((0 : Int) != 0) = false := rfl
                    go_wp2_with (refine wpList_store_row_w rfl 42 (.tmp 21) (.tmp 162) rfl w6.heap.size rfl _ _ fa rfl (heap_alloc_new w6 _) HFf.out (by rw [Hfs.out]; rfl) Hf1.out ?_; rw [World.setRow_alloc_new])
                    go_roundw
                    case rel => exact ⟨q + 1, by omega, by go_num, E7.out⟩
                    case measure => simp [intOf]; omega
                  · have t5 : (e0 != 0) = true := by simp [h1]
                    subst h2 h3
                    clear h1
                    go_wp2_with (first | (refine wpList_store_row_w rfl 42 (.tmp 21) (.tmp 162) rfl w6.heap.size rfl _ _ fa rfl (heap_alloc_new w6 _) HFf.out (by rw [Hfs.out]; rfl) Hf1.out ?_; rw [World.setRow_alloc_new]) | (go_at_call 11; refine (HAw.out _).mono ?_; rintro e w9 ⟨rfl, hb9⟩))
                    go_ret
                    exact ⟨rfl, bnext E4.out (bnext E7.out hb9)⟩
                · have hqK : q = K := by omega
                  have hm0K : m0 = K := by omega
                  have t1 : ¬ ((q : Int) < (K : Int)) := by omega
                  obtain ⟨h1, h2⟩ := Heq.out hm0K
                  subst h1 h2
                  go_wp2_with (go_at_call 11; refine (HAw.out _).mono ?_; rintro e w9 ⟨rfl, hb9⟩)
                  go_ret
                  exact ⟨rfl, bnext E4.out (bnext Hbel.out hb9)⟩
            · obtain ⟨r, hr⟩ : ∃ r, N % 24 = r := ⟨_, rfl⟩
              have HRo := Lib.hid (CRead_odd gc 24 Ab N capb w3 C3.out (by omega) (by omega) (by omega) hmod)
              have q1 : (N : Int) % 24 = (r : Int) := by omega
              have q2 : ((r : Int) != 0) = true := by simp; omega
              clear hmod hb C3 B3 hN HnL hr
              go_wp2_with (go_at_call 7; fail)
              refine HRo.out.mono ?_
              rintro e w4 ⟨rfl, hb4⟩
              have E4 := Lib.hid (bnext E3.out hb4)
              clear hb4 HRo E3
              go_wp2_with (first | (go_at_call 6; refine (HFn.out _).mono ?_; rintro e w5 ⟨rfl, rfl⟩) | (go_at_call 8; refine (HBn.out _).mono ?_; rintro e w5 ⟨rfl, rfl⟩) | (go_at_call 7; refine (HRn.out _).mono ?_; rintro e w5 ⟨rfl, rfl⟩) | (go_at_call 9; refine (HSn.out _).mono ?_; rintro e w5 ⟨rfl, rfl⟩) | (go_at_call 10; refine (HSa.out _).mono ?_; rintro e w5 ⟨rfl, rfl⟩) | (go_at_call 11; refine (HAw.out _).mono ?_; rintro e w9 ⟨rfl, hb9⟩))
              go_ret
              exact ⟨rfl, bnext E4.out hb9⟩
theorem CodeRefuses_law (W : World) (v0 v1 : Value) (a0 : Arg W (.slice 1 (.int .i64)) v0) (a1 : Arg W (.slice 1 (.int .u8)) v1) :
    Calls Tryz.prog 3 #[v0, v1] W fun e w' => e = .returned (.bool true) ∧ Below W.heap.size W w' := by
  obtain ⟨l, A, cap, rfl, h1, h2, _, h4⟩ := row_argc a0
  obtain ⟨B, Ab, capb, rfl, k1, k2, k3, k4⟩ := bytes_arg a1
  exact CodeRefuses_walk l A cap B Ab capb W h1 h2 h4 k1 k2 k3 k4
end Go.Proofs.YthmgjielcmjenaaGreat
