/- The walk of the law KitFinds; conditions: as each theorem states. -/
import Derived.Test.YthlidkdclhibpaaKitJ
namespace Go.Proofs.Ythlidkdclhibpaa
open Go.RowKit

theorem any_range_succ (p : Nat → Bool) (n : Nat) : (List.range (n + 1)).any p = ((List.range n).any p || p n) := by
  rw [List.range_succ, List.any_append]; simp
theorem any_range_more (p : Nat → Bool) (n m : Nat) (h : n ≤ m) (ht : (List.range n).any p = true) : (List.range m).any p = true := by
  rw [List.any_eq_true] at *
  obtain ⟨x, hx, hp⟩ := ht
  exact ⟨x, List.mem_range.2 (by have := List.mem_range.1 hx; omega), hp⟩
/-- does a key play something, struck in one of the first ways? -/
def playsTo (zs : List ZoneV) (key : Int) (m : Nat) : Bool := (List.range m).any fun h => decide (0 ≤ findZ key (((h + 1 : Nat) : Int)) zs)
theorem playsTo_succ (zs : List ZoneV) (key : Int) (m : Nat) (h : playsTo zs key m = false) : playsTo zs key (m + 1) = decide (0 ≤ findZ key ((m : Int) + 1) zs) := by
  unfold playsTo at *
  rw [any_range_succ, h, Bool.false_or]
  rw [show (((m + 1 : Nat) : Int)) = (m : Int) + 1 by omega]
theorem playsTo_end (zs : List ZoneV) (key : Int) (m : Nat) (hm : m ≤ 127) (h : m = 127 ∨ playsTo zs key m = true) : playsTo zs key m = playsZ zs key := by
  rcases h with rfl | h
  · rfl
  · rw [h]; exact (any_range_more _ m 127 hm h).symm
theorem preZ_at (zs : List ZoneV) (f t : Int) (k : Nat) (hk : k < 128) (hf : f ≤ (k : Int)) (ht : (k : Int) ≤ t) (hp : playsZ zs k = false) : (gapZ zs f t)[(preZ zs f t k).length]? = some (k : Int) := by
  obtain ⟨r, hr⟩ := preZ_prefix zs f t (k + 1) (127 - k)
  rw [gapZ_pre, show 128 = k + 1 + (127 - k) by omega, hr, preZ_succ]
  have h2 : decide (f ≤ (k : Int)) = true := decide_eq_true hf
  have h3 : decide ((k : Int) ≤ t) = true := decide_eq_true ht
  rw [h2, h3, hp]
  simp
theorem preZ_skip (zs : List ZoneV) (f t : Int) (k : Nat) (h : (k : Int) < f ∨ t < (k : Int) ∨ playsZ zs k = true) : preZ zs f t (k + 1) = preZ zs f t k := by
  rw [preZ_succ, if_neg]
  · simp
  · rcases h with h | h | h
    · simp; omega
    · simp; omega
    · simp [h]
theorem preZ_take (zs : List ZoneV) (f t : Int) (k : Nat) (hf : f ≤ (k : Int)) (ht : (k : Int) ≤ t) (hp : playsZ zs k = false) : (preZ zs f t (k + 1)).length = (preZ zs f t k).length + 1 := by
  have h2 : decide (f ≤ (k : Int)) = true := decide_eq_true hf
  have h3 : decide ((k : Int) ≤ t) = true := decide_eq_true ht
  rw [preZ_succ, h2, h3, hp]
  simp
theorem preZ_len (zs : List ZoneV) (f t : Int) : ∀ k, (preZ zs f t k).length ≤ k := by
  intro k
  unfold preZ
  have := List.length_filter_le (fun x => decide (f ≤ x) && decide (x ≤ t) && !playsZ zs x) ((List.range k).map fun (i : Nat) => (i : Int))
  simpa using this

set_option maxRecDepth 100000 in
set_option maxHeartbeats 4000000 in
theorem KitFinds_walk (l : List ZoneV) (A : Option Addr) (cap : Nat) (key hard f t : Int) (w : World) (hl : l.length ≤ 9223372036854775807) (hr : Row w w.heap.size A (zoneCells l)) :
    Calls Try.prog 7 #[.slice A l.length cap, .int .i64 key, .int .i64 hard, .int .i64 f, .int .i64 t] w fun e w' => e = .returned (.bool true) ∧ Below w.heap.size w w' := by
  have HM := Lib.hid (made_any l A cap w hl hr)
  go_enter Try.func7, Try.ntmps7
  go_wp2_with fail
  refine HM.out.mono ?_
  rintro e w1 ⟨g, A1, c1, rfl, hkit, hrow, h20, hb1⟩
  have Hkit := Lib.hid hkit
  have Hrow := Lib.hid hrow
  have Hb1 := Lib.hid hb1
  generalize madeZ l = zs at *
  clear hkit hrow hb1 HM hr
  obtain ⟨F, hF⟩ : ∃ F, findZ key hard zs = F := ⟨_, rfl⟩
  have HF := Lib.hid hF
  clear hF
  go_wp2_with fail
  refine (kitFind_nil _ _ _).mono ?_
  rintro e w2 ⟨rfl, hb2⟩
  have Hb2 := Lib.hid hb2
  clear hb2
  go_wp2_with fail
  refine (kitFind_any zs g key hard w2 (by omega) (Hkit.out.later Hb2.out)).mono ?_
  rw [HF.out]
  rintro e w3 ⟨rfl, hb3⟩
  have Hb3 := Lib.hid (bnext Hb2.out hb3)
  clear hb3
  go_wp2_with fail
  refine (lawfind_any zs A1 c1 key hard w3 (by omega) (Hrow.out.later Hb3.out)).mono ?_
  rw [HF.out]
  rintro e w' ⟨rfl, rfl⟩
  go_wp2_with fail
  refine (gap_any zs g f t w3 (by omega) (Hkit.out.later Hb3.out)).mono ?_
  rintro e w4 ⟨A4, c4, rfl, hlc, hc63, hrow4, hb4⟩
  have Hrow4 := Lib.hid hrow4
  have Hb4 := Lib.hid (bnext Hb1.out (bnext Hb3.out hb4))
  have Hz4 := Lib.hid (Hrow.out.later (bnext Hb3.out hb4))
  clear hrow4 hb4 Hb1 Hb2 Hb3 Hrow Hkit
  obtain ⟨N, hN⟩ : ∃ N, (gapZ zs f t).length = N := ⟨_, rfl⟩
  have hN128 : N ≤ 128 := by rw [← hN, gapZ_pre]; exact preZ_len _ _ _ _
  rw [hN] at hlc ⊢
  have HN := Lib.hid hN
  clear hN
  have HL := Lib.hid (fun (x h : Int) => lawfind_any zs A1 c1 x h w4 (by omega) Hz4.out)
  go_wp2_with fail
  go_loop [15, 16, 17, 18] (fun n x p h => ∃ k : Nat, k ≤ 128 ∧ x = .int .i64 k ∧ (preZ zs f t k).length ≤ k ∧ n = .int .i64 (preZ zs f t k).length) (fun n x p h => 128 - (intOf x).toNat)
  case atStart => exact ⟨0, by omega, rfl, by simp [preZ], rfl⟩
  case round =>
    obtain ⟨k, hk, rfl, hnk, rfl⟩ := hrel
    obtain ⟨n, hn⟩ : ∃ n, (preZ zs f t k).length = n := ⟨_, rfl⟩
    rw [hn] at hnk ⊢
    have Hn := Lib.hid hn
    clear hn
    by_cases hlt : k < 128
    · by_cases hs : (k : Int) < f ∨ t < (k : Int)
      · go_wp2
        all_goals first
          | (exfalso; omega)
          | (go_round
             case rel => exact ⟨k + 1, by omega, by go_num, by rw [preZ_skip zs f t k (by omega), Hn.out]; omega, by rw [preZ_skip zs f t k (by omega), Hn.out]⟩
             case measure => simp [intOf]; omega)
      · have h1 : f ≤ (k : Int) := by omega
        have h2 : (k : Int) ≤ t := by omega
        clear hs
        go_wp2_with fail
        go_loop [17, 18] (fun p h => ∃ m : Nat, m ≤ 127 ∧ h = .int .i64 ((m : Int) + 1) ∧ p = .bool (playsTo zs k m)) (fun p h => 128 - (intOf h).toNat)
        case atStart => exact ⟨0, by omega, rfl, rfl⟩
        case round =>
          obtain ⟨m, hm, rfl, rfl⟩ := hrel
          obtain ⟨P, hP⟩ : ∃ P, playsTo zs k m = P := ⟨_, rfl⟩
          rw [hP]
          have HP := Lib.hid hP
          clear hP
          by_cases hc : m < 127 ∧ P = false
          · obtain ⟨hm1, rfl⟩ := hc
            have hx : (m : Int) + 1 < 128 := by omega
            obtain ⟨V, hV⟩ : ∃ V, findZ k ((m : Int) + 1) zs = V := ⟨_, rfl⟩
            have HV := Lib.hid hV
            clear hV
            go_wp2_with (go_at_call 33; refine (HL.out _ _).mono ?_; rw [HV.out]; rintro e w' ⟨rfl, rfl⟩)
            go_round
            case rel => exact ⟨m + 1, by omega, by go_num, val_bool (by rw [playsTo_succ zs k m HP.out, HV.out])⟩
            case measure => simp [intOf]; omega
          · have HE := Lib.hid (show P = playsZ zs k by
              rw [← HP.out]
              refine playsTo_end zs k m hm ?_
              rw [HP.out]
              cases P
              · exact .inl (by simp at hc; omega)
              · exact .inr rfl)
            cases P
            · have hm2 : decide ((m : Int) + 1 < 128) = false := by simp at hc; simp; omega
              clear hc
              have HG := Lib.hid (preZ_at zs f t k hlt h1 h2 HE.out.symm)
              rw [Hn.out] at HG
              have hnN : n < N := by rw [← HN.out]; exact (List.getElem?_eq_some_iff.1 HG.out).1
              have hnd : decide (N ≤ n) = false := decide_eq_false (by omega)
              obtain ⟨b, off, rfl, hb, hc0⟩ := Hrow4.out n (.int .i64 k) (by rw [List.getElem?_map, HG.out]; rfl)
              go_wp2
              go_round
              case rel => exact ⟨k + 1, by omega, by go_num, by rw [preZ_take zs f t k h1 h2 HE.out.symm, Hn.out]; omega, by rw [preZ_take zs f t k h1 h2 HE.out.symm, Hn.out]; go_num⟩
              case measure => simp [intOf]; omega
            · clear hc
              rcases (show ((m : Int) + 1 < 128) ∨ decide ((m : Int) + 1 < 128) = false by by_cases h : (m : Int) + 1 < 128; exact .inl h; exact .inr (decide_eq_false h)) with hx | hx
              all_goals
               go_wp2
               go_round
               case rel => exact ⟨k + 1, by omega, by go_num, by rw [preZ_skip zs f t k (.inr (.inr HE.out.symm)), Hn.out]; omega, by rw [preZ_skip zs f t k (.inr (.inr HE.out.symm)), Hn.out]⟩
               case measure => simp [intOf]; omega
    · obtain rfl : k = 128 := by omega
      have hnN : n = N := by rw [← Hn.out, ← HN.out, gapZ_pre]
      have hd : ((n : Int) == (N : Int)) = true := beq_iff_eq.2 (by rw [hnN])
      have HnN := Lib.hid hnN
      clear hnN
      go_wp2_with (go_at_call 35; refine (awake38_any _).mono ?_; rintro e w5 ⟨rfl, hb5⟩)
      go_ret
      exact ⟨rfl, bnext Hb4.out hb5⟩
end Go.Proofs.Ythlidkdclhibpaa
