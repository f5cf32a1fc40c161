/- LawBP. Conditions: as each theorem states. -/
import Derived.Test.YtoagdidkadfekaaGreatDoorPexLayD
import Derived.Test.YtoagdidkadfekaaGreatDoorPexLayR
import Derived.Test.YtoagdidkadfekaaGreatDoorPe37

namespace Go.Proofs.YtoagdidkadfekaaGreatDoor
open Go.RowKit Go.Lib

theorem arg_bytes2 {w : World} {v : Value} (h : Arg w (.slice 1 (.int .u8)) v) : ∃ (B : List Nat) (A : Option Addr) (cap : Nat), v = .slice A B.length cap ∧ B.length ≤ cap ∧ cap ≤ 9223372036854775807 ∧ (A = none → cap = 0) ∧ (∀ x ∈ B, x < 256) ∧ Row w w.heap.size A (u8s B) := by
  obtain ⟨a, len, cap, hv, h1, h2, h3, h4⟩ := h
  obtain ⟨css, hl, _, hs, hrow⟩ := rows_of_shape h4
  obtain ⟨B, hB, hf, hb⟩ := flat_bytes css hs
  injection hv with hv
  subst hv
  rw [hf] at hrow
  exact ⟨B, a, cap, by rw [hB, hl], by omega, h2, fun h => (h3 h).2, hb, hrow⟩
/-- bytes turned into a text -/
theorem conv_row {w : World} {B b off n c : Nat} {xs : List Nat} (hn : xs.length = n) (h : Row w B (some ⟨b, off, none⟩) (u8s xs)) : (convert 24 9 (.slice (some ⟨b, off, none⟩) n c)).run Tryz.prog w = .ok (.string (strOfNums (xs.map fun (x : Nat) => (x : Int)))) w :=
  run_convert_bytes_arg (P := Tryz.prog) w 24 5 Tryz.underlying24 Tryz.underlying5 b off n c (xs.map fun (x : Nat) => (x : Int)) (by rw [List.length_map, hn]) (fun j hj => by
    have h1 : (u8s xs)[j]? = some (.int .u8 ((xs.getD j 0 : Nat) : Int)) := by
      rw [u8s_get (show xs[j]? = some (xs.getD j 0) by rw [List.getD_eq_getElem?_getD, List.getElem?_eq_getElem (by omega)]; rfl)]
    obtain ⟨b', o', hA, _, hc⟩ := h j _ h1
    injection hA with hA
    injection hA with e1 e2
    subst e1 e2
    have e : (xs.map fun (x : Nat) => (x : Int)).getD j 0 = ((xs.getD j 0 : Nat) : Int) := by
      rw [List.getD_eq_getElem?_getD, List.getElem?_map, List.getElem?_eq_getElem (by omega), List.getD_eq_getElem?_getD, List.getElem?_eq_getElem (by omega)]
      rfl
    rw [hc, e]) 9 Tryz.underlying9
/-- what parsing finds is short where the image is short -/
theorem parsed_short {bs : List Nat} {size : Nat} {D : List MetaV} (h : FitB bs size D) (hl : bs.length ≤ 4000) {x : MetaV} (hx : x ∈ D) : x.length ≤ 4000 ∧ framesN x ≤ 200 := by
  have h1 := h.lie x hx
  have h2 := right_bds (h.right x hx)
  have hfr := (genM_right (h.right x hx)).fr
  have h24 := Int.mul_le_mul_of_nonneg_right (show (24 : Int) ≤ (size : Int) by have := h.lo; omega) hfr.1
  have hF : framesN x = countZ x.length * x.channels := rfl
  obtain ⟨⟨l1, l2⟩, _, ⟨c1, c2⟩, _, _⟩ := h2
  have hc0 : 0 ≤ countZ x.length := by unfold countZ; split <;> omega
  have hc := Int.mul_le_mul_of_nonneg_left c1 hc0
  have hcl : x.length ≤ 16 * countZ x.length := by unfold countZ; split <;> omega
  rw [← hF] at hc
  omega
set_option maxRecDepth 100000 in
set_option maxHeartbeats 16000000 in
theorem BankParses_walk (B0 : List Nat) (A0 : Option Addr) (cap : Nat) (w : World) (hlb : B0.length ≤ cap) (hcm : cap ≤ 9223372036854775807) (hA : A0 = none → cap = 0) (hb0 : Byt B0) (hr0 : Row w w.heap.size A0 (u8s B0)) :
    Calls Tryz.prog 4 #[.slice A0 B0.length cap] w fun e w' => e = .returned (.bool true) ∧ Below w.heap.size w w' := by
  have HAw := Lib.hid (fun W => awake15_any W)
  obtain ⟨bs, hBB⟩ : ∃ B, B0.take 4000 = B := ⟨_, rfl⟩
  have hr := (show Row w w.heap.size A0 (u8s bs) by rw [← hBB, take_u8s]; exact take_row hr0 4000)
  have hb : Byt bs := fun x hx => hb0 x (List.mem_of_mem_take (by rw [hBB]; exact hx))
  obtain ⟨n, hn⟩ : ∃ n, bs.length = n := ⟨_, rfl⟩
  have hnb1 : n = min 4000 B0.length := by rw [← hn, ← hBB, List.length_take]
  have Hnb1 := Lib.hid hnb1
  have HPa := Lib.hid (fun W (hW : Below w.heap.size w W) => Parse_any bs A0 n cap W hn (by omega) hcm (by omega) hA (hr.later hW) hb)
  generalize B0.length = nb0 at *
  have Hr := Lib.hid hr
  have Hb := Lib.hid hb
  have Hn := Lib.hid hn
  have HA := Lib.hid hA
  have hn4 : n ≤ 4000 := by omega
  clear hr0 hb0 hBB hr hb hA hn hnb1
  go_enter Tryz.func4, Tryz.ntmps4
  go_upto_if 14 with fail
  go_cut [0] (fun s0 wc => s0 = .slice A0 n cap ∧ w = wc)
  case first =>
    by_cases h : 4000 < nb0
    · have t1 : (4000 : Int) < (nb0 : Int) := by omega
      have t2 : (4000 : Int) ≤ (cap : Int) := by omega
      have e := Hnb1.out
      rw [Nat.min_eq_left (by omega)] at e
      subst e
      go_wp2
      go_meet
      case rel => exact ⟨rfl, rfl⟩
    · have t1 : ¬ (4000 : Int) < (nb0 : Int) := by omega
      have e := Hnb1.out
      rw [Nat.min_eq_right (by omega)] at e
      subst e
      go_wp2
      go_meet
      case rel => exact ⟨rfl, rfl⟩
  case rest =>
    obtain ⟨rfl, rfl⟩ := hcut
    have hnc : n ≤ cap := by have := Hnb1.out; omega
    clear Hnb1 hlb
    go_wp2_with (go_at_call 17; fail)
    refine (HPa.out _ (Below.refl _ _)).mono ?_
    clear HPa
    rintro e w1 hpost
    have hb1 : Below w.heap.size w w1 := by
      rcases hpost with ⟨_, _, h⟩ | ⟨_, _, _, _, _, h⟩ <;> exact h
    have B1 := Lib.hid hb1
    obtain ⟨PV, rfl, hP0, hP1⟩ : ∃ PV, e = .returned (.tuple #[.pointer PV, .int .i64 (parseZ bs)]) ∧ (parseZ bs ≠ 0 → PV = none) ∧ (parseZ bs = 0 → ∃ g1, PV = some ⟨g1, 0, none⟩ ∧ BankAt w1 g1 bs (sizeZ bs) (dirZ bs (cntZ bs))) := by
      rcases hpost with ⟨h1, rfl, _⟩ | ⟨h1, g1, rfl, _, hB, _⟩
      · exact ⟨none, rfl, fun _ => rfl, fun h => absurd h h1⟩
      · exact ⟨some ⟨g1, 0, none⟩, by rw [h1], fun h => absurd h1 h, fun _ => ⟨g1, rfl, hB⟩⟩
    have HP0 := Lib.hid hP0
    have HP1 := Lib.hid hP1
    clear hb1 hpost hP0 hP1
    by_cases h20 : n < 20
    · have t1 : (n : Int) < 20 := by omega
      have hE := show parseZ bs = 2 from by unfold parseZ; rw [if_pos (by rw [Hn.out]; exact h20)]
      have hV := HP0.out (by rw [hE]; decide)
      subst hV
      rw [hE]
      clear hE
      go_wp2_with (go_at_call 11; refine (HAw.out _).mono ?_; rintro e w9 ⟨rfl, hb9⟩)
      go_ret
      exact ⟨rfl, bnext B1.out hb9⟩
    obtain ⟨y0, hy0⟩ := list_get (k := 0) Hn.out (by omega)
    obtain ⟨g, off, rfl, hgl, _⟩ := Hr.out 0 _ (u8s_get hy0)
    have Hy0 := Lib.hid hy0
    clear hy0 HA
    have t1 : ¬ (n : Int) < 20 := by omega
    have HXb := Lib.hid (fun W (j : Nat) (hW : Below w1.heap.size w1 W) (hj : j < n) => (show W.cell? ⟨g, off + j, none⟩ = some (.int .u8 (bs.getD j 0 : Nat)) from by
      have h1 : (u8s bs)[j]? = some (.int .u8 (bs.getD j 0 : Nat)) := by
        rw [u8s_get (show bs[j]? = some (bs.getD j 0) by rw [List.getD_eq_getElem?_getD, List.getElem?_eq_getElem (by rw [Hn.out]; omega)]; rfl)]
      obtain ⟨b', o', ha, _, hc⟩ := (Hr.out.later (bnext B1.out hW)) j _ h1
      injection ha with ha
      injection ha with e1 e2
      subst e1 e2
      exact hc))
    have HYb := Lib.hid (fun (j : Nat) => byt_gd Hb.out j)
    have HRd := Lib.hid (fun W (a s c : Nat) (hW : Below w1.heap.size w1 W) (ha : a + s ≤ n) (hs : s ≤ 4) => lread_any bs a s g (off + a) c W hs Hb.out (fun j hj => by rw [Nat.add_assoc]; exact HXb.out W (a + j) hW (by omega)))
    have hcv := run_convert_bytes_arg (P := Tryz.prog) w1 24 5 Tryz.underlying24 Tryz.underlying5 g off 4 cap ((subB bs 0 4).map fun (x : Nat) => (x : Int)) (by rw [List.length_map, subB_len]) (fun i hi => by
      have e : ((subB bs 0 4).map fun (x : Nat) => (x : Int)).getD i 0 = ((bs.getD i 0 : Nat) : Int) := by
        rw [List.getD_eq_getElem?_getD, List.getElem?_map, subB_get hi, Nat.zero_add]
        rfl
      rw [e]
      exact HXb.out w1 i (Below.refl _ _) (by omega))
    rw [str_sub] at hcv
    obtain ⟨s4, hs4⟩ : ∃ s4 : ByteArray, (⟨(textB (subB bs 0 4)).toArray⟩ : ByteArray) = s4 := ⟨_, rfl⟩
    rw [hs4] at hcv
    have HSg := Lib.hid (show s4.toList = [67, 65, 76, 49] ↔ subB bs 0 4 = [67, 65, 76, 49] from by
      rw [ByteArray.toList_eq, ← hs4]
      have hq : ∀ x ∈ subB bs 0 4, x < 256 := fun x hx => by
        unfold subB at hx
        obtain ⟨j, hj, rfl⟩ := List.mem_map.1 hx
        exact HYb.out _
      show textB (subB bs 0 4) = _ ↔ _
      constructor
      · intro h
        have h2 := congrArg (List.map UInt8.toNat) h
        unfold textB at h2
        rw [List.map_map] at h2
        have h3 : (subB bs 0 4).map (UInt8.toNat ∘ UInt8.ofNat) = subB bs 0 4 := (List.map_congr_left fun x hx => by have := hq x hx; simp; omega).trans (List.map_id _)
        rw [h3] at h2
        exact h2
      · intro h
        rw [h]
        rfl)
    clear hs4
    obtain ⟨c, hc⟩ : ∃ c, cntZ bs = c := ⟨_, rfl⟩
    obtain ⟨sz, hsz⟩ : ∃ sz, sizeZ bs = sz := ⟨_, rfl⟩
    have hcb : c < 65536 := by rw [← hc]; exact readTo_lt Hb.out 8 2
    have hszb : sz < 256 := by rw [← hsz]; exact HYb.out 10
    have Hc := Lib.hid hc
    have Hsz := Lib.hid hsz
    have HR2 := Lib.hid (show Calls Tryz.prog 18 #[.slice (some ⟨g, off + 8, none⟩) 2 (cap - 8)] w1 (fun e w' => e = .returned (.int .i64 (c : Nat)) ∧ w1 = w') from by
      have := HRd.out w1 8 2 (cap - 8) (Below.refl _ _) (by omega) (by omega)
      rw [show readTo bs 8 2 = c from hc] at this
      exact this)
    have c10 := HXb.out w1 10 (Below.refl _ _) (by omega)
    rw [show bs.getD 10 0 = sz from hsz] at c10
    have HP4 := Lib.hid (fun (h : headBad bs = true) => (show parseZ bs = 4 from by unfold parseZ; rw [if_neg (by rw [Hn.out]; omega), if_pos h]))
    have HP12 := Lib.hid (fun (h0 : headBad bs = false) (h : sizeBad bs = true) => (show parseZ bs = 12 from by unfold parseZ; rw [if_neg (by rw [Hn.out]; omega), if_neg (by rw [h0]; decide), if_pos h]))
    have HP2 := Lib.hid (fun (h0 : headBad bs = false) (h1 : sizeBad bs = false) (h : n < 20 + c * 64) => (show parseZ bs = 2 from by unfold parseZ; rw [if_neg (by rw [Hn.out]; omega), if_neg (by rw [h0]; decide), if_neg (by rw [h1]; decide), if_pos (by rw [Hn.out, Hc.out]; exact h)]))
    have HP9 := Lib.hid (fun (h0 : headBad bs = false) (h1 : sizeBad bs = false) (h2 : ¬ n < 20 + c * 64) (h : sumBad bs = true) => (show parseZ bs = 9 from by unfold parseZ; rw [if_neg (by rw [Hn.out]; omega), if_neg (by rw [h0]; decide), if_neg (by rw [h1]; decide), if_neg (by rw [Hn.out, Hc.out]; exact h2), if_pos h]))
    have HP4' := Lib.hid (fun (h0 : headBad bs = false) (h1 : sizeBad bs = false) (h2 : ¬ n < 20 + c * 64) (h3 : sumBad bs = false) (h : dirTo bs c = false) => (show parseZ bs = 4 from by unfold parseZ; rw [if_neg (by rw [Hn.out]; omega), if_neg (by rw [h0]; decide), if_neg (by rw [h1]; decide), if_neg (by rw [Hn.out, Hc.out]; exact h2), if_neg (by rw [h3]; decide), if_pos (by rw [Hc.out]; exact h)]))
    have HPp := Lib.hid (fun (h0 : headBad bs = false) (h1 : sizeBad bs = false) (h2 : ¬ n < 20 + c * 64) (h3 : sumBad bs = false) (h : dirTo bs c = true) => (show parseZ bs = if placeBad bs = true then 12 else 0 from by unfold parseZ; rw [if_neg (by rw [Hn.out]; omega), if_neg (by rw [h0]; decide), if_neg (by rw [h1]; decide), if_neg (by rw [Hn.out, Hc.out]; exact h2), if_neg (by rw [h3]; decide), if_neg (by rw [Hc.out, h]; decide)]))
    obtain ⟨r11, hr11⟩ : ∃ r, readTo bs 11 4 = r := ⟨_, rfl⟩
    obtain ⟨y15, hy15⟩ : ∃ r, bs.getD 15 0 = r := ⟨_, rfl⟩
    obtain ⟨r4, hr4⟩ : ∃ r, readTo bs 4 4 = r := ⟨_, rfl⟩
    have HHB := Lib.hid (show headBad bs = (decide (subB bs 0 4 ≠ [67, 65, 76, 49]) || (decide (r11 ≠ 0) || decide (y15 ≠ 0))) by unfold headBad; rw [hr11, hy15])
    have HSB := Lib.hid (show sizeBad bs = (decide (sz < 24) || (decide (96 < sz) || (decide (64 < c) || decide (r4 ≠ n)))) by unfold sizeBad; rw [Hsz.out, Hc.out, hr4, Hn.out])
    have HR11 := Lib.hid (show Calls Tryz.prog 18 #[.slice (some ⟨g, off + 11, none⟩) 4 (cap - 11)] w1 (fun e w' => e = .returned (.int .i64 (r11 : Nat)) ∧ w1 = w') from by
      have := HRd.out w1 11 4 (cap - 11) (Below.refl _ _) (by omega) (by omega)
      rw [hr11] at this
      exact this)
    have HR4 := Lib.hid (show Calls Tryz.prog 18 #[.slice (some ⟨g, off + 4, none⟩) 4 (cap - 4)] w1 (fun e w' => e = .returned (.int .i64 (r4 : Nat)) ∧ w1 = w') from by
      have := HRd.out w1 4 4 (cap - 4) (Below.refl _ _) (by omega) (by omega)
      rw [hr4] at this
      exact this)
    have c15 := HXb.out w1 15 (Below.refl _ _) (by omega)
    rw [hy15] at c15
    have u1 : (10 : Int) ≤ (cap : Int) := by omega
    have u2 : (15 : Int) ≤ (cap : Int) := by omega
    have u3 : (4 : Int) ≤ (cap : Int) := by omega
    have u4 : (8 : Int) ≤ (cap : Int) := by omega
    have u5 : (10 : Int) < (n : Int) := by omega
    have u6 : (15 : Int) < (n : Int) := by omega
    have u7 : ¬ (cap = 8) := by omega
    have u8 : ¬ (cap = 11) := by omega
    have u9 : ¬ (cap = 4) := by omega
    clear hr11 hy15 hr4 hc hsz
    go_wp2_with (go_at_call 18; fail)
    refine HR2.out.mono ?_
    rintro e w2 ⟨rfl, rfl⟩
    clear HR2
    by_cases q1 : s4.toList = [67, 65, 76, 49]
    rotate_left
    · skip
      have hE := HP4.out (by rw [HHB.out, decide_eq_true (show subB bs 0 4 ≠ [67, 65, 76, 49] from fun h => q1 (HSg.out.2 h))]; rfl)
      have hV := HP0.out (by rw [hE]; decide)
      subst hV
      rw [hE]
      clear hE
      go_wp2_with (go_at_call 11; refine (HAw.out _).mono ?_; rintro e w9 ⟨rfl, hb9⟩)
      go_ret
      exact ⟨rfl, bnext B1.out hb9⟩
    have HQ1 := Lib.hid (show decide (subB bs 0 4 ≠ [67, 65, 76, 49]) = false from decide_eq_false (fun h => h (HSg.out.1 q1)))
    go_wp2_with (go_at_call 18; fail)
    refine HR11.out.mono ?_
    rintro e w2 ⟨rfl, rfl⟩
    clear HR11 hcv q1
    by_cases q2 : r11 = 0
    rotate_left
    · have t2 : ((r11 : Int) != 0) = true := by rw [bne_iff_ne]; omega
      have hE := HP4.out (by rw [HHB.out, HQ1.out, decide_eq_true q2]; rfl)
      have hV := HP0.out (by rw [hE]; decide)
      subst hV
      rw [hE]
      clear hE
      go_wp2_with (go_at_call 11; refine (HAw.out _).mono ?_; rintro e w9 ⟨rfl, hb9⟩)
      go_ret
      exact ⟨rfl, bnext B1.out hb9⟩
    subst q2
    by_cases q3 : y15 = 0
    rotate_left
    · have t2 : ((y15 : Int) != 0) = true := by rw [bne_iff_ne]; omega
      have hE := HP4.out (by rw [HHB.out, HQ1.out, decide_eq_true q3]; rfl)
      have hV := HP0.out (by rw [hE]; decide)
      subst hV
      rw [hE]
      clear hE
      go_wp2_with (go_at_call 11; refine (HAw.out _).mono ?_; rintro e w9 ⟨rfl, hb9⟩)
      go_ret
      exact ⟨rfl, bnext B1.out hb9⟩
    subst q3
    have H0 := Lib.hid (show headBad bs = false by rw [HHB.out, HQ1.out]; rfl)
    by_cases q4 : sz < 24
    · have t2 : (sz : Int) < 24 := by omega
      have hE := HP12.out H0.out (by rw [HSB.out, decide_eq_true q4]; rfl)
      have hV := HP0.out (by rw [hE]; decide)
      subst hV
      rw [hE]
      clear hE
      go_wp2_with (go_at_call 11; refine (HAw.out _).mono ?_; rintro e w9 ⟨rfl, hb9⟩)
      go_ret
      exact ⟨rfl, bnext B1.out hb9⟩
    have t2 : ¬ (sz : Int) < 24 := by omega
    by_cases q5 : 96 < sz
    · have t3 : (96 : Int) < (sz : Int) := by omega
      have hE := HP12.out H0.out (by rw [HSB.out, decide_eq_true q5]; simp)
      have hV := HP0.out (by rw [hE]; decide)
      subst hV
      rw [hE]
      clear hE
      go_wp2_with (go_at_call 11; refine (HAw.out _).mono ?_; rintro e w9 ⟨rfl, hb9⟩)
      go_ret
      exact ⟨rfl, bnext B1.out hb9⟩
    have t3 : ¬ (96 : Int) < (sz : Int) := by omega
    by_cases q6 : 64 < c
    · have t4 : (64 : Int) < (c : Int) := by omega
      have hE := HP12.out H0.out (by rw [HSB.out, decide_eq_true q6]; simp)
      have hV := HP0.out (by rw [hE]; decide)
      subst hV
      rw [hE]
      clear hE
      go_wp2_with (go_at_call 11; refine (HAw.out _).mono ?_; rintro e w9 ⟨rfl, hb9⟩)
      go_ret
      exact ⟨rfl, bnext B1.out hb9⟩
    have t4 : ¬ (64 : Int) < (c : Int) := by omega
    go_wp2_with (go_at_call 18; fail)
    refine HR4.out.mono ?_
    rintro e w2 ⟨rfl, rfl⟩
    clear HR4
    by_cases q7 : r4 = n
    rotate_left
    · have t5 : ((r4 : Int) != (n : Int)) = true := by rw [bne_iff_ne]; omega
      have hE := HP12.out H0.out (by rw [HSB.out, decide_eq_true q7]; simp)
      have hV := HP0.out (by rw [hE]; decide)
      subst hV
      rw [hE]
      clear hE
      go_wp2_with (go_at_call 11; refine (HAw.out _).mono ?_; rintro e w9 ⟨rfl, hb9⟩)
      go_ret
      exact ⟨rfl, bnext B1.out hb9⟩
    subst q7
    have H1 := Lib.hid (show sizeBad bs = false by rw [HSB.out, decide_eq_false q4, decide_eq_false q5, decide_eq_false q6]; simp)
    clear HSB HHB HQ1
    by_cases q8 : r4 < 20 + c * 64
    · have t6 : (r4 : Int) < 20 + 64 * (c : Int) := by omega
      have hE := HP2.out H0.out H1.out q8
      have hV := HP0.out (by rw [hE]; decide)
      subst hV
      rw [hE]
      clear hE
      go_wp2_with (go_at_call 11; refine (HAw.out _).mono ?_; rintro e w9 ⟨rfl, hb9⟩)
      go_ret
      exact ⟨rfl, bnext B1.out hb9⟩
    have t6 : ¬ (r4 : Int) < 20 + 64 * (c : Int) := by omega
    obtain ⟨e1, he1⟩ : ∃ e1, 16 + c * 64 = e1 := ⟨_, rfl⟩
    obtain ⟨rs, hrs⟩ : ∃ r, readTo bs e1 4 = r := ⟨_, rfl⟩
    obtain ⟨C, hC⟩ : ∃ r, crcZ (bs.take e1) = r := ⟨_, rfl⟩
    have hCb := crcZ_bd (bs.take e1)
    rw [hC] at hCb
    have HSm := Lib.hid (show sumBad bs = decide (C ≠ (rs : Int)) by unfold sumBad; rw [Hc.out, he1, hC, hrs])
    go_wp2_with fail
    have he1i : (16 : Int) + 64 * (c : Int) = (e1 : Int) := by omega
    have he2i : (20 : Int) + 64 * (c : Int) = (e1 : Int) + 4 := by omega
    have HRs := Lib.hid (fun (z : GW w1) => (show Calls Tryz.prog 18 #[.slice (some ⟨g, off + e1, none⟩) 4 (cap - e1)] z.1 (fun e w' => e = .returned (.int .i64 (rs : Nat)) ∧ z.1 = w') from by
      have := HRd.out z.1 e1 4 (cap - e1) z.2 (by omega) (by omega)
      rw [hrs] at this
      exact this))
    have HCr := Lib.hid (fun (z : GW w1) => (show Calls Tryz.prog 19 #[.slice (some ⟨g, off, none⟩) e1 cap] z.1 (fun e w' => e = .returned (.int .u32 C) ∧ z.1 = w') from by
      have h := (Hr.out.later (bnext B1.out z.2)).take e1
      rw [u8s_take] at h
      have := crcSum_any (bs.take e1) (some ⟨g, off, none⟩) cap z.1 (by rw [List.length_take]; omega) h
      rw [List.length_take, Hn.out, Nat.min_eq_left (by omega), hC] at this
      exact this))
    have hwC : IntKind.i64.wrap C = C := IntWalk.i64_in _ (by omega)
    have r1 : (0 : Int) ≤ (e1 : Int) := by omega
    have r2 : (e1 : Int) ≤ (e1 : Int) + 4 := by omega
    have r3 : (e1 : Int) + 4 ≤ (cap : Int) := by omega
    have r4' : ¬ (cap = e1) := by omega
    have r5 : ¬ ((e1 : Int) < 0) := by omega
    have r6 : ¬ ((cap : Int) < (e1 : Int) + 4) := by omega
    have r7 : decide ((e1 : Int) < 0) = false := decide_eq_false (by omega)
    have r8 : decide ((cap : Int) < (e1 : Int) + 4) = false := decide_eq_false (by omega)
    have r9 : decide ((cap : Int) < (e1 : Int)) = false := decide_eq_false (by omega)
    have r10 : ¬ ((cap : Int) < (e1 : Int)) := by omega
    have r11 : (e1 : Int) ≤ (cap : Int) := by omega
    have He1 := Lib.hid he1
    clear hrs hC he1
    refine wp_region_calm (by kernel_rfl) (by kernel_rfl) ?_
    repeat (go_big_quiet_step (first | (go_at_call 19; exact calm_same (HCr.out _)) | (go_at_call 18; exact calm_same (HRs.out _))))
    refine wpQuiet_nil ?_
    intro w2 hw'
    have hb2 := gw_below hw'
    have E2 := Lib.hid hb2
    have B2 := Lib.hid (bnext B1.out hb2)
    clear hw' hb2 HRs HCr c10 c15 he1i he2i r1 r2 r3 r4' r5 r6 r7 r8 r9 r10 r11
    by_cases q9 : C = (rs : Int)
    rotate_left
    · have t7 : (C != (rs : Int)) = true := by rw [bne_iff_ne]; exact q9
      have hE := HP9.out H0.out H1.out q8 (by rw [HSm.out, decide_eq_true q9])
      have hV := HP0.out (by rw [hE]; decide)
      subst hV
      rw [hE]
      clear hE
      go_wp2_with (go_at_call 11; refine (HAw.out _).mono ?_; rintro e w9 ⟨rfl, hb9⟩)
      go_ret
      exact ⟨rfl, bnext B2.out hb9⟩
    subst q9
    have H2 := Lib.hid (show sumBad bs = false by rw [HSm.out]; simp)
    clear HSm
    by_cases q10 : parseZ bs = 0
    rotate_left
    · have hE : parseZ bs = 4 ∨ parseZ bs = 12 := by
        by_cases hd : dirTo bs c = true
        · have h := HPp.out H0.out H1.out q8 H2.out hd
          split at h
          · exact .inr h
          · exact absurd h q10
        · exact .inl (HP4'.out H0.out H1.out q8 H2.out (by simpa using hd))
      have hV := HP0.out q10
      subst hV
      clear q10
      rcases hE with hE | hE
      · rw [hE]
        clear hE
        go_wp2_with (go_at_call 11; refine (HAw.out _).mono ?_; rintro e w9 ⟨rfl, hb9⟩)
        go_ret
        exact ⟨rfl, bnext B2.out hb9⟩
      · rw [hE]
        clear hE
        go_wp2_with (go_at_call 11; refine (HAw.out _).mono ?_; rintro e w9 ⟨rfl, hb9⟩)
        go_ret
        exact ⟨rfl, bnext B2.out hb9⟩
    obtain ⟨g1, hV, hB⟩ := HP1.out q10
    subst hV
    have hfit := fit_parsed q10 (by rw [Hn.out]; omega) Hb.out
    have hag := parsed_again q10 Hb.out Hc.out Hsz.out
    have hal := parsed_len q10 Hb.out Hc.out Hsz.out
    have hup := (parsed_of q10).up
    have hdl := dirZ_len bs c
    rw [Hc.out, Hsz.out] at hfit hB hup
    rw [q10]
    clear HP0 HP1 HP4 HP12 HP2 HP9 HP4' HPp H0 H1 H2 q10
    generalize dirZ bs c = D at *
    rw [hdl] at hag hal
    rw [Hn.out] at hup hag hal
    have Hal := Lib.hid hal
    have Hag := Lib.hid hag
    have Hup := Lib.hid hup
    have Hfit := Lib.hid hfit
    have HB := Lib.hid hB
    have Hdl := Lib.hid hdl
    have hlo := hfit.lo
    have HDi := Lib.hid (fun W (hW : Below w1.heap.size w1 W) => BDir_any (hB.later hW) (by omega) (by omega))
    rw [hdl] at HDi
    clear hag hup hfit hB hdl hal
    go_wp2_with (go_at_call 20; fail)
    refine (HDi.out _ E2.out).mono ?_
    rintro e w3 ⟨Ad, cd, rfl, hcd1, hcd2, hcd3, hown, hb3⟩
    have E3 := Lib.hid (bnext E2.out hb3)
    have B3 := Lib.hid (bnext B2.out hb3)
    have RD := Lib.hid (Row.of_own hown)
    clear hown hb3 HDi hcd1 hcd2 hcd3
    go_wp2_with fail
    obtain ⟨S, hS⟩ : ∃ S, strOfNums (bs.map fun (x : Nat) => (x : Int)) = S := ⟨_, rfl⟩
    have HS := Lib.hid hS
    have CVb := Lib.hid (fun W (hW : Below w3.heap.size w3 W) => (show (convert 24 9 (.slice (some ⟨g, off, none⟩) r4 cap)).run Tryz.prog W = .ok (.string S) W from by
      rw [← HS.out]
      exact conv_row Hn.out (Hr.out.later (bnext B3.out hW))))
    have HSz := Lib.hid (fun W (hW : Below w3.heap.size w3 W) => BSize_any (HB.out.later (bnext E3.out hW)) (by omega))
    have HIm := Lib.hid (fun W (hW : Below w3.heap.size w3 W) => BImage_any (HB.out.later (bnext E3.out hW)) (by omega) (by rw [Hn.out]; omega))
    rw [Hn.out] at HIm
    have cv0 := CVb.out w3.drew (below_drew1 w3)
    have HRD := Lib.hid (fun W (hW : Below w3.heap.size w3 W) => RD.out.later hW)
    clear hS
    go_region_with (first | (go_at_call 21; refine (HSz.out _ (below_drew1 w3)).mono ?_; rintro e w5 ⟨rfl, rfl⟩) | (go_at_call 22; refine (HIm.out _ (below_drew1 w3)).mono ?_; rintro e w6 ⟨Ai, ci, rfl, hci1, hci2, hci3, howni, hb6⟩; obtain ⟨bI, oI, rfl, hbI, _⟩ := (Row.of_own howni) 0 _ (u8s_get Hy0.out); have E6 := Lib.hid (bnext (below_drew1 w3) hb6); have cva := conv_row (c := ci) Hn.out (Row.of_own howni); rw [HS.out] at cva; have cvb := CVb.out w6 E6.out; clear howni hb6 hci1 hci2 hci3 hbI))
    all_goals
     have B6 := Lib.hid (bnext B3.out E6.out)
     have RD6 := Lib.hid (HRD.out w6 E6.out)
     clear cva cvb cv0 HRD CVb HSz HIm
     go_wp2_with fail
     go_loopw [8, 9] (fun mv i wr => ∃ (m M : Nat), m ≤ c ∧ i = .int .i64 m ∧ mv = .int .i64 M ∧ M ≤ 200 * m ∧ Below w6.heap.size w6 wr) (fun _ i _ => c - (intOf i).toNat)
     case atStart => exact ⟨0, 0, by omega, rfl, rfl, by omega, Below.refl _ _⟩
     case round =>
       obtain ⟨m, M, hm, rfl, rfl, hM, hbel⟩ := hrel
       have Hbel := Lib.hid hbel
       clear hbel
       by_cases hlt : m < c
       · have t5 : (m : Int) < (c : Int) := by omega
         have t7 : (0 : Int) ≤ (m : Int) := by omega
         obtain ⟨x, hx⟩ := list_get (k := m) Hdl.out hlt
         have hxm := List.mem_of_getElem? hx
         have hsh := parsed_short Hfit.out (by rw [Hn.out]; omega) hxm
         have hrt := Hfit.out.right x hxm
         have hbd := right_bds hrt
         have hfr := (genM_right hrt).fr
         obtain ⟨bD, oD, rfl, hbD, hcD⟩ := meta_at (RD6.out.later Hbel.out) hx
         obtain ⟨Fn, hFn⟩ := Int.eq_ofNat_of_zero_le hfr.1
         have HFr := Lib.hid (fun W => bankFrames_any x W (by omega) (by omega))
         rw [hFn] at HFr hsh
         obtain ⟨nm, len, rate, ch, lp, f, t, s0, f0⟩ := x
         simp only at hsh hbd
         have HX := Lib.hid hcD
         have HFl := Lib.hid (show (Tryz.prog.info? 49).map (·.size) = some (MetaV.cells ⟨nm, len, rate, ch, lp, f, t, s0, f0⟩).length from (show (Tryz.prog.info? 49).map (·.size) = some 9 by kernel_rfl))
         have HRm := Lib.hid (fun W => RightMeta_any nm len rate ch lp f t s0 f0 W)
         rw [hrt] at HRm
         have t8 : ¬ (4000 : Int) < len := by omega
         have HbD := Lib.hid hbD
         clear hx hxm hrt hbd hfr hcD hFn hbD
         go_wp2_with (first | (refine wpList_load_part_w rfl 49 (.tmp 177) rfl bD (oD + m * 9) rfl (MetaV.cells ⟨nm, len, rate, ch, lp, f, t, s0, f0⟩) _ HX.out Tryz.underlying49 rfl HFl.out ?_) | (go_at_call 23; fail))
         refine (HRm.out _).mono ?_
         rintro e w7 ⟨rfl, hb7⟩
         have E7 := Lib.hid hb7
         have HX7 := Lib.hid (fun j v hv => (hb7.cell (p := ⟨bD, oD + m * 9 + j, none⟩) HbD.out).trans (HX.out j v hv))
         have x1 := HX7.out 1 _ rfl
         clear hb7 HRm
         go_wp2_with (first | (refine wpList_load_part_w rfl 49 (.tmp 192) rfl bD (oD + m * 9) rfl (MetaV.cells ⟨nm, len, rate, ch, lp, f, t, s0, f0⟩) _ HX7.out Tryz.underlying49 rfl HFl.out ?_) | (go_at_call 24; fail))
         refine (HFr.out _).mono ?_
         rintro e w8 ⟨rfl, hb8⟩
         have E8 := Lib.hid (bnext (bnext Hbel.out E7.out) hb8)
         clear hb8 x1 HFr
         go_wp2
         go_roundw
         case rel => exact ⟨m + 1, M + Fn, by omega, by go_num, congrArg (Value.int .i64) (by push_cast; rfl), by omega, E8.out⟩
         case measure => first | (simp [intOf]; done) | (simp [intOf]; omega)
       · have hme : c = m := by omega
         subst hme
         have t5 : ¬ ((c : Int) < (c : Int)) := by omega
         have HImg := Lib.hid (fun W (hW : Below w6.heap.size w6 W) => limage_any sz D Ad cd [] none 0 W (by omega) (by omega) (by rw [Hdl.out]; omega) (fun x hx => by
           obtain ⟨l1, l2, l3, l4, l5⟩ := right_bds (Hfit.out.right x hx)
           exact ⟨by omega, by omega, by omega, by omega, by omega, name_size (right_name (Hfit.out.right x hx))⟩) (RD6.out.later hW) ⟨[], rfl, Row.none_ _ _ _, fun j v f h => by simp at h⟩ (by simp) nofun (by rw [Hdl.out]; have h1 := upZ64_ge (atTo sz D c); have h2 := Hup.out; omega))
         rw [Hdl.out, Hup.out, Int.toNat_natCast] at HImg
         unfold BytP at HImg
         rw [Hal.out] at HImg
         obtain ⟨ZL, hZL⟩ : ∃ ZL, lawZ sz (mixTo sz D c) [] r4 = ZL := ⟨_, rfl⟩
         rw [hZL] at HImg
         have Hag2 := Lib.hid (show ZL.take (20 + 64 * c) = bs.take (20 + 64 * c) by rw [← hZL]; exact Hag.out)
         have HZl := Lib.hid (show ZL.length = r4 by rw [← hZL]; exact Hal.out)
         clear hZL
         go_wp2_with (go_at_call 15; fail)
         refine (HImg.out _ Hbel.out).mono ?_
         rintro e w7 ⟨gy, cy, rfl, hcy1, hcy2, _, hRy, hb7⟩
         have B7 := Lib.hid (bnext (bnext B6.out Hbel.out) hb7)
         obtain ⟨e3, he3⟩ : ∃ e3, 20 + 64 * c = e3 := ⟨_, rfl⟩
         have he3i : (20 : Int) + 64 * (c : Int) = (e3 : Int) := by omega
         have hzl := HZl.out
         have hbl := Hn.out
         have Hag3 := Hag2.out
         rw [he3] at Hag3
         obtain ⟨T, hT⟩ : ∃ T, strOfNums ((bs.take e3).map fun (x : Nat) => (x : Int)) = T := ⟨_, rfl⟩
         have cvy := fun (z : GW w7) => (show (convert 24 9 (.slice (some ⟨gy, 0, none⟩) e3 cy)).run Tryz.prog z.1 = .ok (.string T) z.1 from by
           rw [← hT, ← Hag3]
           have h := (hRy.later z.2).take e3
           rw [u8s_take] at h
           exact conv_row (by rw [List.length_take]; omega) h)
         have cvb := fun (z : GW w7) => (show (convert 24 9 (.slice (some ⟨g, off, none⟩) e3 cap)).run Tryz.prog z.1 = .ok (.string T) z.1 from by
           rw [← hT]
           have h := (Hr.out.later (bnext B7.out z.2)).take e3
           rw [u8s_take] at h
           exact conv_row (by rw [List.length_take]; omega) h)
         have s1 : (0 : Int) ≤ (e3 : Int) := by omega
         have s2 : (e3 : Int) ≤ (cy : Int) := by omega
         have s3 : (e3 : Int) ≤ (cap : Int) := by omega
         have s4' : decide ((cy : Int) < (e3 : Int)) = false := decide_eq_false (by omega)
         have s5 : decide ((cap : Int) < (e3 : Int)) = false := decide_eq_false (by omega)
         have s6 : decide ((e3 : Int) < 0) = false := decide_eq_false (by omega)
         clear hRy hb7 hT Hag3 hzl hbl he3 hcy1
         go_wp2_with fail
         refine wp_region_calm (by kernel_rfl) (by kernel_rfl) ?_
         repeat (go_big_quiet_step ((go_at_call 11; exact calm_call (HAw.out _))))
         refine wpQuiet_nil ?_
         intro w8 hw'
         have hb8 := gw_below hw'
         clear hw' cvy cvb
         go_wp2
         go_ret
         exact ⟨rfl, bnext B7.out hb8⟩
theorem BankParses_law (W : World) (v0 : Value) (a0 : Arg W (.slice 1 (.int .u8)) v0) :
    Calls Tryz.prog 4 #[v0] W fun e w' => e = .returned (.bool true) ∧ Below W.heap.size W w' := by
  obtain ⟨B, A, cap, rfl, h1, h2, h3, h4, h5⟩ := arg_bytes2 a0
  exact BankParses_walk B A cap W h1 h2 h3 h4 h5
end Go.Proofs.YtoagdidkadfekaaGreatDoor
