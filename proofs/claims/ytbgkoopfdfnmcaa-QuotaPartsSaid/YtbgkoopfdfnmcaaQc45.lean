/- LawParts. Conditions: as each theorem states. -/
import Derived.Test.YtbgkoopfdfnmcaaQc44
import Derived.Test.YtbgkoopfdfnmcaaQc39

namespace Go.Proofs.Ytbgkoopfdfnmcaa
open Go.RowKit

set_option maxRecDepth 100000 in
set_option maxHeartbeats 2000000 in
theorem lawfits_any (size room : Int) (M : List SP) (g c : Nat) (w : World) (h1 : M.length ≤ 19) (hs : SampsAt w w.heap.size (some ⟨g, 0, none⟩) M) :
    Calls Try.prog 23 #[.int .i64 size, .int .i64 room, .slice (some ⟨g, 0, none⟩) M.length c] w fun e w' => e = .returned (.bool (goodB room (M.map (·.2)) size)) ∧ Below w.heap.size w w' := by
  have HI := Lib.hid (Image_any size M (some ⟨g, 0, none⟩) c w h1 nofun hs)
  have HG := Lib.hid (show goodB room (M.map (·.2)) size = (decide (0 < imageZ size (M.map (·.2))) && decide (imageZ size (M.map (·.2)) ≤ room)) from rfl)
  generalize goodB room (M.map (·.2)) size = G at *
  generalize imageZ size (M.map (·.2)) = I at *
  generalize M.length = n at *
  clear hs h1
  by_cases h1 : 0 < I
  · have t1 : decide (0 < I) = true := decide_eq_true h1
    have HG2 := Lib.hid (show G = decide (I ≤ room) by rw [HG.out, t1]; rfl)
    go_enter Try.func23, Try.ntmps23
    go_wp2_with (go_at_call 45; refine HI.out.mono ?_; rintro e w1 ⟨rfl, hb1⟩)
    go_ret
    exact ⟨ret_bool (by rw [HG2.out]), hb1⟩
  · have t1 : decide (0 < I) = false := decide_eq_false h1
    have HG2 := Lib.hid (show G = false by rw [HG.out, t1]; rfl)
    go_enter Try.func23, Try.ntmps23
    go_wp2_with (go_at_call 45; refine HI.out.mono ?_; rintro e w1 ⟨rfl, hb1⟩)
    go_ret
    exact ⟨ret_bool (by rw [HG2.out]), hb1⟩
theorem own_empty0 (w : World) (e : TypeId) (size base : Nat) (hb : base ≤ w.heap.size) : (w.alloc (.cells #[] e)).ownsRow base e size (.slice (some ⟨w.heap.size, 0, none⟩) 0 0) 0 [] :=
  ⟨by simp, .inr ⟨w.heap.size, 0, #[], rfl, hb, heap_alloc_new w _, Nat.le_refl _, by simp [maxLen], by simp, by simp⟩⟩
/-- all rows, one sample more -/
def PutDone (w2 : World) (K : Nat) (A' : Option Addr) (cc : Nat) (Z : List (List SP)) (wr : World) : Prop :=
  ∃ R' : List (RowA × List SP), R'.length = K ∧ wr.ownsRow w2.heap.size 48 1 (.slice A' K cc) K (R'.map rowV) ∧ (∀ p ∈ R', RStands wr (Value.slice A' K cc).ownBlock p) ∧ R'.map Prod.snd = Z ∧ Below w2.heap.size w2 wr

set_option maxRecDepth 100000 in
set_option maxHeartbeats 16000000 in
theorem QuotaParts_walk (size room : Int) (L0 : List SP) (A0 : Option Addr) (cap0 : Nat) (w : World) (hs0 : SampsAt w w.heap.size A0 L0) (hnm : ∀ p ∈ L0, NameFits p) :
    Calls Try.prog 5 #[.int .i64 size, .int .i64 room, .slice A0 L0.length cap0] w fun e w' => e = .returned (.bool true) ∧ Below w.heap.size w w' := by
  have HF := Lib.hid (Few15_any L0 A0 cap0 w hs0 hnm)
  have HAw := Lib.hid (fun W => awake43_any W)
  generalize L0.length = n0 at *
  clear hs0 hnm
  obtain ⟨i0, hi, ⟨z0, hz0, hz0s⟩, hi1, hi2⟩ := samp_info
  obtain ⟨iR, hiR, hzR0, hzR1, hzR2⟩ := info_parts inf_row
  go_enter Try.func5, Try.ntmps5
  go_wp2_with (go_at_call 21; fail)
  refine HF.out.mono ?_
  rintro e w1 ⟨A, cap, L, rfl, hl8, hlc, hc63, hnil, hs, hsm, hb1⟩
  obtain ⟨good, hgood⟩ : ∃ good : List SP → Bool, (fun r => goodB room (r.map (·.2)) size) = good := ⟨_, rfl⟩
  have HPa := Lib.hid (fun (h : L.length ≤ 18) => Parts_any size room L A cap w1 h hs)
  rw [hgood] at HPa
  have HFits := Lib.hid (fun (M : List SP) (g c : Nat) W (h1 : M.length ≤ 19) (h2 : SampsAt W W.heap.size (some ⟨g, 0, none⟩) M) => (show Calls Try.prog 23 #[.int .i64 size, .int .i64 room, .slice (some ⟨g, 0, none⟩) M.length c] W fun e w' => e = .returned (.bool (good M)) ∧ Below W.heap.size W w' from by
    rw [← hgood]
    exact lawfits_any size room M g c W h1 h2))
  have HFit := Lib.hid (fun W (hW : Below w1.heap.size w1 W) (s : SP) (h : s ∈ L) => (show s.1.fits W W.heap.size s.2 from ((hs.fits s h).below hW).more hW.size))
  have HIn := Lib.hid (partsTo_in good L)
  have HSu := Lib.hid (fun m p (h : L[m]? = some p) => partsTo_succ (good := good) h)
  have HSa := Lib.hid (fun m p (h : L[m]? = some p) => samp_at hs.row h)
  obtain ⟨n, hln⟩ : ∃ n, L.length = n := ⟨_, rfl⟩
  have HLn := Lib.hid hln
  rw [hln] at hl8 HPa ⊢
  have HPa2 := Lib.hid (HPa.out (by omega))
  have E1 := Lib.hid hb1
  clear hgood hs hln hsm hnil hlc hc63 hb1 HPa HF
  go_wp2_with (go_at_call 22; fail)
  refine HPa2.out.mono ?_
  rintro e w2 ⟨Ag, cg, Rg, rfl, hRg, hrg, hsg, hb2⟩
  have E2 := Lib.hid (bnext E1.out hb2)
  have B12 := Lib.hid hb2
  obtain ⟨kg, hkg⟩ : ∃ kg, Rg.length = kg := ⟨_, rfl⟩
  rw [hkg]
  have Hkg := Lib.hid hkg
  clear hkg
  have HRg := Lib.hid hRg
  have Hrg := Lib.hid hrg
  have Hsg := Lib.hid hsg
  clear hRg hrg hsg hb2 HPa2 E1
  go_wp2_with fail
  go_loopw [8, 9] (fun o i wr => ∃ (m k : Nat) (R : List (RowA × List SP)) (A' : Option Addr) (cc : Nat), m ≤ n ∧ i = .int .i64 m ∧ R.length = k ∧ o = .slice A' k cc ∧ wr.ownsRow w2.heap.size 48 1 (.slice A' k cc) k (R.map rowV) ∧ (∀ p ∈ R, RStands wr (Value.slice A' k cc).ownBlock p) ∧ R.map Prod.snd = partsTo good L m ∧ Below w2.heap.size w2 wr) (fun _ i _ => n - (intOf i).toNat)
  case atStart => exact ⟨0, 0, [], none, 0, by omega, rfl, rfl, rfl, World.ownsRow_nil _ _ _ _, nofun, rfl, Below.refl _ _⟩
  case round =>
    obtain ⟨m, k, R, A', cc, hm, rfl, hR, rfl, hown, hst, hmap, hbel⟩ := hrel
    have HR := Lib.hid hR
    have Hown := Lib.hid hown
    have Hst := Lib.hid hst
    have Hmap := Lib.hid hmap
    have Hbel := Lib.hid hbel
    have Hge := Lib.hid (own_block_ge hown)
    clear hR hown hst hmap hbel
    by_cases hlk : m < n
    · have t1 : (m : Int) < (n : Int) := by omega
      have t2 : (0 : Int) ≤ (m : Int) := by omega
      obtain ⟨p, hp⟩ := list_get (k := m) HLn.out hlk
      have HpL := Lib.hid (List.mem_of_getElem? hp)
      obtain ⟨b, off, rfl, hb, hcell⟩ := HSa.out m p hp
      have HFX := Lib.hid (fun W (hW : Below w1.heap.size w1 W) j v (hv : p.1.cells[j]? = some v) => (show W.cell? ⟨b, off + m * 6 + j, none⟩ = some v from (hW.cell (p := ⟨b, off + m * 6 + j, none⟩) hb).trans (hcell j v hv)))
      have HSm := Lib.hid (HSu.out m p hp)
      have Hin := Lib.hid (HIn.out m)
      have Ho1 := Lib.hid (samp_cells_one p)
      obtain ⟨cs, hcs⟩ : ∃ cs, p.1.cells = cs := ⟨_, rfl⟩
      have Hcs := Lib.hid hcs
      have hl6 : cs.length = 6 := by rw [← hcs]; rfl
      rw [hcs] at HFX Ho1
      have HFl := Lib.hid (show (Try.prog.info? 51).map (·.size) = some cs.length by rw [hi, hl6]; exact congrArg some hi1)
      have Hfz := Lib.hid (show cs.toArray.size = 6 by rw [List.size_toArray, hl6])
      have Hl6 := Lib.hid hl6
      have FXr := Lib.hid (HFX.out wr (bnext B12.out Hbel.out))
      have HI1 := Lib.hid (show Calls Try.prog 23 #[.int .i64 size, .int .i64 room, .slice (some ⟨wr.heap.size, 0, none⟩) 1 1] (wr.alloc (.cells cs.toArray 51)) fun e w' => e = .returned (.bool (good [p])) ∧ Below (wr.alloc (.cells cs.toArray 51)).heap.size (wr.alloc (.cells cs.toArray 51)) w' from
        HFits.out [p] wr.heap.size 1 _ (by simp) ⟨by
          have := Row.new wr 51 cs
          simp only [World.size_alloc]
          rw [show headCells [p] = cs by simp [headCells, Hcs.out]]
          exact this, fun s hs => by
          rw [List.mem_singleton] at hs
          subst hs
          exact HFit.out _ (bnext B12.out (bnext Hbel.out (bnew wr _))) s HpL.out⟩)
      generalize good [p] = G1 at *
      clear hp hcs hl6 hcell hb
      go_wp2_with (first | (refine wpList_load_part_w rfl 51 (.tmp 31) rfl b (off + m * 6) rfl cs _ FXr.out Try.underlying51 rfl HFl.out ?_) | (refine wpList_build_1 rfl 48 51 (.tmp 32) rfl i0 z0 6 Try.underlying48 hi hz0 hi1 (by omega) (by omega) cs.toArray rfl Hfz.out ?_) | (go_at_call 23; fail))
      refine HI1.out.mono ?_
      rintro e w5 ⟨rfl, hb5⟩
      have F5 := Lib.hid (bnext (bnew wr _) hb5)
      have O5 := Lib.hid (own_below Hown.out F5.out)
      have St5 := Lib.hid (fun q hq => (Hst.out q hq).below F5.out)
      have E5 := Lib.hid (bnext Hbel.out F5.out)
      clear hb5 HI1 FXr Hown Hst Hbel F5
      cases G1
      · have HPn := Lib.hid (show partsTo good L (m + 1) = partsTo good L m from HSm.out)
        clear HSm
        go_wp2
        go_roundw
        case rel => exact ⟨m + 1, k, R, A', cc, by omega, by go_num, HR.out, rfl, O5.out, St5.out, by rw [HPn.out]; exact Hmap.out, E5.out⟩
        case measure => simp [intOf]; omega
      · have HPn := Lib.hid (show partsTo good L (m + 1) = putRow good p (partsTo good L m) from HSm.out)
        have hkR : k = (partsTo good L m).length := by rw [← HR.out, ← Hmap.out, List.length_map]
        have hk8 : k ≤ 8 := by rw [hkR]; have := Hin.out.len; omega
        have HkR := Lib.hid hkR
        clear hkR HSm
        go_wp2_with fail
        go_loopw [10, 11] (fun pv kv wr => ∃ (j : Nat) (pb : Bool), j ≤ k ∧ kv = .int .i64 j ∧ pv = .bool pb ∧ (pb = false → (∀ i x, i < j → (partsTo good L m)[i]? = some x → good (x ++ [p]) = false) ∧ Below w5.heap.size w5 wr) ∧ (pb = true → PutDone w2 k A' cc (partsTo good L (m + 1)) wr)) (fun _ kv _ => k - (intOf kv).toNat)
        case atStart => exact ⟨0, false, by omega, rfl, rfl, fun _ => ⟨fun i x hi => by omega, Below.refl _ _⟩, nofun⟩
        case round =>
          obtain ⟨j, pb, hj, rfl, rfl, hfl, htr⟩ := hrel
          cases pb
          · obtain ⟨hno, hbel⟩ := hfl rfl
            have Hno := Lib.hid hno
            have E6 := Lib.hid (bnext E5.out hbel)
            have B6 := Lib.hid hbel
            have O6 := Lib.hid (own_below O5.out hbel)
            have St6 := Lib.hid (fun q hq => (St5.out q hq).below hbel)
            have hz6 := E6.out.size
            have FX6 := Lib.hid (HFX.out wr (bnext B12.out E6.out))
            clear hno hbel hfl htr
            by_cases hjk : j < k
            · have t5 : decide ((j : Int) < (k : Int)) = true := decide_eq_true (by omega)
              have t5' : (j : Int) < (k : Int) := by omega
              have t6 : (0 : Int) ≤ (j : Int) := by omega
              obtain ⟨go, rfl, hgo1, hgo2⟩ := own_start O6.out (by omega)
              obtain ⟨pr, hpr⟩ := list_get (k := j) HR.out hjk
              have hprZ : (partsTo good L m)[j]? = some pr.2 := by rw [← Hmap.out, List.getElem?_map, hpr]; rfl
              obtain ⟨hpin1, hpin2, hpin3⟩ := Hin.out.each pr.2 (List.mem_of_getElem? hprZ)
              obtain ⟨hlc, hc63, gr, hga, hgne, hglt, hrow⟩ := St6.out pr (List.mem_of_getElem? hpr)
              have cj : wr.cell? ⟨go, j, none⟩ = some (rowV pr) := by
                obtain ⟨b', off', ha, _, hc⟩ := (Row.of_own O6.out) j (rowV pr) (by rw [List.getElem?_map, hpr]; rfl)
                injection ha with ha
                injection ha with e1 e2
                subst e1 e2
                rwa [Nat.zero_add] at hc
              obtain ⟨⟨ra, rc⟩, rl⟩ := pr
              obtain rfl : ra = some ⟨gr, 0, none⟩ := hga
              obtain ⟨nr, hnr⟩ : ∃ nr, rl.length = nr := ⟨_, rfl⟩
              have Hnr := Lib.hid hnr
              have HprZ := Lib.hid hprZ
              simp only at hlc hc63 hrow hpin1 hpin2 hpin3
              rw [hnr] at hlc hpin1 hpin2
              unfold rowV at cj
              simp only [hnr] at cj
              have cj1 : ∀ O, (wr.alloc O).cell? ⟨go, j, none⟩ = some (.slice (some ⟨gr, 0, none⟩) nr rc) := fun O => cell_alloc cj O
              have Hpin3 := Lib.hid hpin3
              have Hrow := Lib.hid (hrow.later (bnew wr (.cells #[] 51)))
              have Hhl := Lib.hid (show (headCells rl).length = nr * 6 by rw [← Hnr.out]; exact headCells_len rl)
              have HO1 := Lib.hid (show ∀ u ∈ headCells rl, u.oneCell' = true from fun u hu => by
                unfold headCells at hu
                obtain ⟨l, hl, hu⟩ := List.mem_flatten.1 hu
                obtain ⟨q, _, rfl⟩ := List.mem_map.1 hl
                exact samp_cells_one q u hu)
              have HE0 := Lib.hid (own_empty0 wr 51 6 wr.heap.size (Nat.le_refl _))
              have hzw := E6.out.size
              clear hpr hprZ hgne hglt hrow hpin3 hnr
              go_wp2_with (first | (at_builtin; refine wpList_app _ rfl (.tmp 46) (.tmp 50) 48 rfl wr.heap.size 51 i0 z0 6 72 Try.underlying48 hi hz0 hi1 hi2 hz0s (by omega) (.slice (some ⟨wr.heap.size, 0, none⟩) 0 0) 0 [] rfl HE0.out _ (some ⟨gr, 0, none⟩) nr rc (headCells rl) rfl Hhl.out Hrow.out HO1.out (by omega) (by omega) (by simp) ?_; intro A7 c7 w7 hown7 hgrow7 hat7 hcc7; rw [Nat.zero_add, List.nil_append] at hown7; rw [Nat.zero_add]; have F7 := Lib.hid ((bnew wr (.cells #[] 51)).grown hgrow7 (by simp) (fun g h => own_block_ge HE0.out g h)); have FX7 := Lib.hid (HFX.out w7 (bnext B12.out (bnext E6.out F7.out))); have hz7 := F7.out.size) | (refine wpList_load_part_w rfl 51 (.tmp 55) rfl b (off + m * 6) rfl cs _ FX7.out Try.underlying51 rfl HFl.out ?_) | (refine wpList_build_1 rfl 48 51 (.tmp 56) rfl i0 z0 6 Try.underlying48 hi hz0 hi1 (by omega) (by omega) cs.toArray rfl Hfz.out ?_) | (at_builtin; refine wpList_app _ rfl (.tmp 52) (.tmp 57) 48 rfl wr.heap.size 51 i0 z0 6 72 Try.underlying48 hi hz0 hi1 hi2 hz0s (by omega) (.slice A7 nr c7) nr (headCells rl) rfl (hown7.alloc _) (w7.heap.size + 1) (some ⟨w7.heap.size, 0, none⟩) 1 1 cs rfl (by rw [Hl6.out]) (Row.new w7 _ cs) Ho1.out (by omega) (by omega) (by simp; omega) ?_; intro A8 c8 w8 hown8 hgrow8 hat8 hcc8) | (go_at_call 23; fail))
              obtain ⟨g8, rfl, h81, h82⟩ := own_start hown8 (by omega)
              have F8 := Lib.hid ((F7.out.alloc hz7 (.cells cs.toArray 51)).grown hgrow8 (by simp; omega) (fun g h => own_block_ge hown7 g h))
              have hrow8 := Row.of_own hown8
              rw [← Hcs.out, ← headCells_snoc] at hrow8
              have HI2 := HFits.out (rl ++ [p]) g8 c8 w8 (by rw [List.length_append, Hnr.out]; simp; omega) ⟨hrow8, fun s hs => by
                have hWw := bnext B12.out (bnext E6.out F8.out)
                rcases List.mem_append.1 hs with h | h
                · exact HFit.out w8 hWw s (Hpin3.out s h)
                · rw [List.mem_singleton] at h; rw [h]; exact HFit.out w8 hWw p HpL.out⟩
              rw [List.length_append, Hnr.out, show [p].length = 1 from rfl] at HI2
              refine HI2.mono ?_
              rintro e w9 ⟨rfl, hb9⟩
              have F9 := Lib.hid (bnext F8.out hb9)
              have R9 := Lib.hid (hrow8.later hb9)
              have O9 := Lib.hid (own_below O6.out F9.out)
              have B9 := Lib.hid (bnext B6.out F9.out)
              have Hg8 := Lib.hid (show nr + 1 ≤ c8 ∧ c8 ≤ 9223372036854775807 ∧ wr.heap.size ≤ g8 ∧ g8 < w9.heap.size from ⟨hcc8, own_cap hown8, h81, Nat.lt_of_lt_of_le h82 hb9.size⟩)
              have hz9 := F9.out.size
              clear hown8 hrow8 HI2 hgrow8 hat8 hown7 hgrow7 hat7 hcc7 hcc8 hb9 h81 h82 F7 FX7 hz7 F8 HE0 Hrow cj cj1
              cases hG : good (rl ++ [p])
              · have hno2 : ∀ i x, i < j + 1 → (partsTo good L m)[i]? = some x → good (x ++ [p]) = false := fun i x hi hx => by
                  by_cases hij : i = j
                  · subst hij
                    rw [HprZ.out] at hx
                    injection hx with hx
                    rw [← hx]; exact hG
                  · exact Hno.out i x (by omega) hx
                have Hno2 := Lib.hid hno2
                clear hno2 hG
                go_wp2
                go_roundw
                case rel => exact ⟨j + 1, false, by omega, by go_num, rfl, fun _ => ⟨Hno2.out, B9.out⟩, nofun⟩
                case measure => simp [intOf]; omega
              · have HPf := Lib.hid (show partsTo good L (m + 1) = (partsTo good L m).set j (rl ++ [p]) by rw [HPn.out]; exact putRow_at Hno.out HprZ.out hG)
                obtain ⟨hst1, hst2⟩ := O9.out.stored j (.slice (some ⟨g8, 0, none⟩) (nr + 1) c8)
                have Hst1 := Lib.hid hst1
                have Hst2 := Lib.hid hst2
                have z13 := O9.out.frozenAt j
                have hc13 : ∃ v, w9.cell? ⟨go, j, none⟩ = some v := by
                  have hlen : j < (R.map rowV).length := by rw [List.length_map, HR.out]; omega
                  obtain ⟨b', off', ha, _, hc⟩ := (Row.of_own O9.out) j _ (List.getElem?_eq_getElem hlen)
                  injection ha with ha
                  injection ha with e1 e2
                  subst e1 e2
                  exact ⟨_, by rwa [Nat.zero_add] at hc⟩
                obtain ⟨v13, c13⟩ := hc13
                clear hst1 hst2 hG
                go_wp2
                go_roundw
                case rel =>
                  refine ⟨j + 1, true, by omega, by go_num, rfl, nofun, fun _ => ?_⟩
                  have hnew : RStands w9 (some go) (⟨some ⟨g8, 0, none⟩, c8⟩, rl ++ [p]) := ⟨by rw [List.length_append, Hnr.out]; exact Hg8.out.1, Hg8.out.2.1, g8, rfl, fun h => by injection h with h; have := Hg8.out.2.2.1; omega, Hg8.out.2.2.2, R9.out⟩
                  have hrow' : ∀ x : RowA × List SP, RStands w9 (some go) x → RStands (w9.setCell ⟨go, j, none⟩ (.slice (some ⟨g8, 0, none⟩) (nr + 1) c8)) (some go) x := fun x hx => hx.grown Hst2.out (.inl rfl)
                  refine ⟨R.set j (⟨some ⟨g8, 0, none⟩, c8⟩, rl ++ [p]), by rw [List.length_set]; exact HR.out, ?_, fun q hq => ?_, ?_, (bnext E6.out F9.out).grown Hst2.out (by omega) (fun h hh => by injection hh with hh; subst hh; exact hgo1)⟩
                  · rw [List.map_set]
                    have : rowV (⟨some ⟨g8, 0, none⟩, c8⟩, rl ++ [p]) = .slice (some ⟨g8, 0, none⟩) (nr + 1) c8 := by
                      unfold rowV
                      rw [List.length_append, Hnr.out]; rfl
                    rw [this]
                    exact Hst1.out
                  · rcases List.mem_or_eq_of_mem_set hq with h | h
                    · exact hrow' q ((St6.out q h).below F9.out)
                    · rw [h]; exact hrow' _ hnew
                  · rw [List.map_set, Hmap.out, HPf.out]
                case measure => simp [intOf]; omega
            · have hjk' : j = k := by omega
              have t5 : decide ((j : Int) < (k : Int)) = false := decide_eq_false (by omega)
              have t5' : ¬ ((j : Int) < (k : Int)) := by omega
              have HPf := Lib.hid (show partsTo good L (m + 1) = partsTo good L m ++ [[p]] by rw [HPn.out]; exact putRow_none (fun i x hi hx => Hno.out i x (by have := HkR.out; omega) hx))
              subst hjk'
              have hlo := own_row_lt' O6.out
              have Hlo := Lib.hid hlo
              clear hlo
              go_wp2_with (first | (refine wpList_load_part_w rfl 51 (.tmp 72) rfl b (off + m * 6) rfl cs _ FX6.out Try.underlying51 rfl HFl.out ?_) | (refine wpList_build_1 rfl 48 51 (.tmp 73) rfl i0 z0 6 Try.underlying48 hi hz0 hi1 (by omega) (by omega) cs.toArray rfl Hfz.out ?_) | (refine wpList_build_1 rfl 59 48 (.tmp 74) rfl iR _ 1 Try.underlying59 hiR hzR0 hzR1 (by omega) (by omega) #[.slice (some ⟨wr.heap.size, 0, none⟩) 1 1] rfl rfl ?_) | (at_builtin; refine wpList_app _ rfl (.tmp 69) (.tmp 75) 59 rfl w2.heap.size 48 iR _ 1 24 Try.underlying59 hiR hzR0 hzR1 hzR2 rfl (by omega) (.slice A' j cc) j (R.map rowV) rfl ((O6.out.alloc _).alloc _) ((wr.alloc (.cells cs.toArray 51)).heap.size + 1) (some ⟨(wr.alloc (.cells cs.toArray 51)).heap.size, 0, none⟩) 1 1 [.slice (some ⟨wr.heap.size, 0, none⟩) 1 1] rfl rfl (Row.new (wr.alloc (.cells cs.toArray 51)) 48 [.slice (some ⟨wr.heap.size, 0, none⟩) 1 1]) (fun u hu => by simp at hu; subst hu; rfl) (by omega) (by omega) (by simp; omega) ?_; intro A2 c2 w7 hown7 hgrow7 hat7 hcc7))
              obtain ⟨U1, hU1⟩ : ∃ U1, wr.alloc (.cells cs.toArray 51) = U1 := ⟨_, rfl⟩
              obtain ⟨U2, hU2⟩ : ∃ U2, U1.alloc (.cells #[.slice (some ⟨wr.heap.size, 0, none⟩) 1 1] 48) = U2 := ⟨_, rfl⟩
              rw [hU1, hU2] at hgrow7
              have HU2 := Lib.hid (show Below wr.heap.size wr U2 by rw [← hU2, ← hU1]; exact bnext (bnew wr _) (bnew _ _))
              have HNr := Lib.hid (show RStands U2 (Value.slice A' j cc).ownBlock (⟨some ⟨wr.heap.size, 0, none⟩, 1⟩, [p]) from ⟨Nat.le_refl _, by show (1 : Nat) ≤ _; omega, wr.heap.size, rfl, fun h => by have := Hlo.out _ h; omega, by rw [← hU2, ← hU1]; simp; omega, by
                have h1 := Row.new wr 51 cs
                rw [hU1] at h1
                have h2 : Below U1.heap.size U1 U2 := by rw [← hU2]; exact bnew _ _
                have h3 : wr.heap.size + 1 = U1.heap.size := by rw [← hU1]; simp
                rw [h3] at h1
                show Row U2 U2.heap.size (some ⟨wr.heap.size, 0, none⟩) (headCells [p])
                rw [show headCells [p] = cs by simp [headCells, Hcs.out]]
                exact h1.later h2⟩)
              have E7 := Lib.hid ((bnext E6.out HU2.out).grown hgrow7 (by have := HU2.out.size; omega) (fun g h => Hge.out g h))
              have HG7 := Lib.hid hgrow7
              have Hsz := Lib.hid (show U2.heap.size = wr.heap.size + 1 + 1 by rw [← hU2, ← hU1]; simp)
              have Hat := Lib.hid hat7
              clear hU1 hU2 hgrow7 hat7
              go_wp2
              go_roundw
              case rel =>
                have hat : (Value.slice A2 (j + 1) c2).ownBlock = (Value.slice A' j cc).ownBlock ∨ (Value.slice A2 (j + 1) c2).ownBlock = some U2.heap.size := by
                  rw [Hsz.out]
                  have := Hat.out
                  simpa using this
                refine ⟨m + 1, j + 1, R ++ [(⟨some ⟨wr.heap.size, 0, none⟩, 1⟩, [p])], A2, c2, by omega, by go_num, by simp [HR.out], rfl, by rw [List.map_append]; exact hown7, fun q hq => ?_, by rw [List.map_append, HPf.out, Hmap.out]; rfl, E7.out⟩
                rcases List.mem_append.1 hq with h | h
                · exact ((St6.out q h).below HU2.out).grown HG7.out hat
                · rw [List.mem_singleton] at h
                  rw [h]
                  exact HNr.out.grown HG7.out hat
              case measure => simp [intOf]; omega
          · have HD := Lib.hid (htr rfl)
            clear htr hfl
            by_cases hjk : j < k
            all_goals
              first | (have t5 : decide ((j : Int) < (k : Int)) = true := decide_eq_true (by omega)) | (have t5 : decide ((j : Int) < (k : Int)) = false := decide_eq_false (by omega))
              go_wp2
              go_roundw
              case rel =>
                obtain ⟨R', h1, h2, h3, h4, h5⟩ := HD.out
                exact ⟨m + 1, k, R', A', cc, by omega, by go_num, h1, rfl, h2, h3, h4, h5⟩
              case measure => simp [intOf]; omega
    · have hmn : m = n := by omega
      have t1 : ¬ ((m : Int) < (n : Int)) := by omega
      have hkk : kg = k := by rw [← Hkg.out, ← HR.out, ← List.length_map, HRg.out, ← hmn, ← Hmap.out, List.length_map]
      have HZ := Lib.hid (show R.map Prod.snd = Rg.map Prod.snd by rw [HRg.out, Hmap.out, hmn])
      have HMe := Lib.hid (fun W (hW : Below w1.heap.size w1 W) (nm : ByteArray) (rate : Int) (lp : Bool) (fr tt : Int) (da : Option Addr) (dl dc : Nat) (sv : SampV) (h : (((⟨nm, rate, lp, fr, tt, da, dl, dc⟩ : HSamp), sv) : SP) ∈ L) => (show Calls Try.prog 24 #[.agg #[.string nm, .int .i64 rate, .bool lp, .int .i64 fr, .int .i64 tt, .slice da dl dc]] W fun e w' => e = .returned (.agg #[.string nm, .int .i64 (len0 sv.rows), .int .i64 rate, .int .i64 dl, .bool lp, .int .i64 fr, .int .i64 tt, .int .i64 0, .int .i64 0]) ∧ Below W.heap.size W w' from by
        obtain ⟨⟨_, _, _, _, _, h6⟩, _, _, vs, hv1, hv2⟩ := HFit.out W hW _ h
        have h6 : dl = sv.rows.length := h6
        exact Meta_any nm rate lp fr tt da dc vs sv.rows W dl h6.symm hv1 hv2))
      have Hinn := Lib.hid (HIn.out m)
      subst hmn hkk
      have hk8 : kg ≤ 8 := by have := Hinn.out.len; rw [← Hmap.out, List.length_map, HR.out] at this; omega
      have Rw := Lib.hid (Row.of_own Hown.out)
      have Rg2 := Lib.hid (Hrg.out.later Hbel.out)
      have Sg2 := Lib.hid (fun q hq => (Hsg.out q hq).below Hbel.out)
      have Sw2 := Lib.hid (fun q hq => (Hst.out q hq).free)
      have E9 := Lib.hid (bnext E2.out Hbel.out)
      have B19 := Lib.hid (bnext B12.out Hbel.out)
      clear Hown Hrg Hsg Hst HSu HSa HFits HFit HIn Hge
      go_wp2_with fail
      go_loopw [13] (fun i wx => ∃ q : Nat, q ≤ kg ∧ i = .int .i64 q ∧ Below wr.heap.size wr wx) (fun i _ => kg - (intOf i).toNat)
      case atStart => exact ⟨0, by omega, rfl, Below.refl _ _⟩
      case round =>
        obtain ⟨q, hq, rfl, hbel⟩ := hrel
        have Hb3 := Lib.hid hbel
        clear hbel
        by_cases hlq : q < kg
        · have t3 : (q : Int) < (kg : Int) := by omega
          have t4 : (0 : Int) ≤ (q : Int) := by omega
          obtain ⟨G, hG⟩ := list_get (k := q) Hkg.out hlq
          obtain ⟨T, hT⟩ := list_get (k := q) HR.out hlq
          have hGT : G.2 = T.2 := by
            have h1 : (R.map Prod.snd)[q]? = some T.2 := by rw [List.getElem?_map, hT]; rfl
            rw [HZ.out, List.getElem?_map, hG] at h1
            exact Option.some.inj h1
          obtain ⟨_, hlen, hin⟩ := Hinn.out.each T.2 (by rw [← Hmap.out]; exact List.mem_map.2 ⟨T, List.mem_of_getElem? hT, rfl⟩)
          obtain ⟨bg, og, hAg, hbg, hcg⟩ := Rg2.out q (rowV G) (by rw [List.getElem?_map, hG]; rfl)
          obtain ⟨bw, ow, hAw, hbw, hcw⟩ := Rw.out q (rowV T) (by rw [List.getElem?_map, hT]; rfl)
          obtain ⟨_, _, g1, hg1, _, _, hr1⟩ := Sg2.out G (List.mem_of_getElem? hG)
          obtain ⟨_, _, g2, hg2, _, _, hr2⟩ := Sw2.out T (List.mem_of_getElem? hT)
          obtain ⟨⟨ga, gcp⟩, gl⟩ := G
          obtain ⟨⟨ta, tcp⟩, rl⟩ := T
          simp only at hGT hg1 hg2 hr1 hr2 hlen hin
          subst hGT hg1 hg2 hAg hAw
          obtain ⟨nr, hnr⟩ : ∃ nr, gl.length = nr := ⟨_, rfl⟩
          unfold rowV at hcg hcw
          simp only [hnr] at hcg hcw
          rw [hnr] at hlen
          have HNr := Lib.hid hnr
          have Hin3 := Lib.hid hin
          have Hr1 := Lib.hid hr1
          have Hr2 := Lib.hid hr2
          have x5 := fun (z : GW wr) => (show z.1.cell? ⟨bg, og + q, none⟩ = some (.slice (some ⟨g1, 0, none⟩) nr gcp) from ((bnext Hb3.out z.2).cell (p := ⟨bg, og + q, none⟩) hbg).trans hcg)
          have y5 := fun (z : GW wr) => (show z.1.cell? ⟨bw, ow + q, none⟩ = some (.slice (some ⟨g2, 0, none⟩) nr tcp) from ((bnext Hb3.out z.2).cell (p := ⟨bw, ow + q, none⟩) hbw).trans hcw)
          have HX5 := Lib.hid (fun W (hW : Below wr.heap.size wr W) => x5 ⟨W, hW⟩)
          have HY5 := Lib.hid (fun W (hW : Below wr.heap.size wr W) => y5 ⟨W, hW⟩)
          clear hG hT hin hr1 hr2 hnr hbg hbw hcg hcw
          go_wp2_with fail
          refine wp_region_calm (by kernel_rfl) (by kernel_rfl) ?_
          repeat (go_big_quiet_step (fail))
          refine wpQuiet_nil ?_
          intro w3 hw'
          have B3 := Lib.hid (gw_below hw')
          clear hw' x5 y5
          go_wp2_with fail
          go_loopw [14] (fun i wx => ∃ t : Nat, t ≤ nr ∧ i = .int .i64 t ∧ Below w3.heap.size w3 wx) (fun i _ => nr - (intOf i).toNat)
          case atStart => exact ⟨0, by omega, rfl, Below.refl _ _⟩
          case round =>
            obtain ⟨t, ht, rfl, hbel⟩ := hrel
            have Hb4 := Lib.hid hbel
            clear hbel
            have z5 := HY5.out wr (bnext B3.out Hb4.out)
            by_cases hlt : t < nr
            · have t5 : (t : Int) < (nr : Int) := by omega
              have t6 : (0 : Int) ≤ (t : Int) := by omega
              obtain ⟨p, hp⟩ := list_get (k := t) HNr.out hlt
              have hpL := Hin3.out p (List.mem_of_getElem? hp)
              obtain ⟨b1, o1, ha1, hb1, hc1⟩ := samp_at Hr1.out hp
              obtain ⟨b2, o2, ha2, hb2, hc2⟩ := samp_at Hr2.out hp
              obtain ⟨⟨nm, rate, lp, fr, tt, da, dl, dc⟩, sv⟩ := p
              injection ha1 with ha1
              injection ha1 with e1 e2
              subst e1 e2
              injection ha2 with ha2
              injection ha2 with e3 e4
              subst e3 e4
              have x5 := fun (z : GW wr) => HX5.out z.1 (bnext (bnext B3.out Hb4.out) z.2)
              have y5 := fun (z : GW wr) => HY5.out z.1 (bnext (bnext B3.out Hb4.out) z.2)
              have X6 := Lib.hid (fun (z : GW wr) j v (hv : ([.string nm, .int .i64 rate, .bool lp, .int .i64 fr, .int .i64 tt, .slice da dl dc] : List Value)[j]? = some v) => (show z.1.cell? ⟨g1, t * 6 + j, none⟩ = some v from by
                have h1 := ((bnext Hb3.out (bnext (bnext B3.out Hb4.out) z.2)).cell (p := ⟨g1, 0 + t * 6 + j, none⟩) hb1).trans (hc1 j v hv)
                rwa [Nat.zero_add] at h1))
              have Y6 := Lib.hid (fun (z : GW wr) j v (hv : ([.string nm, .int .i64 rate, .bool lp, .int .i64 fr, .int .i64 tt, .slice da dl dc] : List Value)[j]? = some v) => (show z.1.cell? ⟨g2, t * 6 + j, none⟩ = some v from by
                have h1 := ((bnext Hb3.out (bnext (bnext B3.out Hb4.out) z.2)).cell (p := ⟨g2, 0 + t * 6 + j, none⟩) hb2).trans (hc2 j v hv)
                rwa [Nat.zero_add] at h1))
              have HM := Lib.hid (fun (z : GW wr) => HMe.out z.1 (bnext B19.out (bnext Hb3.out (bnext (bnext B3.out Hb4.out) z.2))) nm rate lp fr tt da dl dc sv hpL)
              have HFl := Lib.hid (show (Try.prog.info? 51).map (·.size) = some 6 by rw [hi]; exact congrArg some hi1)
              generalize len0 sv.rows = ll at *
              clear hp hpL hb1 hc1 hb2 hc2
              go_wp2_with fail
              refine wp_region_calm (by kernel_rfl) (by kernel_rfl) ?_
              repeat (first | (go_big_quiet_want; refine quiet_load_part 51 (.tmp 113) rfl g1 (t * 6) rfl [.string nm, .int .i64 rate, .bool lp, .int .i64 fr, .int .i64 tt, .slice da dl dc] _ (by rintro _ ⟨x, rfl⟩; exact X6.out x) Try.underlying51 rfl HFl.out ?_; go_simp; go_big_quiet_on) | (go_big_quiet_want; refine quiet_load_part 51 (.tmp 121) rfl g2 (t * 6) rfl [.string nm, .int .i64 rate, .bool lp, .int .i64 fr, .int .i64 tt, .slice da dl dc] _ (by rintro _ ⟨x, rfl⟩; exact Y6.out x) Try.underlying51 rfl HFl.out ?_; go_simp; go_big_quiet_on) | go_big_quiet_step ((go_at_call 24; exact calm_call (HM.out _))))
              refine wpQuiet_nil ?_
              intro w5 hw'
              have B5 := Lib.hid (gw_below hw')
              clear hw' x5 y5
              go_wp2
              go_roundw
              case rel => exact ⟨t + 1, by omega, by go_num, bnext Hb4.out B5.out⟩
              case measure => simp [intOf]; omega
            · have htn : t = nr := by omega
              have t5 : ¬ ((t : Int) < (nr : Int)) := by omega
              go_wp2
              go_roundw
              case rel => exact ⟨q + 1, by omega, by go_num, bnext Hb3.out (bnext B3.out Hb4.out)⟩
              case measure => simp [intOf]; omega
        · have hqk : q = kg := by omega
          have t3 : ¬ ((q : Int) < (kg : Int)) := by omega
          go_wp2_with (go_at_call 25; refine (HAw.out _).mono ?_; rintro e w9 ⟨rfl, hb9⟩)
          go_ret
          exact ⟨rfl, bnext E9.out (bnext Hb3.out hb9)⟩
theorem QuotaParts_law (W : World) (v0 v1 v2 : Value) (a0 : Arg W (.int .i64) v0) (a1 : Arg W (.int .i64) v1) (a2 : Arg W (.slice 6 sampTy) v2) :
    Calls Try.prog 5 #[v0, v1, v2] W fun e w' => e = .returned (.bool true) ∧ Below W.heap.size W w' := by
  obtain ⟨size, ha, _, _⟩ := a0
  obtain rfl : v0 = .int .i64 size := by simpa using ha
  obtain ⟨room, hb, _, _⟩ := a1
  obtain rfl : v1 = .int .i64 room := by simpa using hb
  obtain ⟨L, A, cap, rfl, _, _, _, hs, hn⟩ := samps_arg a2
  exact QuotaParts_walk size room L A cap W hs hn
end Go.Proofs.Ytbgkoopfdfnmcaa
