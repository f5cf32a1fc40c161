/- EdQ. Conditions: as each theorem states. -/
import Derived.Laws.IdiomCopy
import Derived.Test.YtgcfkblmnpnogaaGreatDoorPoxEdP
namespace Go.Proofs.YtgcfkblmnpnogaaGreatDoor
open Go.RowKit Go.Lib
set_option maxRecDepth 100000 in
set_option maxHeartbeats 4000000 in
theorem del_at (L : List (HRaw × RawV)) (A : Option Addr) (c i base : Nat) (w : World) (hi : i < L.length) (hL : L.length ≤ 1000) (hb : base ≤ w.heap.size) (h : RawsAt w base A c L) :
  Calls Tryz.prog 91 #[.slice A L.length c, .int .i64 i, .int .i64 ((i : Int) + 1)] w fun e w' => e = .returned (.slice A (List.length (L.eraseIdx i)) c) ∧ RawsAt w' base A c (L.eraseIdx i) ∧ w.grownBy w' (Value.slice A L.length c).ownBlock := by
 obtain ⟨i0, hi0, ⟨z0, hz0, hz0s⟩, hi1, hi2⟩ := raw_info
 have hown := h.own
 obtain ⟨n, hn⟩ : ∃ n, L.length = n := ⟨_, rfl⟩
 rw [hn] at hi hL hown ⊢
 obtain ⟨k, rfl⟩ : ∃ k, n = k + 1 := ⟨n - 1, by omega⟩
 rcases hown.2 with ⟨_, h0⟩ | ⟨g, cap, cur, hv, hbg, hg, hnc, hcm, hcs, htk⟩
 ·omega
 injection hv with e1 _ e3
 subst e1 e3
 obtain ⟨m, hm⟩ : ∃ m, k - i = m := ⟨_, rfl⟩
 have him : i + m = k := by omega
 have hel : (L.eraseIdx i).length = k := by rw [List.length_eraseIdx]; rw [if_pos (by omega)]; omega
 have hes : rawsC (L.eraseIdx i) = rawsC (L.take i) ++ rawsC (L.drop (i + 1)) := by rw [List.eraseIdx_eq_take_drop_succ, rawsC_app]
 have hnl : (rawsC (L.drop (i + 1))).length = m * 10 := by rw [rawsC_len, List.length_drop]; congr 1; omega
 have htl : (rawsC (L.take i)).length = i * 10 := by rw [rawsC_len, List.length_take]; congr 1; omega
 have hct : cur.toList.take (i * 10) = rawsC (L.take i) := by
  have h1 := congrArg (List.take (i * 10)) htk
  rw [List.take_take, Nat.min_eq_left (by omega), rawsC_take] at h1
  exact h1
 have hro := Row.of_own hown
 obtain ⟨ad, m', cc, hsl, hcells⟩ : ∃ (ad : Addr) (m' cc : Nat), (c = i + 1 → ad = ⟨g, 0, none⟩ ∧ m' = 0 ∧ cc = 0) ∧ ((¬ c = i + 1 → ad = ⟨g, (i + 1) * 10, none⟩ ∧ m' = m ∧ cc = c - (i + 1)) ∧ m' = m ∧ ∀ j u, (rawsC (L.drop (i + 1)))[j]? = some u → w.cell? (ad.add j) = some u) := by
  by_cases hcc : c = i + 1
  ·refine ⟨⟨g, 0, none⟩, 0, 0, fun _ => ⟨rfl, rfl, rfl⟩, fun h => absurd hcc h, by omega, fun j u hu => ?_⟩
   rw [List.drop_eq_nil_of_le (by omega)] at hu
   simp [rawsC] at hu
  ·refine ⟨⟨g, (i + 1) * 10, none⟩, m, c - (i + 1), fun h => absurd h hcc, fun _ => ⟨rfl, rfl, rfl⟩, rfl, fun j u hu => ?_⟩
   have h1 := hro.drop_ ((i + 1) * 10)
   rw [rawsC_drop] at h1
   obtain ⟨b', o', hA', _, hcl⟩ := h1 j u hu
   injection hA' with hA'
   injection hA' with e1 e2
   subst e1 e2
   rw [Nat.zero_add] at hcl
   unfold Addr.add
   split
   ·rename_i hj
    have hj : j = 0 := by simpa using hj
    subst hj
    exact hcl
   ·exact hcl
 obtain ⟨hcells, rfl, hcl⟩ := hcells
 have HSl := hid hsl
 have HCl := hid hcells
 obtain ⟨X, hX⟩ : ∃ X, (cur.toList.take (i * 10) ++ rawsC (L.drop (i + 1)) ++ cur.toList.drop (i * 10 + (rawsC (L.drop (i + 1))).length)).toArray = X := ⟨_, rfl⟩
 have hXs : X.size = c * 10 := by
  rw [← hX, List.size_toArray, List.length_append, List.length_append, List.length_take, List.length_drop, hnl, Array.length_toList, hcs]
  omega
 have hXt : X.toList.take (k * 10) = rawsC (L.eraseIdx i) := by
  rw [hes, ← hX, hct, List.take_append_of_le_length (by rw [List.length_append, htl, hnl]; omega), List.take_of_length_le (by rw [List.length_append, htl, hnl]; omega)]
 have hap := fun (z : GW w) (ty : TypeId) => (show (Builtin.append_ #[145, 145] ty #[.slice (some ⟨g, 0, none⟩) i c, .slice (some ad) m' cc]).run Tryz.prog z.1 = .ok (.slice (some ⟨g, 0, none⟩) k c) (z.1.setRow g X) from by
  have hgl : g < w.heap.size := hlt hg
  have := run_append_room (P := Tryz.prog) z.1 145 ty 149 i0 Tryz.underlying145 hi0 g i c cur ((z.2.block g hgl).trans hg) ad m' cc (rawsC (L.drop (i + 1))) (by rw [hnl, hi1]) (fun j u hu => by
   have hab : (ad.add j).block = g := by
    by_cases hcc : c = i + 1
    ·rw [(HSl.out hcc).1]; unfold Addr.add; split <;> rfl
    ·rw [(HCl.out hcc).1]; unfold Addr.add; split <;> rfl
   exact (z.2.cell (by rw [hab]; exact hgl)).trans (hcl j u hu)) (rawsC_one _) (by omega) (by rw [hi1, hnl, hcs]; omega)
  rw [hi1, him, hX] at this
  exact this)
 clear hcl hsl hcells
 have HXs := hid hXs
 have HXt := hid hXt
 have Hel := hid hel
 have Hb := hid hb
 have Hg := hid hg
 have Hbg := hid hbg
 have Hcm := hid hcm
 have Hown := hid hown
 have Hea := hid (fun p (hp : p ∈ L.eraseIdx i) => h.each p (List.eraseIdx_subset hp))
 have Hes := hid (show (rawsC (L.eraseIdx i)).length = k * 10 by rw [rawsC_len, hel])
 rw [hel]
 have t1 : ((i : Int) == (i : Int) + 1) = false := beq_eq_false_iff_ne.2 (by omega)
 have t2 : (0 : Int) ≤ (i : Int) := by omega
 have t3 : (i : Int) + 1 ≤ ((k + 1 : Nat) : Int) := by omega
 have t4 : ((k + 1 : Nat) : Int) ≤ (c : Int) := by omega
 have t5 : (i : Int) ≤ (c : Int) := by omega
 have hkc : k + 1 ≤ c := hnc
 clear hXs hXt hel hb hg hbg hcm hown h hes hnl htl hct hro hX hcs htk hL hm
 by_cases hcc : c = i + 1
 ·obtain ⟨rfl, rfl, rfl⟩ := HSl.out hcc
  have y6 : c - (i + 1) = 0 := by omega
  have y7 : k + 1 - (i + 1) = 0 := by omega
  clear hcc HSl HCl
  go_enter Tryz.func91, Tryz.ntmps91
  go_wp2_with fail
  refine wp_region_calm_tail 6 (by kernel_rfl) (by kernel_rfl) ?_
  simp only [List.take_succ_cons, List.take_zero, List.drop_succ_cons, List.drop_zero]
  repeat (go_big_quiet_step (fail))
  refine wpQuiet_nil ?_
  intro w5 hw'
  have B5 := hid (gw_below hw')
  have ha := hap ⟨w5, B5.out⟩
  clear hw' hap
  obtain ⟨W, hW⟩ : ∃ W, w5.setRow g X = W := ⟨_, rfl⟩
  have ha : ∀ ty, (Builtin.append_ #[145, 145] ty #[.slice (some ⟨g, 0, none⟩) i c, .slice (some ⟨g, 0, none⟩) 0 0]).run Tryz.prog w5 = .ok (.slice (some ⟨g, 0, none⟩) k c) W := fun ty => by rw [← hW]; exact ha ty
  have hg5 := hid (show w5.heap[g]? = some (.cells cur 149 (0, 0)) from (B5.out.block g (hlt Hg.out)).trans Hg.out)
  have HgW := hid (show Blk W g 149 X.toList by
   rw [← hW]
   have := setRow_at w5 g 149 cur X hg5.out
   show (w5.setRow g X).heap[g]? = some (.cells X.toList.toArray 149 (0, 0))
   rw [Array.toArray_toList]
   exact this)
  have GW1 := hid (show w5.grownBy W (some g) by rw [← hW]; exact grown_row2 (World.grownBy.refl _ _) _)
  have hcr := run_clear_raw W
  have hcr2 := fun ty => hcr ty g (k * 10) (c - k) (fun j hj => by rw [blk_cells HgW.out, List.getElem?_eq_getElem (by rw [Array.length_toList, HXs.out]; omega)]; rfl) (fun j _ => blk_free HgW.out _)
  clear hcr hW
  have own1 := hid (show W.ownsRow base 149 10 (.slice (some ⟨g, 0, none⟩) k c) k (rawsC (L.eraseIdx i)) from ⟨Hes.out, .inr ⟨g, c, X, rfl, Hbg.out, (by
   have := HgW.out
   unfold Blk at this
   rw [Array.toArray_toList] at this
   exact this), by omega, Hcm.out, HXs.out, HXt.out⟩⟩)
  have Hot := hid (own_tail rawZ (k * 10) W own1.out (Nat.le_refl _))
  obtain ⟨W2, hW2⟩ : ∃ W2, W.setCells g (k * 10) rawZ = W2 := ⟨_, rfl⟩
  rw [hW2] at hcr2 Hot
  have z1 : (k : Int) ≤ ((k + 1 : Nat) : Int) := by omega
  have z2 : (0 : Int) ≤ (k : Int) := by omega
  have z3 : ¬ (c - k = 0) := by omega
  have z4 : k + 1 - k = 1 := by omega
  have ha0 := hid (ha 145)
  have hcr0 := hcr2 0
  clear hW2 ha hcr2
  go_wp2_with (at_builtin; refine wpList_append_eq rfl (.tmp 22) (.tmp 25) 145 145 rfl _ _ _ rfl rfl ha0.out ?_)
  go_ret
  refine ⟨rfl, ⟨?_, fun p hp => ?_⟩, ?_⟩
  ·rw [Hel.out]; exact Hot.out.1
  ·exact ((Hea.out p hp).below B5.out).far (own_below Hown.out B5.out) (by decide) (by decide) (grownBy_trans GW1.out Hot.out.2)
  ·exact grownBy_trans (grownBy_below (World.grownBy.refl w (some g)) B5.out) (grownBy_trans GW1.out Hot.out.2)
 ·obtain ⟨rfl, _, rfl⟩ := HCl.out hcc
  have y6 : ¬ (c - (i + 1) = 0) := by omega
  have y7 : k + 1 - (i + 1) = m' := by omega
  clear hcc HSl HCl
  go_enter Tryz.func91, Tryz.ntmps91
  go_wp2_with fail
  refine wp_region_calm_tail 6 (by kernel_rfl) (by kernel_rfl) ?_
  simp only [List.take_succ_cons, List.take_zero, List.drop_succ_cons, List.drop_zero]
  repeat (go_big_quiet_step (fail))
  refine wpQuiet_nil ?_
  intro w5 hw'
  have B5 := hid (gw_below hw')
  have ha := hap ⟨w5, B5.out⟩
  clear hw' hap
  obtain ⟨W, hW⟩ : ∃ W, w5.setRow g X = W := ⟨_, rfl⟩
  have ha : ∀ ty, (Builtin.append_ #[145, 145] ty #[.slice (some ⟨g, 0, none⟩) i c, .slice (some ⟨g, (i + 1) * 10, none⟩) m' (c - (i + 1))]).run Tryz.prog w5 = .ok (.slice (some ⟨g, 0, none⟩) k c) W := fun ty => by rw [← hW]; exact ha ty
  have hg5 := hid (show w5.heap[g]? = some (.cells cur 149 (0, 0)) from (B5.out.block g (hlt Hg.out)).trans Hg.out)
  have HgW := hid (show Blk W g 149 X.toList by
   rw [← hW]
   have := setRow_at w5 g 149 cur X hg5.out
   show (w5.setRow g X).heap[g]? = some (.cells X.toList.toArray 149 (0, 0))
   rw [Array.toArray_toList]
   exact this)
  have GW1 := hid (show w5.grownBy W (some g) by rw [← hW]; exact grown_row2 (World.grownBy.refl _ _) _)
  have hcr := run_clear_raw W
  have hcr2 := fun ty => hcr ty g (k * 10) (c - k) (fun j hj => by rw [blk_cells HgW.out, List.getElem?_eq_getElem (by rw [Array.length_toList, HXs.out]; omega)]; rfl) (fun j _ => blk_free HgW.out _)
  clear hcr hW
  have own1 := hid (show W.ownsRow base 149 10 (.slice (some ⟨g, 0, none⟩) k c) k (rawsC (L.eraseIdx i)) from ⟨Hes.out, .inr ⟨g, c, X, rfl, Hbg.out, (by
   have := HgW.out
   unfold Blk at this
   rw [Array.toArray_toList] at this
   exact this), by omega, Hcm.out, HXs.out, HXt.out⟩⟩)
  have Hot := hid (own_tail rawZ (k * 10) W own1.out (Nat.le_refl _))
  obtain ⟨W2, hW2⟩ : ∃ W2, W.setCells g (k * 10) rawZ = W2 := ⟨_, rfl⟩
  rw [hW2] at hcr2 Hot
  have z1 : (k : Int) ≤ ((k + 1 : Nat) : Int) := by omega
  have z2 : (0 : Int) ≤ (k : Int) := by omega
  have z3 : ¬ (c - k = 0) := by omega
  have z4 : k + 1 - k = 1 := by omega
  have ha0 := hid (ha 145)
  have hcr0 := hcr2 0
  clear hW2 ha hcr2
  go_wp2_with (at_builtin; refine wpList_append_eq rfl (.tmp 22) (.tmp 25) 145 145 rfl _ _ _ rfl rfl ha0.out ?_)
  go_ret
  refine ⟨rfl, ⟨?_, fun p hp => ?_⟩, ?_⟩
  ·rw [Hel.out]; exact Hot.out.1
  ·exact ((Hea.out p hp).below B5.out).far (own_below Hown.out B5.out) (by decide) (by decide) (grownBy_trans GW1.out Hot.out.2)
  ·exact grownBy_trans (grownBy_below (World.grownBy.refl w (some g)) B5.out) (grownBy_trans GW1.out Hot.out.2)
end Go.Proofs.YtgcfkblmnpnogaaGreatDoor
