/- EdD, EdE, EdG, EdI, EdJ, EdH, EdK, EdL. Conditions: as each theorem states. -/
import Derived.Laws.IdiomCopy
import Derived.Test.YtgcfkblmnpnogaaGreatDoorPo45
import Derived.Test.YtgcfkblmnpnogaaGreatDoorPo42
import Derived.Test.YtgcfkblmnpnogaaGreatDoorPo35
namespace Go.Proofs.YtgcfkblmnpnogaaGreatDoor
open Go.RowKit Go.Lib
theorem rawsC_take (L : List (HRaw × RawV)) (k : Nat) : (rawsC L).take (k * 10) = rawsC (L.take k) := by
 by_cases hk : k ≤ L.length
 ·have e : rawsC L = rawsC (L.take k) ++ rawsC (L.drop k) := by rw [← rawsC_app, List.take_append_drop]
  have hl : (rawsC (L.take k)).length = k * 10 := by rw [rawsC_len, List.length_take, Nat.min_eq_left hk]
  rw [e, List.take_append_of_le_length (by omega), List.take_of_length_le (by omega)]
 ·rw [List.take_of_length_le (by rw [rawsC_len]; omega), List.take_of_length_le (by omega)]
theorem rawsC_drop (L : List (HRaw × RawV)) (k : Nat) : (rawsC L).drop (k * 10) = rawsC (L.drop k) := by
 by_cases hk : k ≤ L.length
 ·have e : rawsC L = rawsC (L.take k) ++ rawsC (L.drop k) := by rw [← rawsC_app, List.take_append_drop]
  have hl : (rawsC (L.take k)).length = k * 10 := by rw [rawsC_len, List.length_take, Nat.min_eq_left hk]
  rw [e, List.drop_append_of_le_length (by omega), List.drop_eq_nil_of_le (by omega), List.nil_append]
 ·rw [List.drop_eq_nil_of_le (by rw [rawsC_len]; omega), List.drop_eq_nil_of_le (by omega)]
  rfl
theorem own_tail {base size n cap g : Nat} {e : TypeId} {xs : List Value} : ∀ (vs : List Value) (o : Nat) (w : World), w.ownsRow base e size (.slice (some ⟨g, 0, none⟩) n cap) n xs → n * size ≤ o →
  (w.setCells g o vs).ownsRow base e size (.slice (some ⟨g, 0, none⟩) n cap) n xs ∧ w.grownBy (w.setCells g o vs) (some g)
 | [], _, w, h, _ => ⟨h, World.grownBy.refl _ _⟩
 | v :: r, o, w, h, ho => by
  obtain ⟨h1, h2⟩ := h.stored o v
  rw [List.set_eq_of_length_le (by rw [h.1]; exact ho)] at h1
  obtain ⟨h3, h4⟩ := own_tail r (o + 1) _ h1 (by omega)
  exact ⟨h3, grownBy_trans h2 h4⟩
theorem wpList_append_eq {P : Program} {ops : Array Oper} {rest : List Oper} {o : Oper} {a : Act} {w w' : World} {Q : Exit → Act → World → Prop} (hgd : o.guard = none) (s x : Operand) (t t2 : TypeId)
  (ho : o.op = .call { callee := .builtin .append, args := #[s, x], argTypes := #[t, t2] }) (v u r : Value) (hs : a.eval s = v) (hx : a.eval x = u)
  (hrun : (Builtin.append_ #[t, t2] o.type #[v, u]).run P w = .ok r w') (h : wpList P ops Q rest (a.put o.dst r) w') : wpList P ops Q (o :: rest) a w := by
 refine wpList_plain hgd fun K hK => ?_
 unfold Oper.wp execOp
 simp only [ho, resolve, invoke, builtin, Sem.run_bind, Sem.run_pure, Result.andThen_ok, List.map_toArray, List.map_cons, List.map_nil, hs, hx, hrun]
 exact hK _ _ h
def rawZ : List Value := [.string ⟨#[]⟩, .int .i64 0, .int .i64 0, .int .i64 0, .bool false, .int .i64 0, .int .i64 0, .int .i64 0, .int .i64 0, .slice none 0 0]
theorem run_clear_raw (w : World) (ty : TypeId) (b o c : Nat) (hc : ∀ j, j < 10 → (w.cell? ⟨b, o + j, none⟩).isSome = true) (hf : ∀ j, j < 10 → w.frozen? ⟨b, o + j, none⟩ = false) :
  (Builtin.clear_ #[145] ty #[.slice (some ⟨b, o, none⟩) 1 c]).run Tryz.prog w = .ok (.tuple #[]) (w.setCells b o rawZ) := by
 have hst := run_storeCells_cells (P := Tryz.prog) b o rawZ 0 w (by simpa [rawZ] using hc) (by simpa [rawZ] using hf) (by decide)
 simp only [Nat.add_zero] at hst
 have hz : (Builtin.zeroCells (Value.agg #[.string ⟨#[]⟩, .int .i64 0, .int .i64 0, .int .i64 0, .bool false, .int .i64 0, .int .i64 0, .int .i64 0, .int .i64 0, .slice none 0 0]).cells 1).toList = rawZ := by kernel_rfl
 have hv := fun w => Tryz.zeroValue149 w
 simp [Builtin.clear_, run_underlying Tryz.underlying145, hv]
 rw [hz, hst]
 rfl
set_option maxRecDepth 100000 in
set_option maxHeartbeats 4000000 in
theorem del_any (L : List (HRaw × RawV)) (A : Option Addr) (c i base : Nat) (w : World) (hi : i < L.length) (hL : L.length ≤ 1000) (hb : base ≤ w.heap.size) (h : RawsAt w base A c L) :
  Calls Tryz.prog 91 #[.slice A L.length c, .int .i64 i, .int .i64 ((i : Int) + 1)] w fun e w' => ∃ A' c', e = .returned (.slice A' (List.length (L.eraseIdx i)) c') ∧ RawsAt w' base A' c' (L.eraseIdx i) ∧ Below base w w' := by
 obtain ⟨i0, hi0, ⟨z0, hz0, hz0s⟩, hi1, hi2⟩ := raw_info
 have hown := h.own
 obtain ⟨n, hn⟩ : ∃ n, L.length = n := ⟨_, rfl⟩
 rw [hn] at hi hL hown ⊢
 obtain ⟨k, rfl⟩ : ∃ k, n = k + 1 := ⟨n - 1, by omega⟩
 rcases hown.2 with ⟨_, h0⟩ | ⟨g, cap, cur, hv, hbg, hg, hnc, hcm, hcs, htk⟩
 ·omega
 injection hv with e1 _ e3
 subst e1 e3
 obtain ⟨m, hm⟩ : ∃ m, k - i = m := ⟨_, rfl⟩
 have him : i + m = k := by omega
 have hel : (L.eraseIdx i).length = k := by rw [List.length_eraseIdx]; rw [if_pos (by omega)]; omega
 have hes : rawsC (L.eraseIdx i) = rawsC (L.take i) ++ rawsC (L.drop (i + 1)) := by rw [List.eraseIdx_eq_take_drop_succ, rawsC_app]
 have hnl : (rawsC (L.drop (i + 1))).length = m * 10 := by rw [rawsC_len, List.length_drop]; congr 1; omega
 have htl : (rawsC (L.take i)).length = i * 10 := by rw [rawsC_len, List.length_take]; congr 1; omega
 have hct : cur.toList.take (i * 10) = rawsC (L.take i) := by
  have h1 := congrArg (List.take (i * 10)) htk
  rw [List.take_take, Nat.min_eq_left (by omega), rawsC_take] at h1
  exact h1
 have hro := Row.of_own hown
 obtain ⟨ad, m', cc, hsl, hcells⟩ : ∃ (ad : Addr) (m' cc : Nat), (c = i + 1 → ad = ⟨g, 0, none⟩ ∧ m' = 0 ∧ cc = 0) ∧ ((¬ c = i + 1 → ad = ⟨g, (i + 1) * 10, none⟩ ∧ m' = m ∧ cc = c - (i + 1)) ∧ m' = m ∧ ∀ j u, (rawsC (L.drop (i + 1)))[j]? = some u → w.cell? (ad.add j) = some u) := by
  by_cases hcc : c = i + 1
  ·refine ⟨⟨g, 0, none⟩, 0, 0, fun _ => ⟨rfl, rfl, rfl⟩, fun h => absurd hcc h, by omega, fun j u hu => ?_⟩
   rw [List.drop_eq_nil_of_le (by omega)] at hu
   simp [rawsC] at hu
  ·refine ⟨⟨g, (i + 1) * 10, none⟩, m, c - (i + 1), fun h => absurd h hcc, fun _ => ⟨rfl, rfl, rfl⟩, rfl, fun j u hu => ?_⟩
   have h1 := hro.drop_ ((i + 1) * 10)
   rw [rawsC_drop] at h1
   obtain ⟨b', o', hA', _, hcl⟩ := h1 j u hu
   injection hA' with hA'
   injection hA' with e1 e2
   subst e1 e2
   rw [Nat.zero_add] at hcl
   unfold Addr.add
   split
   ·rename_i hj
    have hj : j = 0 := by simpa using hj
    subst hj
    exact hcl
   ·exact hcl
 obtain ⟨hcells, rfl, hcl⟩ := hcells
 have HSl := hid hsl
 have HCl := hid hcells
 obtain ⟨X, hX⟩ : ∃ X, (cur.toList.take (i * 10) ++ rawsC (L.drop (i + 1)) ++ cur.toList.drop (i * 10 + (rawsC (L.drop (i + 1))).length)).toArray = X := ⟨_, rfl⟩
 have hXs : X.size = c * 10 := by
  rw [← hX, List.size_toArray, List.length_append, List.length_append, List.length_take, List.length_drop, hnl, Array.length_toList, hcs]
  omega
 have hXt : X.toList.take (k * 10) = rawsC (L.eraseIdx i) := by
  rw [hes, ← hX, hct, List.take_append_of_le_length (by rw [List.length_append, htl, hnl]; omega), List.take_of_length_le (by rw [List.length_append, htl, hnl]; omega)]
 have hap := fun (z : GW w) (ty : TypeId) => (show (Builtin.append_ #[145, 145] ty #[.slice (some ⟨g, 0, none⟩) i c, .slice (some ad) m' cc]).run Tryz.prog z.1 = .ok (.slice (some ⟨g, 0, none⟩) k c) (z.1.setRow g X) from by
  have hgl : g < w.heap.size := hlt hg
  have := run_append_room (P := Tryz.prog) z.1 145 ty 149 i0 Tryz.underlying145 hi0 g i c cur ((z.2.block g hgl).trans hg) ad m' cc (rawsC (L.drop (i + 1))) (by rw [hnl, hi1]) (fun j u hu => by
   have hab : (ad.add j).block = g := by
    by_cases hcc : c = i + 1
    ·rw [(HSl.out hcc).1]; unfold Addr.add; split <;> rfl
    ·rw [(HCl.out hcc).1]; unfold Addr.add; split <;> rfl
   exact (z.2.cell (by rw [hab]; exact hgl)).trans (hcl j u hu)) (rawsC_one _) (by omega) (by rw [hi1, hnl, hcs]; omega)
  rw [hi1, him, hX] at this
  exact this)
 clear hcl hsl hcells
 have HXs := hid hXs
 have HXt := hid hXt
 have Hel := hid hel
 have Hb := hid hb
 have Hg := hid hg
 have Hbg := hid hbg
 have Hcm := hid hcm
 have Hown := hid hown
 have Hea := hid (fun p (hp : p ∈ L.eraseIdx i) => h.each p (List.eraseIdx_subset hp))
 have Hes := hid (show (rawsC (L.eraseIdx i)).length = k * 10 by rw [rawsC_len, hel])
 rw [hel]
 have t1 : ((i : Int) == (i : Int) + 1) = false := beq_eq_false_iff_ne.2 (by omega)
 have t2 : (0 : Int) ≤ (i : Int) := by omega
 have t3 : (i : Int) + 1 ≤ ((k + 1 : Nat) : Int) := by omega
 have t4 : ((k + 1 : Nat) : Int) ≤ (c : Int) := by omega
 have t5 : (i : Int) ≤ (c : Int) := by omega
 have hkc : k + 1 ≤ c := hnc
 clear hXs hXt hel hb hg hbg hcm hown h hes hnl htl hct hro hX hcs htk hL hm
 by_cases hcc : c = i + 1
 ·obtain ⟨rfl, rfl, rfl⟩ := HSl.out hcc
  have y6 : c - (i + 1) = 0 := by omega
  have y7 : k + 1 - (i + 1) = 0 := by omega
  clear hcc HSl HCl
  go_enter Tryz.func91, Tryz.ntmps91
  go_wp2_with fail
  refine wp_region_calm_tail 6 (by kernel_rfl) (by kernel_rfl) ?_
  simp only [List.take_succ_cons, List.take_zero, List.drop_succ_cons, List.drop_zero]
  repeat (go_big_quiet_step (fail))
  refine wpQuiet_nil ?_
  intro w5 hw'
  have B5 := hid (gw_below hw')
  have ha := hap ⟨w5, B5.out⟩
  clear hw' hap
  obtain ⟨W, hW⟩ : ∃ W, w5.setRow g X = W := ⟨_, rfl⟩
  have ha : ∀ ty, (Builtin.append_ #[145, 145] ty #[.slice (some ⟨g, 0, none⟩) i c, .slice (some ⟨g, 0, none⟩) 0 0]).run Tryz.prog w5 = .ok (.slice (some ⟨g, 0, none⟩) k c) W := fun ty => by rw [← hW]; exact ha ty
  have hg5 := hid (show w5.heap[g]? = some (.cells cur 149 (0, 0)) from (B5.out.block g (hlt Hg.out)).trans Hg.out)
  have HgW := hid (show Blk W g 149 X.toList by
   rw [← hW]
   have := setRow_at w5 g 149 cur X hg5.out
   show (w5.setRow g X).heap[g]? = some (.cells X.toList.toArray 149 (0, 0))
   rw [Array.toArray_toList]
   exact this)
  have GW1 := hid (show w5.grownBy W (some g) by rw [← hW]; exact grown_row2 (World.grownBy.refl _ _) _)
  have hcr := run_clear_raw W
  have hcr2 := fun ty => hcr ty g (k * 10) (c - k) (fun j hj => by rw [blk_cells HgW.out, List.getElem?_eq_getElem (by rw [Array.length_toList, HXs.out]; omega)]; rfl) (fun j _ => blk_free HgW.out _)
  clear hcr hW
  have own1 := hid (show W.ownsRow base 149 10 (.slice (some ⟨g, 0, none⟩) k c) k (rawsC (L.eraseIdx i)) from ⟨Hes.out, .inr ⟨g, c, X, rfl, Hbg.out, (by
   have := HgW.out
   unfold Blk at this
   rw [Array.toArray_toList] at this
   exact this), by omega, Hcm.out, HXs.out, HXt.out⟩⟩)
  have Hot := hid (own_tail rawZ (k * 10) W own1.out (Nat.le_refl _))
  obtain ⟨W2, hW2⟩ : ∃ W2, W.setCells g (k * 10) rawZ = W2 := ⟨_, rfl⟩
  rw [hW2] at hcr2 Hot
  have z1 : (k : Int) ≤ ((k + 1 : Nat) : Int) := by omega
  have z2 : (0 : Int) ≤ (k : Int) := by omega
  have z3 : ¬ (c - k = 0) := by omega
  have z4 : k + 1 - k = 1 := by omega
  have ha0 := hid (ha 145)
  have hcr0 := hcr2 0
  clear hW2 ha hcr2
  go_wp2_with (at_builtin; refine wpList_append_eq rfl (.tmp 22) (.tmp 25) 145 145 rfl _ _ _ rfl rfl ha0.out ?_)
  go_ret
  refine ⟨some ⟨g, 0, none⟩, c, rfl, ⟨?_, fun p hp => ?_⟩, ?_⟩
  ·rw [Hel.out]; exact Hot.out.1
  ·exact ((Hea.out p hp).below B5.out).far (own_below Hown.out B5.out) (by decide) (by decide) (grownBy_trans GW1.out Hot.out.2)
  ·exact (B5.out.mono Hb.out).grown (grownBy_trans GW1.out Hot.out.2) (Nat.le_trans Hb.out B5.out.size) (fun k' hk' => by injection hk' with hk'; have := Hbg.out; omega)
 ·obtain ⟨rfl, _, rfl⟩ := HCl.out hcc
  have y6 : ¬ (c - (i + 1) = 0) := by omega
  have y7 : k + 1 - (i + 1) = m' := by omega
  clear hcc HSl HCl
  go_enter Tryz.func91, Tryz.ntmps91
  go_wp2_with fail
  refine wp_region_calm_tail 6 (by kernel_rfl) (by kernel_rfl) ?_
  simp only [List.take_succ_cons, List.take_zero, List.drop_succ_cons, List.drop_zero]
  repeat (go_big_quiet_step (fail))
  refine wpQuiet_nil ?_
  intro w5 hw'
  have B5 := hid (gw_below hw')
  have ha := hap ⟨w5, B5.out⟩
  clear hw' hap
  obtain ⟨W, hW⟩ : ∃ W, w5.setRow g X = W := ⟨_, rfl⟩
  have ha : ∀ ty, (Builtin.append_ #[145, 145] ty #[.slice (some ⟨g, 0, none⟩) i c, .slice (some ⟨g, (i + 1) * 10, none⟩) m' (c - (i + 1))]).run Tryz.prog w5 = .ok (.slice (some ⟨g, 0, none⟩) k c) W := fun ty => by rw [← hW]; exact ha ty
  have hg5 := hid (show w5.heap[g]? = some (.cells cur 149 (0, 0)) from (B5.out.block g (hlt Hg.out)).trans Hg.out)
  have HgW := hid (show Blk W g 149 X.toList by
   rw [← hW]
   have := setRow_at w5 g 149 cur X hg5.out
   show (w5.setRow g X).heap[g]? = some (.cells X.toList.toArray 149 (0, 0))
   rw [Array.toArray_toList]
   exact this)
  have GW1 := hid (show w5.grownBy W (some g) by rw [← hW]; exact grown_row2 (World.grownBy.refl _ _) _)
  have hcr := run_clear_raw W
  have hcr2 := fun ty => hcr ty g (k * 10) (c - k) (fun j hj => by rw [blk_cells HgW.out, List.getElem?_eq_getElem (by rw [Array.length_toList, HXs.out]; omega)]; rfl) (fun j _ => blk_free HgW.out _)
  clear hcr hW
  have own1 := hid (show W.ownsRow base 149 10 (.slice (some ⟨g, 0, none⟩) k c) k (rawsC (L.eraseIdx i)) from ⟨Hes.out, .inr ⟨g, c, X, rfl, Hbg.out, (by
   have := HgW.out
   unfold Blk at this
   rw [Array.toArray_toList] at this
   exact this), by omega, Hcm.out, HXs.out, HXt.out⟩⟩)
  have Hot := hid (own_tail rawZ (k * 10) W own1.out (Nat.le_refl _))
  obtain ⟨W2, hW2⟩ : ∃ W2, W.setCells g (k * 10) rawZ = W2 := ⟨_, rfl⟩
  rw [hW2] at hcr2 Hot
  have z1 : (k : Int) ≤ ((k + 1 : Nat) : Int) := by omega
  have z2 : (0 : Int) ≤ (k : Int) := by omega
  have z3 : ¬ (c - k = 0) := by omega
  have z4 : k + 1 - k = 1 := by omega
  have ha0 := hid (ha 145)
  have hcr0 := hcr2 0
  clear hW2 ha hcr2
  go_wp2_with (at_builtin; refine wpList_append_eq rfl (.tmp 22) (.tmp 25) 145 145 rfl _ _ _ rfl rfl ha0.out ?_)
  go_ret
  refine ⟨some ⟨g, 0, none⟩, c, rfl, ⟨?_, fun p hp => ?_⟩, ?_⟩
  ·rw [Hel.out]; exact Hot.out.1
  ·exact ((Hea.out p hp).below B5.out).far (own_below Hown.out B5.out) (by decide) (by decide) (grownBy_trans GW1.out Hot.out.2)
  ·exact (B5.out.mono Hb.out).grown (grownBy_trans GW1.out Hot.out.2) (Nat.le_trans Hb.out B5.out.size) (fun k' hk' => by injection hk' with hk'; have := Hbg.out; omega)
end Go.Proofs.YtgcfkblmnpnogaaGreatDoor
namespace Go.Proofs.YtgcfkblmnpnogaaGreatDoor
open Go.RowKit Go.Lib
/-! A name that is there twice. -/
theorem map_eraseIdx {α β : Type} (f : α → β) : ∀ (L : List α) (i : Nat), (L.eraseIdx i).map f = (L.map f).eraseIdx i
 | [], _ => by simp
 | _ :: _, 0 => rfl
 | x :: r, i + 1 => by
  show f x :: (r.eraseIdx i).map f = f x :: (r.map f).eraseIdx i
  rw [map_eraseIdx f r i]
set_option maxRecDepth 100000 in
set_option maxHeartbeats 4000000 in
theorem Rename_twice {size : Nat} {D : List MetaV} {FR : List (List Nat)} (hC : CanB size D FR) (g : Nat) (name other : ByteArray) (w : World) (hB : BankAt w g (bldZ size D FR) size (bldDir size D))
  (h1 : atB (allZ size D FR D.length) name = true) (h2 : isName other = true) (h3 : atB ((allZ size D FR D.length).eraseIdx (atZ (allZ size D FR D.length) name)) other = true) :
  Calls Tryz.prog 32 #[.pointer (some ⟨g, 0, none⟩), .string name, .string other] w fun e w' => e = .returned (.tuple #[.slice none 0 0, .int .i64 11]) ∧ Below w.heap.size w w' := by
 have HSz := hid (BSize_any hB (by have := hC.lo; omega))
 have HAl := hid (all_any hC g w hB)
 have hlo := hC.lo
 have hzl := allZ_len size D FR D.length (Nat.le_refl _)
 have hmany := hC.many
 have hi : atZ (allZ size D FR D.length) name < (allZ size D FR D.length).length := by
  have := atZ_le (allZ size D FR D.length) name
  rcases Nat.lt_or_ge (atZ (allZ size D FR D.length) name) (allZ size D FR D.length).length with h | h
  ·exact h
  ·exfalso
   unfold atB at h1
   rw [List.getElem?_eq_none h] at h1
   cases h1
 rw [hzl] at hi
 have HAt := hid (fun L A c (nm : ByteArray) W (hL : List.length L ≤ 1000) hr => at_any L A c nm W hL hr)
 have HDl := hid (fun L A c i (W : World) (hi : i < List.length L) (hL : List.length L ≤ 1000) (hb : w.heap.size ≤ W.heap.size) h => del_any L A c i w.heap.size W hi hL hb h)
 have HIs := hid (fun W => IsName_any other W)
 rw [h2] at HIs
 generalize allZ size D FR D.length = Z at *
 obtain ⟨n, hn⟩ : ∃ n, D.length = n := ⟨_, rfl⟩
 rw [hn] at hzl hmany hi
 obtain ⟨i, hie⟩ : ∃ i, atZ Z name = i := ⟨_, rfl⟩
 rw [hie] at h3 hi
 have H1 := hid h1
 have H3 := hid h3
 have Hie := hid hie
 have t0 : ((size : Int) == 0) = false := beq_eq_false_iff_ne.2 (by omega)
 clear hB hC h1 h2 h3 hn hie
 go_enter Tryz.func32, Tryz.ntmps32
 go_wp2_with (first | (go_at_call 51; refine HSz.out.mono ?_; rintro e w2 ⟨rfl, rfl⟩) | (go_at_call 89; fail))
 refine HAl.out.mono ?_
 rintro e w1 ⟨A, c, L, rfl, hmap, hraws, hb1⟩
 have hLl : L.length = n := by rw [← hzl, ← hmap, List.length_map]
 have B1 := hid hb1
 have HR := hid hraws
 have HA1 := hid (HAt.out L A c name w1 (by omega) (Row.of_own hraws.own))
 rw [hmap, H1.out, Hie.out] at HA1
 have HD1 := hid (fun W (hW : Below w1.heap.size w1 W) => HDl.out L A c i W (by omega) (by omega) (Nat.le_trans B1.out.size hW.size) (HR.out.below hW))
 have hge : (L.eraseIdx i).map Prod.snd = Z.eraseIdx i := by rw [map_eraseIdx, hmap]
 have Hge := hid hge
 have Hmap := hid hmap
 obtain ⟨p, hp⟩ : ∃ p, L[i]? = some p := ⟨_, List.getElem?_eq_getElem (by omega)⟩
 obtain ⟨b, off, rfl, hbl, hcl⟩ := raw_at (Row.of_own hraws.own) hp
 have HEl := hid (show (L.eraseIdx i).length ≤ 1000 by rw [List.length_eraseIdx]; split <;> omega)
 rw [hLl] at HA1 HD1 ⊢
 have hpl := rawC_len p
 have HX := hid (fun (W : World) (hW : Below w1.heap.size w1 W) j v (hv : (rawC p)[j]? = some v) => (show W.cell? ⟨b, off + i * 10 + j, none⟩ = some v from (hW.cell (p := ⟨b, off + i * 10 + j, none⟩) hbl).trans (hcl j v hv)))
 have Hp1 := hid (rawC_one p)
 obtain ⟨pc, hpc⟩ : ∃ pc, rawC p = pc := ⟨_, rfl⟩
 rw [hpc] at hpl HX Hp1
 have HFl := hid (show (Tryz.prog.info? 149).map (·.size) = some pc.length by rw [hpl]; exact inf_raw)
 have Hps := hid (show pc.toArray.size = 10 by rw [List.size_toArray, hpl])
 have HFz := hid (show (Tryz.prog.info? 149).map (·.size) = some pc.toArray.size by rw [Hps.out]; exact inf_raw)
 have HO1 := hid (show pc.toArray.all (·.oneCell') = true by
  rw [Array.all_eq_true_iff_forall_mem]
  intro v hv
  exact Hp1.out v (by simpa using hv))
 clear hraws hb1 hmap hge hp hcl hpc hpl HAl HSz
 have u1 : (i : Int) < (n : Int) := by omega
 have u2 : (0 : Int) ≤ (i : Int) := by omega
 go_wp2_with (go_at_call 90; fail)
 refine HA1.out.mono ?_
 rintro e w2 ⟨rfl, hb2⟩
 have E2 := hid hb2
 have HX2 := hid (HX.out w2 hb2)
 clear hb2 HA1 HX
 go_wp2_with (first | (go_at_call 34; refine (HIs.out _).mono ?_; rintro e w' ⟨rfl, rfl⟩) | (refine wpList_load_part_w rfl 149 (.tmp 32) rfl b (off + i * 10) rfl pc _ HX2.out Tryz.underlying149 rfl HFl.out ?_) | (refine wpList_store_row_w rfl 149 (.tmp 11) (.tmp 33) rfl w2.heap.size rfl _ _ pc.toArray rfl (heap_alloc_new w2 _) HFz.out (by rw [Hps.out]; rfl) HO1.out ?_; rw [World.setRow_alloc_new]) | (go_at_call 91; fail))
 refine (HD1.out _ (bnext E2.out (bnew w2 _))).mono ?_
 rintro e w4 ⟨A4, c4, rfl, hr4, hb4⟩
 have E4 := hid (show Below w.heap.size w w4 from ((bnext (bnext B1.out E2.out) (bnew w2 (.cells pc.toArray 149)))).trans hb4)
 have HA4 := hid (HAt.out (L.eraseIdx i) A4 c4 other w4 HEl.out (Row.of_own hr4.own))
 rw [Hge.out, H3.out] at HA4
 generalize atZ (Z.eraseIdx i) other = k at *
 clear hr4 hb4 HD1 HX2
 go_wp2_with (go_at_call 90; fail)
 refine HA4.out.mono ?_
 rintro e w5 ⟨rfl, hb5⟩
 go_wp2
 refine bodyPost_ret (results_tmp2 Tryz.results32 _ _ _) rfl ?_
 exact ⟨rfl, bnext E4.out hb5⟩
/-! Law 29's made. -/
def MadeP (w : World) (ss : List SampV) (e : Ending) (w' : World) : Prop :=
 Below w.heap.size w w' ∧ ((packE 24 ss ≠ 0 ∧ e = .returned (.pointer none)) ∨ (packE 24 ss = 0 ∧ CanP 24 (sortS ss) ∧ ∃ g, e = .returned (.pointer (some ⟨g, 0, none⟩)) ∧ BankAt w' g (packZ 24 (sortS ss)) 24 (packDir 24 (sortS ss)) ∧ w.heap.size ≤ g))
set_option maxRecDepth 100000 in
theorem made29_core (S : List SampV → Prop) (v : Value) (w : World)
  (hF : Calls Tryz.prog 48 #[v] w fun e w' => ∃ A c M, e = .returned (.slice A (List.length M) c) ∧ S (List.map Prod.snd M) ∧ List.length M ≤ 8 ∧ (A = none → c = 0) ∧ SampsAt w' w'.heap.size A M ∧ (∀ p ∈ M, p.2.small) ∧ Below w.heap.size w w') :
  Calls Tryz.prog 30 #[v] w fun e w' => ∃ ss, S ss ∧ MadeP w ss e w' := by
 have HF := hid hF
 clear hF
 go_enter Tryz.func30, Tryz.ntmps30
 go_wp2_with (go_at_call 48; fail)
 refine HF.out.mono ?_
 rintro e w1 ⟨A, c, M, rfl, hS, h8, hn, hs, hsm, hb1⟩
 have HP := hid (Pack_any 24 M A c w1 h8 hn hs hsm)
 have B1 := hid hb1
 have HS := hid hS
 generalize List.map Prod.snd M = ss at *
 generalize M.length = m at *
 unfold PackP at HP
 clear hS h8 hn hs hsm hb1 HF
 go_wp2_with (go_at_call 49; fail)
 refine HP.out.mono ?_
 rintro e w2 ⟨hb2, ⟨hE, rfl⟩ | ⟨hE, sz, g, h24, hC, hg, hby, rfl⟩⟩
 ·have B2 := hid (bnext B1.out hb2)
  have HE := hid hE
  generalize hpe : packE 24 ss = E at *
  have Hpe := hid hpe
  have t1 : (E != 0) = true := by rw [bne_iff_ne]; exact hE
  clear hE hpe hb2
  go_wp2
  go_ret
  exact ⟨ss, HS.out, B2.out, .inl ⟨by rw [Hpe.out]; exact HE.out, rfl⟩⟩
 ·obtain rfl : sz = 24 := by omega
  have B2 := hid (bnext B1.out hb2)
  have HC := hid hC
  have HE := hid hE
  have HPa := hid (Parse_packed hC g w2 hby)
  clear hE hC h24 hg hby hb2
  go_wp2_with (go_at_call 19; fail)
  refine HPa.out.mono ?_
  rintro e w3 ⟨x, rfl, hx, hB, hb3⟩
  have HB := hid hB
  have B3 := hid (bnext B2.out hb3)
  have Hx := hid (show w.heap.size ≤ x from Nat.le_trans B2.out.size hx)
  clear hB hb3 hx HPa
  go_wp2
  go_ret
  exact ⟨ss, HS.out, B3.out, .inr ⟨HE.out, HC.out, x, rfl, HB.out, Hx.out⟩⟩
theorem made29_any (L : List (HSamp × SampV)) (A : Option Addr) (cap : Nat) (w : World) (hs : SampsAt w w.heap.size A L) (hnm : ∀ p ∈ L, p.2.name.size ≤ 9223372036854775807) :
  Calls Tryz.prog 30 #[.slice A L.length cap] w fun e w' => ∃ ss, MadeP w ss e w' := by
 refine (made29_core (fun _ => True) _ w ((Few15_any L A cap w hs hnm).mono ?_)).mono ?_
 ·rintro e w' ⟨A', c, M, he, h8, _, _, hn, hs', hsm, hb⟩
  exact ⟨A', c, M, he, trivial, h8, hn, hs', hsm, hb⟩
 ·rintro e w' ⟨ss, _, h⟩
  exact ⟨ss, h⟩
theorem made29_ex (L : List (HSamp × SampV)) (A : Option Addr) (cap : Nat) (w : World) (hs : SampsAt w w.heap.size A L) (h8 : L.length ≤ 8) (hsm : ∀ p ∈ L, p.2.small) :
  Calls Tryz.prog 30 #[.slice A L.length cap] w (MadeP w (L.map Prod.snd)) := by
 refine (made29_core (fun ss => ss = L.map Prod.snd) _ w ((Few15_ex L A cap w hs h8 (fun p hp => hsm p hp)).mono ?_)).mono ?_
 ·rintro e w' ⟨A', c, M, he, hm, _, _, hn, hs', hb⟩
  refine ⟨A', c, M, he, hm, ?_, hn, hs', fun p hp => ?_, hb⟩
  ·have := congrArg List.length hm
   rw [List.length_map, List.length_map] at this
   omega
  ·have : p.2 ∈ L.map Prod.snd := by rw [← hm]; exact List.mem_map.2 ⟨p, hp, rfl⟩
   obtain ⟨q, hq, he⟩ := List.mem_map.1 this
   rw [← he]; exact hsm q hq
 ·rintro e w' ⟨ss, rfl, h⟩
  exact h
end Go.Proofs.YtgcfkblmnpnogaaGreatDoor
namespace Go.Proofs.YtgcfkblmnpnogaaGreatDoor
open Go.RowKit Go.Lib
def dOf (Z : List RawV) : List MetaV := Z.map (·.m)
def fOf (Z : List RawV) : List (List Nat) := (Z.map (·.fs)).flatten
structure RawOk (size : Nat) (r : RawV) : Prop where
 right : r.m.right = true
 cnt : (r.fs.length : Int) = framesN r.m
 len : ∀ f ∈ r.fs, f.length = size
 byt : ∀ f ∈ r.fs, Byt f
def AscZ (Z : List RawV) : Prop := Z.Pairwise fun x y => nameLt x.m.name y.m.name = true
structure RawsOk (size : Nat) (Z : List RawV) : Prop where
 lo : 24 ≤ size
 hi : size ≤ 96
 many : Z.length ≤ 64
 each : ∀ r ∈ Z, RawOk size r
 asc : AscZ Z
 few : (fOf Z).length ≤ 30000
theorem dOf_len (Z : List RawV) : (dOf Z).length = Z.length := List.length_map _
theorem dOf_get {Z : List RawV} {i : Nat} {r : RawV} (h : Z[i]? = some r) : (dOf Z)[i]? = some r.m := by
 unfold dOf
 rw [List.getElem?_map, h]
 rfl
theorem dOf_get' {Z : List RawV} {i : Nat} {x : MetaV} (h : (dOf Z)[i]? = some x) : ∃ r, Z[i]? = some r ∧ r.m = x := by
 unfold dOf at h
 rw [List.getElem?_map] at h
 cases hz : Z[i]? with
 | none => rw [hz] at h; cases h
 | some r => rw [hz] at h; exact ⟨r, rfl, Option.some.inj h⟩
theorem fOf_app (X Y : List RawV) : fOf (X ++ Y) = fOf X ++ fOf Y := by simp [fOf]
theorem fOf_one (r : RawV) : fOf [r] = r.fs := by simp [fOf]
theorem fOf_cons (r : RawV) (Y : List RawV) : fOf (r :: Y) = r.fs ++ fOf Y := by simp [fOf]
theorem take_snoc {α : Type} {L : List α} {m : Nat} {x : α} (h : L[m]? = some x) : L.take (m + 1) = L.take m ++ [x] := by rw [List.take_add_one, h]; rfl
theorem kOf_raws {Z : List RawV} (hc : ∀ r ∈ Z, (r.fs.length : Int) = framesN r.m) : ∀ m, m ≤ Z.length → kOf (dOf Z) m = (fOf (Z.take m)).length
 | 0, _ => rfl
 | m + 1, hm => by
  obtain ⟨r, hr⟩ : ∃ r, Z[m]? = some r := ⟨_, List.getElem?_eq_getElem (by omega)⟩
  have h1 := hc r (List.mem_of_getElem? hr)
  rw [kOf_succ (dOf_get hr), kOf_raws hc m (by omega), take_snoc hr, fOf_app, fOf_one, List.length_append, ← h1, Int.toNat_natCast]
theorem fOf_part {Z : List RawV} (hc : ∀ r ∈ Z, (r.fs.length : Int) = framesN r.m) {i : Nat} {r : RawV} (hr : Z[i]? = some r) : ((fOf Z).drop (kOf (dOf Z) i)).take r.fs.length = r.fs := by
 have hi := (List.getElem?_eq_some_iff.1 hr).1
 have hz : Z = Z.take i ++ r :: Z.drop (i + 1) := by
  have h1 := (List.take_append_drop i Z).symm
  rw [List.drop_eq_getElem_cons hi] at h1
  have h2 : Z[i] = r := (List.getElem?_eq_some_iff.1 hr).2
  rw [h2] at h1
  exact h1
 rw [kOf_raws hc i (by omega)]
 generalize Z.take i = X at *
 generalize Z.drop (i + 1) = Y at *
 rw [hz, fOf_app, fOf_cons, List.drop_left, List.take_left]
theorem asc_next {Z : List RawV} (h : AscZ Z) {i j : Nat} {x y : RawV} (hij : i < j) (hx : Z[i]? = some x) (hy : Z[j]? = some y) : nameLt x.m.name y.m.name = true := by
 obtain ⟨hi, hx⟩ := List.getElem?_eq_some_iff.1 hx
 obtain ⟨hj, hy⟩ := List.getElem?_eq_some_iff.1 hy
 rw [← hx, ← hy]
 exact List.pairwise_iff_getElem.1 h i j hi hj hij
theorem asc_of {Z : List RawV} (h : AscN (dOf Z)) : AscZ Z := by
 refine List.pairwise_iff_getElem.2 fun i j hi hj hij => ?_
 have := ascN_lt h (dOf_get (List.getElem?_eq_getElem hi)) (j - i - 1) Z[j].m (by
  rw [show i + (j - i - 1) + 1 = j by omega]
  exact dOf_get (List.getElem?_eq_getElem hj))
 exact this
theorem ascN_of {Z : List RawV} (h : AscZ Z) : AscN (dOf Z) := fun m x y hx hy => by
 obtain ⟨r, hr, rfl⟩ := dOf_get' hx
 obtain ⟨s, hs, rfl⟩ := dOf_get' hy
 exact asc_next h (Nat.lt_succ_self m) hr hs
section
variable {size : Nat} {Z : List RawV}
theorem RawsOk.cnt (h : RawsOk size Z) : ∀ r ∈ Z, (r.fs.length : Int) = framesN r.m := fun r hr => (h.each r hr).cnt
theorem mem_fOf {f : List Nat} (hf : f ∈ fOf Z) : ∃ r ∈ Z, f ∈ r.fs := by
 obtain ⟨fs, hfs, hf⟩ := List.mem_flatten.1 hf
 obtain ⟨r, hr, rfl⟩ := List.mem_map.1 hfs
 exact ⟨r, hr, hf⟩
theorem RawsOk.byt (h : RawsOk size Z) : ∀ f ∈ fOf Z, Byt f := fun f hf => by
 obtain ⟨r, hr, hf⟩ := mem_fOf hf
 exact (h.each r hr).byt f hf
theorem RawsOk.lens (h : RawsOk size Z) : ∀ f ∈ fOf Z, f.length = size := fun f hf => by
 obtain ⟨r, hr, hf⟩ := mem_fOf hf
 exact (h.each r hr).len f hf
theorem RawsOk.k (h : RawsOk size Z) : kOf (dOf Z) (dOf Z).length = (fOf Z).length := by
 rw [dOf_len, kOf_raws h.cnt Z.length (Nat.le_refl _), List.take_of_length_le (Nat.le_refl _)]
theorem RawsOk.rights (h : RawsOk size Z) : ∀ x ∈ dOf Z, x.right = true := fun x hx => by
 obtain ⟨r, hr, rfl⟩ := List.mem_map.1 hx
 exact (h.each r hr).right
theorem RawsOk.ok (h : RawsOk size Z) : bldOk (dOf Z) (dOf Z).length = true := bldOk_of h.rights (ascN_of h.asc) _
theorem RawsOk.lok (h : RawsOk size Z) : lensOk size (fOf Z) (fOf Z).length = true := lensOk_of h.lens _
theorem RawsOk.can (h : RawsOk size Z) : CanB size (dOf Z) (fOf Z) := canB_of h.lo h.hi (by rw [dOf_len]; exact h.many) h.ok h.k h.lok h.byt h.few
def plcR (size : Int) (D : List MetaV) (i : Nat) (r : RawV) : RawV := ⟨plc size D i r.m, r.fs⟩
theorem RawsOk.get (h : RawsOk size Z) {i : Nat} {r : RawV} (hr : Z[i]? = some r) : (allZ size (dOf Z) (fOf Z) (dOf Z).length)[i]? = some (plcR size (dOf Z) i r) := by
 have hi := (List.getElem?_eq_some_iff.1 hr).1
 rw [allZ_get size (dOf Z) (fOf Z) (bldDir_get (size := size) (dOf_get hr)) (dOf Z).length (by rw [dOf_len]; exact hi) (Nat.le_refl _)]
 have hf : framesN (plc size (dOf Z) i r.m) = framesN r.m := rfl
 rw [hf, ← h.cnt r (List.mem_of_getElem? hr), Int.toNat_natCast, fOf_part h.cnt hr]
 rfl
end
theorem mem_allZ {size : Nat} {D : List MetaV} {FR : List (List Nat)} {r : RawV} : ∀ m, m ≤ D.length → r ∈ allZ size D FR m → ∃ i x, i < m ∧ (bldDir size D)[i]? = some x ∧ r = ⟨x, (FR.drop (kOf D i)).take (framesN x).toNat⟩
 | 0, _, h => by simp [allZ] at h
 | m + 1, hm, h => by
  obtain ⟨x, hx⟩ : ∃ x, (bldDir size D)[m]? = some x := ⟨_, List.getElem?_eq_getElem (by rw [bldDir_len]; omega)⟩
  rw [allZ_succ hx] at h
  rcases List.mem_append.1 h with h | h
  ·obtain ⟨i, y, h1, h2, h3⟩ := mem_allZ m (by omega) h
   exact ⟨i, y, by omega, h2, h3⟩
  ·exact ⟨m, x, Nat.lt_succ_self m, hx, List.mem_singleton.1 h⟩
theorem dOf_all (size : Nat) (D : List MetaV) (FR : List (List Nat)) : dOf (allZ size D FR D.length) = bldDir size D := by
 refine List.ext_getElem? fun i => ?_
 by_cases hi : i < D.length
 ·obtain ⟨x, hx⟩ : ∃ x, (bldDir size D)[i]? = some x := ⟨_, List.getElem?_eq_getElem (by rw [bldDir_len]; omega)⟩
  rw [dOf_get (allZ_get size D FR hx D.length hi (Nat.le_refl _)), hx]
 ·rw [List.getElem?_eq_none (by rw [dOf_len, allZ_len size D FR D.length (Nat.le_refl _)]; omega), List.getElem?_eq_none (by rw [bldDir_len]; omega)]
theorem bldDir_asc {size : Nat} {D : List MetaV} (h : AscN D) : AscN (bldDir size D) := fun m x y hx hy => by
 have hm := (List.getElem?_eq_some_iff.1 hy).1
 rw [bldDir_len] at hm
 obtain ⟨a, ha⟩ : ∃ a, D[m]? = some a := ⟨_, List.getElem?_eq_getElem (by omega)⟩
 obtain ⟨b, hb⟩ : ∃ b, D[m + 1]? = some b := ⟨_, List.getElem?_eq_getElem hm⟩
 rw [bldDir_get ha] at hx
 rw [bldDir_get hb] at hy
 injection hx with hx
 injection hy with hy
 rw [← hx, ← hy]
 exact h m a b ha hb
theorem CanB.raws {size : Nat} {D : List MetaV} {FR : List (List Nat)} (h : CanB size D FR) (hf : FR.length ≤ 30000) : RawsOk size (allZ size D FR D.length) := by
 have hc : ∀ r ∈ allZ size D FR D.length, (r.fs.length : Int) = framesN r.m := fun r hr => by
  obtain ⟨i, x, hi, hx, rfl⟩ := mem_allZ D.length (Nat.le_refl _) hr
  obtain ⟨F, S, T, _, _, hT, _, _, hkL, _⟩ := h.at_ hx
  show ((List.take (framesN x).toNat (List.drop (kOf D i) FR)).length : Int) = framesN x
  rw [hT, Int.toNat_natCast, List.length_take, List.length_drop, Nat.min_eq_left (by omega)]
 refine ⟨h.lo, h.hi, by rw [allZ_len size D FR D.length (Nat.le_refl _)]; exact h.many, fun r hr => ?_, ?_, ?_⟩
 ·refine ⟨?_, hc r hr, fun f hf => ?_, fun f hf => ?_⟩
  all_goals obtain ⟨i, x, hi, hx, rfl⟩ := mem_allZ D.length (Nat.le_refl _) hr
  ·exact (h.goodE x (List.mem_of_getElem? hx)).2
  ·exact h.len f (List.mem_of_mem_drop (List.mem_of_mem_take hf))
  ·exact h.byt f (List.mem_of_mem_drop (List.mem_of_mem_take hf))
 ·refine asc_of ?_
  rw [dOf_all]
  exact bldDir_asc h.asc
 ·have h1 := kOf_raws hc (allZ size D FR D.length).length (Nat.le_refl _)
  rw [List.take_of_length_le (Nat.le_refl _), dOf_all, allZ_len size D FR D.length (Nat.le_refl _)] at h1
  have h2 : kOf (bldDir size D) D.length = kOf D D.length := kOf_mix _ _ _ _
  rw [← h1, h2, h.cnt]
  exact hf
theorem fOf_sub {Z Y : List RawV} (h : Y.Sublist Z) : (fOf Y).length ≤ (fOf Z).length := by
 induction h with
 | slnil => exact Nat.le_refl _
 | cons a _ ih => rw [fOf_cons, List.length_append]; omega
 | cons_cons a _ ih => rw [fOf_cons, fOf_cons, List.length_append, List.length_append]; omega
theorem RawsOk.sub {size : Nat} {Z Y : List RawV} (h : RawsOk size Z) (hs : Y.Sublist Z) : RawsOk size Y :=
 ⟨h.lo, h.hi, Nat.le_trans hs.length_le h.many, fun r hr => h.each r (hs.subset hr), List.Pairwise.sublist hs h.asc, Nat.le_trans (fOf_sub hs) h.few⟩
/-! Names. -/
theorem at_name {Z : List RawV} (h : AscZ Z) {i : Nat} {r : RawV} (hr : Z[i]? = some r) : atZ Z r.m.name = i ∧ atB Z r.m.name = true := by
 have hi := (List.getElem?_eq_some_iff.1 hr).1
 have h1 : atZ Z r.m.name = i := atZ_eq (by omega) (fun t x ht hx => asc_next h ht hx hr) (fun x hx => by
  rw [hr] at hx
  injection hx with hx
  rw [← hx]
  exact nameLt_irr _)
 refine ⟨h1, ?_⟩
 unfold atB
 rw [h1, hr]
 exact beq_self_eq_true _
theorem at_of {Z : List RawV} {nm : ByteArray} (h : atB Z nm = true) : ∃ r, Z[atZ Z nm]? = some r ∧ r.m.name = nm := by
 unfold atB at h
 cases hr : Z[atZ Z nm]? with
 | none => rw [hr] at h; cases h
 | some r =>
  rw [hr] at h
  exact ⟨r, rfl, toList_inj (eq_of_beq h)⟩
theorem find_name {D : List MetaV} (h : AscN D) {i : Nat} {x : MetaV} (hx : D[i]? = some x) : findN D x.name = i ∧ findB D x.name = true := by
 have hi := (List.getElem?_eq_some_iff.1 hx).1
 have h1 : findN D x.name = i := findN_eq (by omega) (fun t y ht hy => by
  have := ascN_lt h hy (i - t - 1) x (by rw [show t + (i - t - 1) + 1 = i by omega]; exact hx)
  exact this) (fun t y ht hy => by
  by_cases he : t = i
  ·subst he
   rw [hx] at hy
   injection hy with hy
   rw [← hy]
   exact nameLt_irr _
  ·exact nameLt_asy (ascN_lt h hx (t - i - 1) y (by rw [show i + (t - i - 1) + 1 = t by omega]; exact hy)))
 refine ⟨h1, ?_⟩
 unfold findB
 rw [h1, hx]
 exact decide_eq_true (cmpB_self _)
theorem cmpB_eq {a b : ByteArray} (h : compareBytes a.data.toList b.data.toList = 0) : a = b := by
 rcases cmpB_three a.data.toList b.data.toList with ⟨h3, _⟩ | ⟨h3, _⟩ | ⟨_, _, h3⟩
 ·omega
 ·omega
 ·exact bytes_eq h3
theorem find_of {D : List MetaV} {nm : ByteArray} (h : findB D nm = true) : ∃ x, D[findN D nm]? = some x ∧ x.name = nm := by
 unfold findB at h
 cases hx : D[findN D nm]? with
 | none => rw [hx] at h; cases h
 | some x =>
  rw [hx] at h
  exact ⟨x, rfl, cmpB_eq (of_decide_eq_true h)⟩
theorem at_find {Z : List RawV} (h : AscZ Z) (nm : ByteArray) : atB Z nm = findB (dOf Z) nm ∧ (atB Z nm = true → atZ Z nm = findN (dOf Z) nm) := by
 have h2 : atB Z nm = true → findN (dOf Z) nm = atZ Z nm ∧ findB (dOf Z) nm = true := fun hb => by
  obtain ⟨r, hr, rfl⟩ := at_of hb
  exact find_name (ascN_of h) (dOf_get hr)
 refine ⟨?_, fun hb => (h2 hb).1.symm⟩
 cases hb : atB Z nm with
 | true => exact (h2 hb).2.symm
 | false =>
  cases hf : findB (dOf Z) nm with
  | false => rfl
  | true =>
   obtain ⟨x, hx, rfl⟩ := find_of hf
   obtain ⟨r, hr, rfl⟩ := dOf_get' hx
   rw [(at_name h hr).2] at hb
   cases hb
end Go.Proofs.YtgcfkblmnpnogaaGreatDoor
namespace Go.Proofs.YtgcfkblmnpnogaaGreatDoor
open Go.RowKit Go.Lib
theorem conv_u8 {w : World} {B b off n c : Nat} {xs : List Nat} (hn : xs.length = n) (h : Row w B (some ⟨b, off, none⟩) (u8s xs)) : (convert 29 9 (.slice (some ⟨b, off, none⟩) n c)).run Tryz.prog w = .ok (.string (strOfNums (xs.map fun (x : Nat) => (x : Int)))) w :=
 run_convert_bytes_arg (P := Tryz.prog) w 29 5 Tryz.underlying29 Tryz.underlying5 b off n c (xs.map fun (x : Nat) => (x : Int)) (by rw [List.length_map, hn]) (fun j hj => by
  have h1 : (u8s xs)[j]? = some (.int .u8 ((xs.getD j 0 : Nat) : Int)) := by
   rw [u8s_get (show xs[j]? = some (xs.getD j 0) by rw [List.getD_eq_getElem?_getD, List.getElem?_eq_getElem (by omega)]; rfl)]
  obtain ⟨b', o', hA, _, hc⟩ := h j _ h1
  injection hA with hA
  injection hA with e1 e2
  subst e1 e2
  have e : (xs.map fun (x : Nat) => (x : Int)).getD j 0 = ((xs.getD j 0 : Nat) : Int) := by
   rw [List.getD_eq_getElem?_getD, List.getElem?_map, List.getElem?_eq_getElem (by omega), List.getD_eq_getElem?_getD, List.getElem?_eq_getElem (by omega)]
   rfl
  rw [hc, e]) 9 Tryz.underlying9
structure BankOf (w : World) (g size : Nat) (Z : List RawV) (bs : List Nat) : Prop where
 at_ : BankAt w g bs size (dOf Z)
 fit : FitB bs size (dOf Z)
 asc : AscZ Z
 right : ∀ r ∈ Z, r.m.right = true
 ask : ∀ (i : Nat) r (n c ch cz : Nat), Z[i]? = some r → r.m.channels = (ch : Nat) → countZ r.m.length = (cz : Nat) → n < cz → c < ch → whereE (dOf Z) i c n = 0 ∧ ∃ f, r.fs[n * ch + c]? = some f ∧ f.length = size ∧ subB bs (whereAt (dOf Z) size i c n).toNat size = f
theorem BankOf.later {w w' : World} {g size : Nat} {Z : List RawV} {bs : List Nat} (h : BankOf w g size Z bs) (hb : Below w.heap.size w w') : BankOf w' g size Z bs := ⟨h.at_.later hb, h.fit, h.asc, h.right, h.ask⟩
theorem bankOf_built {w : World} {g size : Nat} {D : List MetaV} {FR : List (List Nat)} (hC : CanB size D FR) (hB : BankAt w g (bldZ size D FR) size (bldDir size D)) : BankOf w g size (allZ size D FR D.length) (bldZ size D FR) := by
 have hd := dOf_all size D FR
 refine ⟨by rw [hd]; exact hB, by rw [hd]; exact hC.fit, asc_of (by rw [hd]; exact bldDir_asc hC.asc), fun r hr => ?_, fun i r n c ch cz hr hch hcz hn hc => ?_⟩
 ·obtain ⟨i, x, hi, hx, rfl⟩ := mem_allZ D.length (Nat.le_refl _) hr
  exact (hC.goodE x (List.mem_of_getElem? hx)).2
 ·have hi := (List.getElem?_eq_some_iff.1 hr).1
  rw [allZ_len size D FR D.length (Nat.le_refl _)] at hi
  obtain ⟨y, hy⟩ : ∃ y, D[i]? = some y := ⟨_, List.getElem?_eq_getElem hi⟩
  have hx := bldDir_get (size := size) hy
  rw [allZ_get size D FR hx D.length hi (Nat.le_refl _)] at hr
  injection hr with hr
  subst hr
  obtain ⟨h1, _, h3, h4, f, h5, h6, h7, _⟩ := hC.asked hy hch hcz hn hc
  rw [hd]
  refine ⟨h1, f, ?_, h6, h7⟩
  have hfr : framesN (plc size D i y) = ((cz * ch : Nat) : Int) := by
   show countZ y.length * y.channels = _
   have e1 : y.channels = (ch : Nat) := hch
   have e2 : countZ y.length = (cz : Nat) := hcz
   rw [e1, e2]
   push_cast; rfl
  show (List.take (framesN (plc size D i y)).toNat (List.drop (kOf D i) FR))[n * ch + c]? = some f
  rw [hfr, Int.toNat_natCast, List.getElem?_take, if_pos h4, List.getElem?_drop]
  exact h5
theorem meta_i {D : List MetaV} {i : Nat} {x : MetaV} (h : D[i]? = some x) : metaI D i = x ∧ metaE D i = 0 := by
 have hi := (List.getElem?_eq_some_iff.1 h).1
 have hn : ¬ ((i : Int) < 0 ∨ (D.length : Int) ≤ (i : Int)) := by omega
 constructor
 ·unfold metaI
  rw [if_neg hn, Int.toNat_natCast, List.getD_eq_getElem?_getD, h]
  rfl
 ·unfold metaE
  rw [if_neg hn]
theorem bytes_of {w : World} {g size : Nat} {Z : List RawV} {bs : List Nat} (h : BankOf w g size Z bs) {i : Nat} {r : RawV} {n c ch cz : Nat} (hr : Z[i]? = some r) (hch : r.m.channels = (ch : Nat)) (hcz : countZ r.m.length = (cz : Nat)) (hn : n < cz) (hc : c < ch) :
  ∃ f, r.fs[n * ch + c]? = some f ∧ f.length = size ∧ Calls Tryz.prog 21 #[.pointer (some ⟨g, 0, none⟩), .int .i64 i, .int .i64 c, .int .i64 n] w fun e w' => ∃ A c', e = .returned (.tuple #[.slice A size c', .int .i64 0]) ∧ Row w' w'.heap.size A (u8s f) ∧ Below w.heap.size w w' := by
 obtain ⟨hE, f, h1, h2, h3⟩ := h.ask i r n c ch cz hr hch hcz hn hc
 refine ⟨f, h1, h2, (Bytes_any g size bs (dOf Z) i c n w h.at_ h.fit).mono ?_⟩
 rintro e w' ⟨hb, ⟨h4, _⟩ | ⟨_, A, c', he, _, _, _, hrow⟩⟩
 ·exact absurd hE h4
 ·rw [h3] at hrow
  exact ⟨A, c', he, hrow, hb⟩
set_option maxRecDepth 100000 in
set_option maxHeartbeats 16000000 in
theorem same_any {w : World} {ga gb size : Nat} {Za Zb : List RawV} {bsa bsb : List Nat} (ha : BankOf w ga size Za bsa) (hb : BankOf w gb size Zb bsb) {i k : Nat} {r s : RawV} (hr : Za[i]? = some r) (hs : Zb[k]? = some s) (hl : s.m.length = r.m.length) (hc : s.m.channels = r.m.channels) (hf : s.fs = r.fs) :
  Calls Tryz.prog 38 #[.pointer (some ⟨ga, 0, none⟩), .int .i64 i, .pointer (some ⟨gb, 0, none⟩), .int .i64 k] w fun e w' => e = .returned (.bool true) ∧ Below w.heap.size w w' := by
 have hlo := ha.fit.lo
 have HMa := hid (show ∀ W, Below w.heap.size w W → Calls Tryz.prog 36 #[.pointer (some ⟨ga, 0, none⟩), .int .i64 i] W (fun e w' => e = .returned (.tuple #[.agg r.m.cells.toArray, .int .i64 0]) ∧ Below W.heap.size W w') from fun W hW => by
  have h := BMeta_any ga size bsa (dOf Za) i W (ha.at_.later hW) (by omega) (by have := ha.fit.many; omega)
  rwa [(meta_i (dOf_get hr)).1, (meta_i (dOf_get hr)).2] at h)
 have HMb := hid (show ∀ W, Below w.heap.size w W → Calls Tryz.prog 36 #[.pointer (some ⟨gb, 0, none⟩), .int .i64 k] W (fun e w' => e = .returned (.tuple #[.agg s.m.cells.toArray, .int .i64 0]) ∧ Below W.heap.size W w') from fun W hW => by
  have h := BMeta_any gb size bsb (dOf Zb) k W (hb.at_.later hW) (by omega) (by have := hb.fit.many; omega)
  rwa [(meta_i (dOf_get hs)).1, (meta_i (dOf_get hs)).2] at h)
 obtain ⟨⟨l1, l2⟩, _, ⟨l3, l4⟩, _, _⟩ := right_bds (ha.right r (List.mem_of_getElem? hr))
 obtain ⟨ch, hch⟩ := Int.eq_ofNat_of_zero_le (show 0 ≤ r.m.channels by omega)
 obtain ⟨len, hlen⟩ := Int.eq_ofNat_of_zero_le (show 0 ≤ r.m.length by omega)
 have hczb : 1 ≤ countZ r.m.length ∧ countZ r.m.length ≤ 65536 := by unfold countZ; split <;> omega
 obtain ⟨cz, hcz⟩ := Int.eq_ofNat_of_zero_le (show 0 ≤ countZ r.m.length by omega)
 have hcq : (((len : Int) + 15).tdiv 16) = (cz : Int) := by
  rw [Int.tdiv_eq_ediv_of_nonneg (by omega), ← hcz]
  unfold countZ
  rw [hlen]
  split <;> omega
 have HF := hid (show ∀ (n c : Nat), n < cz → c < ch → ∃ f, f.length = size ∧ (∀ W, Below w.heap.size w W → Calls Tryz.prog 21 #[.pointer (some ⟨ga, 0, none⟩), .int .i64 i, .int .i64 c, .int .i64 n] W fun e w' => ∃ A c', e = .returned (.tuple #[.slice A size c', .int .i64 0]) ∧ Row w' w'.heap.size A (u8s f) ∧ Below W.heap.size W w') ∧
   (∀ W, Below w.heap.size w W → Calls Tryz.prog 21 #[.pointer (some ⟨gb, 0, none⟩), .int .i64 k, .int .i64 c, .int .i64 n] W fun e w' => ∃ A c', e = .returned (.tuple #[.slice A size c', .int .i64 0]) ∧ Row w' w'.heap.size A (u8s f) ∧ Below W.heap.size W w') from fun n c hn hc' => by
  obtain ⟨f, h1, h2, _⟩ := bytes_of ha hr hch hcz hn hc'
  refine ⟨f, h2, fun W hW => ?_, fun W hW => ?_⟩
  ·obtain ⟨f', h3, _, h4⟩ := bytes_of (ha.later hW) hr hch hcz hn hc'
   rw [h1] at h3
   injection h3 with h3
   rw [h3]; exact h4
  ·obtain ⟨f', h3, _, h4⟩ := bytes_of (hb.later hW) hs (by rw [hc]; exact hch) (by rw [hl]; exact hcz) hn hc'
   rw [hf, h1] at h3
   injection h3 with h3
   rw [h3]; exact h4)
 obtain ⟨⟨rn, rl, rr, rc, rp, rf, rt, rs, ro⟩, fr⟩ := r
 obtain ⟨⟨sn, sl, sr, sc, sp, sf, st, ss, so⟩, fs⟩ := s
 simp only at hl hc hch hlen
 subst hl hc hch hlen
 simp only [MetaV.cells] at HMa HMb
 have hszp : 24 ≤ size := hlo
 have hcz6 : cz ≤ 65536 := by omega
 clear ha hb hr hs hf hcz hczb
 go_enter Tryz.func38, Tryz.ntmps38
 go_wp2_with fail
 refine (HMa.out _ (Below.refl _ _)).mono ?_
 rintro e w1 ⟨rfl, hb1⟩
 have B1 := hid hb1
 have HB1 := hid (Blk.new w1 27 [.string rn, .int .i64 len, .int .i64 rr, .int .i64 ch, .bool rp, .int .i64 rf, .int .i64 rt, .int .i64 rs, .int .i64 ro])
 have E1 := hid (bnext B1.out (bnew w1 (.cells #[.string rn, .int .i64 len, .int .i64 rr, .int .i64 ch, .bool rp, .int .i64 rf, .int .i64 rt, .int .i64 rs, .int .i64 ro] 27)))
 have HM2 := hid (HMb.out _ E1.out)
 clear hb1 HMa HMb
 go_wp2_with fail
 refine HM2.out.mono ?_
 rintro e w2 ⟨rfl, hb2⟩
 have hsz2 := hb2.size
 obtain ⟨w3, hw3⟩ : ∃ w3, w2.alloc (.cells #[.string sn, .int .i64 len, .int .i64 sr, .int .i64 ch, .bool sp, .int .i64 sf, .int .i64 st, .int .i64 ss, .int .i64 so] 27) = w3 := ⟨_, rfl⟩
 have X1 := hid (show Blk w3 w1.heap.size 27 [.string rn, .int .i64 len, .int .i64 rr, .int .i64 ch, .bool rp, .int .i64 rf, .int .i64 rt, .int .i64 rs, .int .i64 ro] by rw [← hw3]; exact (HB1.out.below hb2 HB1.out.lt).alloc _)
 have X2 := hid (show Blk w3 w2.heap.size 27 [.string sn, .int .i64 len, .int .i64 sr, .int .i64 ch, .bool sp, .int .i64 sf, .int .i64 st, .int .i64 ss, .int .i64 so] by rw [← hw3]; exact Blk.new w2 _ _)
 have E3 := hid (show Below w.heap.size w w3 by rw [← hw3]; exact bnext (bnext E1.out hb2) (bnew w2 _))
 have x1 := X1.out.cell 1
 have x3 := X1.out.cell 3
 have y1 := X2.out.cell 1
 have y3 := X2.out.cell 3
 clear hb2 HM2
 have HX1 := hid (show ∀ W, Below w3.heap.size w3 W → W.cell? ⟨w1.heap.size, 1, none⟩ = some (.int .i64 len) ∧ W.cell? ⟨w1.heap.size, 3, none⟩ = some (.int .i64 ch) from fun W hW => ⟨(hW.cell (p := ⟨w1.heap.size, 1, none⟩) X1.out.lt).trans (X1.out.cell 1), (hW.cell (p := ⟨w1.heap.size, 3, none⟩) X1.out.lt).trans (X1.out.cell 3)⟩)
 go_wp2_with fail
 go_loopw [13] (fun i wr => ∃ (n : Nat), n ≤ cz ∧ i = .int .i64 n ∧ Below w3.heap.size w3 wr) (fun i _ => cz - (intOf i).toNat)
 case atStart => exact ⟨0, by omega, rfl, Below.refl _ _⟩
 case round =>
  obtain ⟨n, hn, rfl, hbel⟩ := hrel
  have Hbel := hid hbel
  obtain ⟨c1, c3⟩ := HX1.out _ hbel
  clear hbel
  obtain ⟨wa, rfl⟩ : ∃ wa, wa = wr := ⟨_, rfl⟩
  have hwl : IntKind.i64.wrap ((len : Int) + 15) = (len : Int) + 15 := IntWalk.i64_in _ (by omega)
  have hwq : IntKind.i64.wrap (((len : Int) + 15).tdiv 16) = (cz : Int) := by rw [hcq]; exact IntWalk.i64_in _ (by omega)
  by_cases hlt : n < cz
  ·have t1 : (n : Int) < (cz : Int) := by omega
   go_wp2_with fail
   go_loopw [14] (fun i wr => ∃ (c : Nat), c ≤ ch ∧ i = .int .i64 c ∧ Below w3.heap.size w3 wr) (fun i _ => ch - (intOf i).toNat)
   case atStart => exact ⟨0, by omega, rfl, Hbel.out⟩
   case round =>
    obtain ⟨c, hc, rfl, hbel2⟩ := hrel
    have Hbel2 := hid hbel2
    obtain ⟨d1, d3⟩ := HX1.out _ hbel2
    clear hbel2
    obtain ⟨wb, rfl⟩ : ∃ wb, wb = wr := ⟨_, rfl⟩
    by_cases hlc : c < ch
    ·have t2 : (c : Int) < (ch : Int) := by omega
     obtain ⟨f, hfl, hA, hB⟩ := HF.out n c hlt hlc
     have HA := hid (hA wb (bnext E3.out Hbel2.out))
     have HB := hid hB
     have Hfl := hid hfl
     obtain ⟨f0, hf0⟩ : ∃ f0, f[0]? = some f0 := ⟨_, List.getElem?_eq_getElem (by omega)⟩
     have Hf0 := hid hf0
     clear hA hB hfl hf0
     go_wp2_with fail
     refine HA.out.mono ?_
     rintro e w5 ⟨Aa, ca, rfl, hra, hb5⟩
     obtain ⟨ba, oa, rfl, _, _⟩ := hra 0 _ (u8s_get Hf0.out)
     have E5 := hid (bnext Hbel2.out hb5)
     have RA := hid hra
     have HB5 := hid (HB.out w5 (bnext E3.out E5.out))
     clear hra hb5 HA HB
     go_wp2_with fail
     refine HB5.out.mono ?_
     rintro e w6 ⟨Ab, cb, rfl, hrb, hb6⟩
     obtain ⟨bb, ob, rfl, _, _⟩ := hrb 0 _ (u8s_get Hf0.out)
     have E6 := hid (bnext E5.out hb6)
     obtain ⟨S, hS⟩ : ∃ S, strOfNums (f.map fun (x : Nat) => (x : Int)) = S := ⟨_, rfl⟩
     have cva : (convert 29 9 (.slice (some ⟨ba, oa, none⟩) size ca)).run Tryz.prog w6 = .ok (.string S) w6 := by
      rw [← hS]
      exact conv_u8 Hfl.out (RA.out.later hb6)
     have cvb : (convert 29 9 (.slice (some ⟨bb, ob, none⟩) size cb)).run Tryz.prog w6 = .ok (.string S) w6 := by
      rw [← hS]
      exact conv_u8 Hfl.out hrb
     clear hrb hb6 HB5 hS
     go_wp2_with fail
     go_roundw
     case rel => exact ⟨c + 1, by omega, by go_num, E6.out⟩
     case measure => first | (simp [intOf]; done) | (simp [intOf]; omega)
    ·have hcc : c = ch := by omega
     subst hcc
     have t2 : ¬ ((c : Int) < (c : Int)) := by omega
     have Hb2 := hid Hbel2.out
     go_wp2_with fail
     go_roundw
     case rel => exact ⟨n + 1, by omega, by go_num, Hb2.out⟩
     case measure => first | (simp [intOf]; done) | (simp [intOf]; omega)
  ·have hnn : n = cz := by omega
   subst hnn
   have t1 : ¬ ((n : Int) < (n : Int)) := by omega
   go_wp2_with fail
   go_ret
   exact ⟨rfl, bnext E3.out Hbel.out⟩
end Go.Proofs.YtgcfkblmnpnogaaGreatDoor
namespace Go.Proofs.YtgcfkblmnpnogaaGreatDoor
open Go.RowKit Go.Lib
theorem eq_meta (x : MetaV) (W : World) : (Op.equalIn 10000 27 (.agg x.cells.toArray) (.agg x.cells.toArray)).run Tryz.prog W = .ok true W := by
 have h := metaNeq.1 x x W
 rw [MetaV.same_self, run_neq_struct] at h
 cases hr : (Op.equalIn 10000 27 (.agg x.cells.toArray) (.agg x.cells.toArray)).run Tryz.prog W with
 | ok b w' =>
  rw [hr] at h
  simp at h
  obtain ⟨h1, h2⟩ := h
  rw [h1, h2]
 | halt q w' => rw [hr] at h; simp at h
def plainM (m : MetaV) : MetaV := { m with sums := 0, first := 0 }
set_option maxRecDepth 100000 in
theorem plain29_any (nm : ByteArray) (len rate ch : Int) (lp : Bool) (f t s1 s2 : Int) (w : World) :
  Calls Tryz.prog 37 #[.agg #[.string nm, .int .i64 len, .int .i64 rate, .int .i64 ch, .bool lp, .int .i64 f, .int .i64 t, .int .i64 s1, .int .i64 s2]] w fun e w' => e = .returned (.agg #[.string nm, .int .i64 len, .int .i64 rate, .int .i64 ch, .bool lp, .int .i64 f, .int .i64 t, .int .i64 0, .int .i64 0]) ∧ Below w.heap.size w w' := by
 go_enter Tryz.func37, Tryz.ntmps37
 go_wp2
 refine bodyPost_ret (v := .agg #[.string nm, .int .i64 len, .int .i64 rate, .int .i64 ch, .bool lp, .int .i64 f, .int .i64 t, .int .i64 0, .int .i64 0]) (by simp [results, Tryz.results37, go_sem]) rfl ?_
 exact ⟨rfl, bnext (bnew _ _) (bnew _ _)⟩
def others (but : ByteArray) (Z : List RawV) : Nat := Z.countP fun r => !(r.m.name.toList == but.toList)
theorem others_snoc (but : ByteArray) (Z : List RawV) (r : RawV) : others but (Z ++ [r]) = others but Z + if (r.m.name.toList == but.toList) = true then 0 else 1 := by
 unfold others
 rw [List.countP_append, List.countP_cons, List.countP_nil]
 cases r.m.name.toList == but.toList <;> rfl
theorem others_le (but : ByteArray) (Z : List RawV) : others but Z ≤ Z.length := List.countP_le_length
set_option maxRecDepth 100000 in
set_option maxHeartbeats 16000000 in
theorem kept_any {w : World} {gb size : Nat} {Zb : List RawV} {bsb : List Nat} (hb : BankOf w gb size Zb bsb) {D : List MetaV} {FR : List (List Nat)} (hC : CanB size D FR) (g : Nat) (hby : BytesAt w g (bldZ size D FR)) (but : ByteArray) (more : Nat)
  (hm : ∀ (i : Nat) r, Zb[i]? = some r → (r.m.name.toList == but.toList) = false → ∃ (k : Nat) (s : RawV), (allZ size D FR D.length)[k]? = some s ∧ plainM s.m = plainM r.m ∧ s.fs = r.fs)
  (hn : more + others but Zb = D.length) :
  Calls Tryz.prog 35 #[.pointer (some ⟨gb, 0, none⟩), .slice (some ⟨g, 0, none⟩) (bldN size D) (bldN size D), .string but, .int .i64 more] w fun e w' => e = .returned (.bool true) ∧ Below w.heap.size w w' := by
 have HPa := hid (Parse_built hC g w hby)
 have HDb := hid (fun W (hW : Below w.heap.size w W) => BDir_any (hb.at_.later hW) (by have := hb.fit.lo; omega) hb.fit.many)
 have Hb := hid hb
 have HC := hid hC
 have Hm := hid hm
 obtain ⟨n, hnl⟩ : ∃ n, Zb.length = n := ⟨_, rfl⟩
 have hn64 : n ≤ 64 := by have := hb.fit.many; rw [dOf_len, hnl] at this; exact this
 have hmor : more ≤ 64 := by have := hC.many; omega
 rw [dOf_len, hnl] at HDb
 have Hnl := hid hnl
 have HTn := hid (show Zb.take n = Zb from List.take_of_length_le (by omega))
 have Hn := hid hn
 have HOt := hid (fun k => (show others but (Zb.take k) ≤ 64 from Nat.le_trans (Nat.le_trans (others_le but _) (by rw [List.length_take]; omega)) hn64))
 clear hb hC hby hm hnl hn
 go_enter Tryz.func35, Tryz.ntmps35
 go_wp2_with fail
 refine HPa.out.mono ?_
 rintro e w1 ⟨x, rfl, hx, hBx, hb1⟩
 have HX := hid (bankOf_built HC.out hBx)
 have B1 := hid hb1
 have HD1 := hid (HDb.out w1 hb1)
 have HDx := hid (fun W (hW : Below w1.heap.size w1 W) => BDir_any (hBx.later hW) (by have := HC.out.lo; omega) (by rw [bldDir_len]; exact HC.out.many))
 rw [bldDir_len] at HDx
 clear hBx hb1 hx HPa HDb
 go_wp2_with fail
 refine HD1.out.mono ?_
 rintro e w2 ⟨Ad, cd, rfl, _, _, _, hown, hb2⟩
 have E2 := hid (bnext B1.out hb2)
 have B2 := hid hb2
 have RD := hid (Row.of_own hown)
 clear hown hb2 HD1
 go_wp2_with fail
 go_loopw [12, 13] (fun c i wr => ∃ (m : Nat), m ≤ n ∧ i = .int .i64 m ∧ c = .int .i64 ((more + others but (Zb.take m) : Nat) : Int) ∧ Below w2.heap.size w2 wr) (fun _ i _ => n - (intOf i).toNat)
 case atStart => exact ⟨0, by omega, rfl, rfl, Below.refl _ _⟩
 case round =>
  obtain ⟨m, hm, rfl, rfl, hbel⟩ := hrel
  have Hbel := hid hbel
  clear hbel
  obtain ⟨wa, rfl⟩ : ∃ wa, wa = wr := ⟨_, rfl⟩
  by_cases hlt : m < n
  ·have t1 : (m : Int) < (n : Int) := by omega
   have t2 : (0 : Int) ≤ (m : Int) := by omega
   obtain ⟨r, hr⟩ := list_get (k := m) Hnl.out hlt
   have HTs := hid (take_snoc hr)
   have Hr := hid hr
   obtain ⟨bD, oD, rfl, hbD, hcD⟩ := meta_at RD.out (dOf_get hr)
   have HXD := hid (fun W (hW : Below w2.heap.size w2 W) j v (hv : r.m.cells[j]? = some v) => (show W.cell? ⟨bD, oD + m * 9 + j, none⟩ = some v from (hW.cell (p := ⟨bD, oD + m * 9 + j, none⟩) hbD).trans (hcD j v hv)))
   have x0 : wa.cell? ⟨bD, oD + m * 9, none⟩ = some (.string r.m.name) := HXD.out wa Hbel.out 0 _ rfl
   have hot := HOt.out m
   cases hnm : r.m.name.toList == but.toList with
   | true =>
    have Hos := hid (show others but (Zb.take (m + 1)) = others but (Zb.take m) by rw [HTs.out, others_snoc, if_pos hnm]; rfl)
    have Hbb := hid Hbel.out
    clear hr hbD hcD
    go_wp2_with fail
    go_roundw
    case rel => exact ⟨m + 1, by omega, by go_num, by rw [Hos.out], Hbb.out⟩
    case measure => first | (simp [intOf]; done) | (simp [intOf]; omega)
   | false =>
    have Hos := hid (show others but (Zb.take (m + 1)) = others but (Zb.take m) + 1 by rw [HTs.out, others_snoc, if_neg (by rw [hnm]; exact Bool.false_ne_true)])
    obtain ⟨K, hK⟩ : ∃ K, more + others but (Zb.take m) = K := ⟨_, rfl⟩
    have HK := hid hK
    rw [hK]
    have hK2 : K ≤ 128 := by omega
    obtain ⟨k, s, hs, hp, hfs⟩ := Hm.out m r hr hnm
    have hsn : s.m.name = r.m.name := (congrArg MetaV.name hp : (plainM s.m).name = (plainM r.m).name)
    have hsl : s.m.length = r.m.length := (congrArg MetaV.length hp : (plainM s.m).length = (plainM r.m).length)
    have hsc : s.m.channels = r.m.channels := (congrArg MetaV.channels hp : (plainM s.m).channels = (plainM r.m).channels)
    have hfd := find_name (ascN_of HX.out.asc) (dOf_get hs)
    rw [hsn] at hfd
    have HFi := hid (fun W (hW : Below w1.heap.size w1 W) => (show Calls Tryz.prog 33 #[.pointer (some ⟨x, 0, none⟩), .string r.m.name] W (fun e w' => e = .returned (.tuple #[.int .i64 (k : Nat), .bool true]) ∧ Below W.heap.size W w') from by
     have h := Find_any x size (bldZ size D FR) (dOf (allZ size D FR D.length)) r.m.name W (HX.out.at_.later hW) (by have := HC.out.lo; omega) HX.out.fit.many (ascN_of HX.out.asc)
     rwa [hfd.1, hfd.2] at h))
    have HMe := hid (fun W (hW : Below w1.heap.size w1 W) => (show Calls Tryz.prog 36 #[.pointer (some ⟨x, 0, none⟩), .int .i64 (k : Nat)] W (fun e w' => e = .returned (.tuple #[.agg s.m.cells.toArray, .int .i64 0]) ∧ Below W.heap.size W w') from by
     have h := BMeta_any x size (bldZ size D FR) (dOf (allZ size D FR D.length)) k W (HX.out.at_.later hW) (by have := HC.out.lo; omega) (by have := HX.out.fit.many; omega)
     rwa [(meta_i (dOf_get hs)).1, (meta_i (dOf_get hs)).2] at h))
    have HSm := hid (fun W (hW : Below w1.heap.size w1 W) => same_any (Hb.out.later (bnext B1.out hW)) (HX.out.later hW) hr hs hsl hsc hfs)
    have HEq := hid (eq_meta (plainM r.m))
    have HF1 := hid (HFi.out wa (bnext B2.out Hbel.out))
    have hk64 : k ≤ 64 := by
     have h1 := (List.getElem?_eq_some_iff.1 hs).1
     have h2 := HX.out.fit.many
     rw [dOf_len] at h2
     omega
    obtain ⟨⟨qn, ql, qr, qc, qp, qf, qt, rs, ro⟩, fr⟩ := r
    obtain ⟨⟨rn, rl, rr, rc, rp, rf, rt, ss, so⟩, fs⟩ := s
    simp only [plainM, MetaV.mk.injEq] at hp
    obtain ⟨rfl, rfl, rfl, rfl, rfl, rfl, rfl, _, _⟩ := hp
    simp only [MetaV.cells] at HMe HXD
    simp only [plainM, MetaV.cells] at HEq
    have HPs := hid (fun W => plain29_any rn rl rr rc rp rf rt ss so W)
    have HPr := hid (fun W => plain29_any rn rl rr rc rp rf rt rs ro W)
    have Hbb := hid Hbel.out
    clear hr hbD hcD hs hfs hsn hsl hsc hfd hK HFi
    go_wp2_with fail
    refine HF1.out.mono ?_
    rintro e w5 ⟨rfl, hb5⟩
    have E5 := hid (bnext Hbb.out hb5)
    have HM5 := hid (HMe.out w5 (bnext B2.out E5.out))
    clear hb5 HF1 HMe
    go_wp2_with fail
    refine HM5.out.mono ?_
    rintro e w6 ⟨rfl, hb6⟩
    obtain ⟨w7, hw7⟩ : ∃ w7, w6.alloc (.cells #[.string rn, .int .i64 rl, .int .i64 rr, .int .i64 rc, .bool rp, .int .i64 rf, .int .i64 rt, .int .i64 ss, .int .i64 so] 27) = w7 := ⟨_, rfl⟩
    have E7 := hid (show Below w2.heap.size w2 w7 by rw [← hw7]; exact bnext (bnext E5.out hb6) (bnew w6 _))
    have HN7 := hid (show w7.heap[w6.heap.size]? = some (.cells #[.string rn, .int .i64 rl, .int .i64 rr, .int .i64 rc, .bool rp, .int .i64 rf, .int .i64 rt, .int .i64 ss, .int .i64 so] 27 (0, 0)) by rw [← hw7]; exact heap_alloc_new w6 _)
    clear hb6 HM5
    have HFm := hid (show (Tryz.prog.info? 27).map (·.size) = some 9 by kernel_rfl)
    have x5 : ∀ (z : GW w7), z.1.heap[w6.heap.size]? = some (.cells #[.string rn, .int .i64 rl, .int .i64 rr, .int .i64 rc, .bool rp, .int .i64 rf, .int .i64 rt, .int .i64 ss, .int .i64 so] 27 (0, 0)) := fun z => hkeep HN7.out z.2
    have y5 := hid (fun W (hW : ∃ z : GW w7, W = z.1) => HXD.out W (bnext E7.out (gw_below hW)))
    go_wp2_with fail
    refine wp_region_calm (by kernel_rfl) (by kernel_rfl) ?_
    repeat (first | (go_big_quiet_want; refine quiet_load_row 27 (.tmp 16) rfl w6.heap.size rfl _ #[.string rn, .int .i64 rl, .int .i64 rr, .int .i64 rc, .bool rp, .int .i64 rf, .int .i64 rt, .int .i64 ss, .int .i64 so] _ _ (by rintro _ ⟨z, rfl⟩; exact x5 z) Tryz.underlying27 rfl HFm.out ?_; go_simp; go_big_quiet_on) | (go_big_quiet_want; refine quiet_load_part 27 (.tmp 70) rfl bD (oD + m * 9) rfl [.string rn, .int .i64 rl, .int .i64 rr, .int .i64 rc, .bool rp, .int .i64 rf, .int .i64 rt, .int .i64 rs, .int .i64 ro] _ y5.out Tryz.underlying27 rfl HFm.out ?_; go_simp; go_big_quiet_on) | go_big_quiet_step ((first | (go_at_call 37; first | exact calm_call (HPs.out _) | exact calm_call (HPr.out _)) | (go_at_call 38; rename_i z; exact calm_call (HSm.out z.1 (bnext (bnext B2.out E7.out) z.2))))))
    refine wpQuiet_nil ?_
    intro w8 hw'
    have E8 := hid (bnext E7.out (gw_below hw'))
    clear hw' x5 y5
    go_wp2_with fail
    go_roundw
    case rel => exact ⟨m + 1, by omega, by go_num, congrArg (fun z : Nat => Value.int .i64 (z : Int)) (show K + 1 = _ by rw [Hos.out, ← HK.out]; omega), E8.out⟩
    case measure => first | (simp [intOf]; done) | (simp [intOf]; omega)
  ·have hmn : m = n := by omega
   subst hmn
   have t1 : ¬ ((m : Int) < (m : Int)) := by omega
   have HD5 := hid (HDx.out wa (bnext B2.out Hbel.out))
   obtain ⟨K, hK⟩ : ∃ K, D.length = K := ⟨_, rfl⟩
   rw [HTn.out, Hn.out]
   rw [hK] at HD5 ⊢
   have Hbb := hid Hbel.out
   go_wp2_with fail
   refine HD5.out.mono ?_
   rintro e w5 ⟨A5, c5, rfl, _, _, _, _, hb5⟩
   have E5 := hid (bnext (bnext E2.out Hbb.out) hb5)
   clear hb5 HD5
   go_wp2_with fail
   go_ret
   exact ⟨rfl, E5.out⟩
end Go.Proofs.YtgcfkblmnpnogaaGreatDoor
namespace Go.Proofs.YtgcfkblmnpnogaaGreatDoor
open Go.RowKit Go.Lib
theorem FsAt.app {w w' : World} {base b2 : Nat} {A a : Option Addr} {c q : Nat} {FR fs : List (List Nat)} {vs ws : List Value} (h : FsAt w base A c FR vs) (k : FsAt w b2 a q fs ws) {A' : Option Addr} {c' : Nat}
  (hown : w'.ownsRow base 29 1 (.slice A' (FR.length + fs.length) c') (FR.length + fs.length) (vs ++ ws)) (hg : w.grownBy w' (Value.slice A FR.length c).ownBlock) : FsAt w' base A' c' (FR ++ fs) (vs ++ ws) := by
 have hl : (FR ++ fs).length = FR.length + fs.length := List.length_append
 refine ⟨by rw [List.length_append, h.len, k.len, hl], by rw [hl]; exact hown, fun j v g hj1 hj2 => ?_⟩
 by_cases hj : j < FR.length
 ·rw [List.getElem?_append_left (by rw [h.len]; exact hj)] at hj1
  rw [List.getElem?_append_left hj] at hj2
  obtain ⟨a', k', e, h3, h4, h5⟩ := h.each j v g hj1 hj2
  exact ⟨a', k', e, h3, h4, h5.kept hg (own_far h5 h.own (by decide))⟩
 ·rw [List.getElem?_append_right (by rw [h.len]; omega), h.len] at hj1
  rw [List.getElem?_append_right (by omega)] at hj2
  obtain ⟨a', k', e, h3, h4, h5⟩ := k.each _ v g hj1 hj2
  exact ⟨a', k', e, h3, h4, h5.kept hg (own_far h5 h.own (by decide))⟩
theorem BuildP.later {w w1 : World} {size : Nat} {D : List MetaV} {FR : List (List Nat)} {e : Ending} {w' : World} (hb : Below w.heap.size w w1) (h : BuildP w1 size D FR e w') : BuildP w size D FR e w' := by
 unfold BuildP at *
 refine ⟨bnext hb h.1, ?_⟩
 rcases h.2 with h | h | ⟨hC, g, he, hg, hby⟩
 ·exact .inl h
 ·exact .inr (.inl h)
 ·exact .inr (.inr ⟨hC, g, he, Nat.le_trans hb.size hg, hby⟩)
theorem dOf_snoc (Z : List RawV) (r : RawV) : dOf (Z ++ [r]) = dOf Z ++ [r.m] := by simp [dOf]
theorem fs_one {vs : List Value} {w : World} {base : Nat} {A : Option Addr} {c : Nat} {FR : List (List Nat)} (h : FsAt w base A c FR vs) : ∀ u ∈ vs, u.oneCell' = true := by
 intro u hu
 obtain ⟨j, hj⟩ := List.getElem?_of_mem hu
 have hjl := (List.getElem?_eq_some_iff.1 hj).1
 rw [h.len] at hjl
 obtain ⟨a, k, rfl, _⟩ := h.each j u _ hj (List.getElem?_eq_getElem hjl)
 rfl
set_option maxRecDepth 100000 in
set_option maxHeartbeats 16000000 in
theorem build_any (size : Nat) (L : List (HRaw × RawV)) (A : Option Addr) (c base : Nat) (w : World) (h1 : 24 ≤ size) (h2 : size ≤ 96) (hL : L.length ≤ 64) (hr : RawsAt w base A c L) (hfl : (fOf (L.map Prod.snd)).length ≤ 30000) (hbt : ∀ f ∈ fOf (L.map Prod.snd), Byt f) :
  Calls Tryz.prog 92 #[.int .i64 size, .slice A L.length c] w (BuildP w size (dOf (L.map Prod.snd)) (fOf (L.map Prod.snd))) := by
 obtain ⟨i0, hi, ⟨z0, hz0, hz0s⟩, hi1, hi2⟩ := meta_info
 obtain ⟨iB, hiB, hzB0, hzB1, hzB2⟩ := info_parts inf_row8
 have HBu := hid (fun (D : List MetaV) (A : Option Addr) (capD : Nat) (FR : List (List Nat)) (Af : Option Addr) (capF : Nat) (W : World) hD hr hf hfl hcf hcm hbt => Build_any size D A capD FR Af capF W h1 h2 hD hr hf hfl hcf hcm hbt)
 have hzl : (L.map Prod.snd).length = L.length := List.length_map _
 have HZg := hid (fun (k : Nat) p (h : L[k]? = some p) => (show (L.map Prod.snd)[k]? = some p.2 from by rw [List.getElem?_map, h]; rfl))
 have HEa := hid hr.each
 have HOw := hid hr.own
 have Hbt := hid hbt
 have Hfl := hid hfl
 generalize hZ : L.map Prod.snd = Z at *
 have HfT := hid (fun m => fOf_sub (List.take_sublist m Z))
 obtain ⟨n, hn⟩ : ∃ n, L.length = n := ⟨_, rfl⟩
 have HTn := hid (show Z.take n = Z from List.take_of_length_le (by omega))
 have HTl := hid (fun k (hk : k ≤ n) => (show (Z.take k).length = k by rw [List.length_take]; omega))
 rw [hn] at hL hzl ⊢
 have Hn := hid hn
 have HR := hid (Row.of_own HOw.out)
 have Hzl := hid hzl
 clear hr hfl hbt hZ hn h1 h2 HOw hzl
 go_enter Tryz.func92, Tryz.ntmps92
 go_wp2
 go_loopw [6, 7, 12] (fun d fv i wr => ∃ (m : Nat) (Ad : Option Addr) (cd : Nat) (Af : Option Addr) (cf nf : Nat) (vs : List Value), m ≤ n ∧ i = .int .i64 m ∧ d = .slice Ad m cd ∧ fv = .slice Af nf cf ∧ nf = (fOf (Z.take m)).length ∧ nf ≤ cf ∧
   wr.ownsRow w.heap.size 27 9 (.slice Ad m cd) m (metaCells (dOf (Z.take m))) ∧ FsAt wr w.heap.size Af cf (fOf (Z.take m)) vs ∧ Below w.heap.size w wr) (fun _ _ i _ => n - (intOf i).toNat)
 case atStart => exact ⟨0, none, 0, none, 0, 0, [], by omega, rfl, rfl, rfl, rfl, Nat.le_refl _, World.ownsRow_nil _ _ _ _, FsAt.nil _ _, Below.refl _ _⟩
 case round =>
  obtain ⟨m, Ad, cd, Af, cf, nf, vs, hm, rfl, rfl, rfl, hnf, hcf, hown, hfs, hbel⟩ := hrel
  have Hnf := hid hnf
  have HO := hid hown
  have HF := hid hfs
  have Hbel := hid hbel
  clear hnf hown hfs hbel
  obtain ⟨wa, rfl⟩ : ∃ wa, wa = wr := ⟨_, rfl⟩
  by_cases hlt : m < n
  ·have t1 : (m : Int) < (n : Int) := by omega
   have t2 : (0 : Int) ≤ (m : Int) := by omega
   obtain ⟨p, hp⟩ := list_get (k := m) Hn.out hlt
   have hz := HZg.out m p hp
   have HT1 := hid (show dOf (Z.take (m + 1)) = dOf (Z.take m) ++ [p.2.m] by rw [take_snoc hz, dOf_snoc])
   have HT2 := hid (show fOf (Z.take (m + 1)) = fOf (Z.take m) ++ p.2.fs by rw [take_snoc hz, fOf_app, fOf_one])
   have hle := HfT.out (m + 1)
   rw [HT2.out, List.length_append, ← Hnf.out] at hle
   have hbd : nf + p.2.fs.length ≤ 30000 := by have := Hfl.out; omega
   obtain ⟨vp, hvp⟩ := HEa.out p (List.mem_of_getElem? hp)
   have HV := hid (hvp.below Hbel.out)
   obtain ⟨b, off, hAb, hbl, hcl⟩ := raw_at HR.out hp
   subst hAb
   have HX := hid (fun j v (hv : (rawC p)[j]? = some v) => (show wa.cell? ⟨b, off + m * 10 + j, none⟩ = some v from (Hbel.out.cell (p := ⟨b, off + m * 10 + j, none⟩) hbl).trans (hcl j v hv)))
   have hpl := rawC_len p
   have Hp1 := hid (rawC_one p)
   have hpe : rawC p = p.2.m.cells ++ [.slice p.1.a p.2.fs.length p.1.c] := rfl
   obtain ⟨pc, hpc⟩ : ∃ pc, rawC p = pc := ⟨_, rfl⟩
   obtain ⟨mc, hmc⟩ : ∃ mc, p.2.m.cells = mc := ⟨_, rfl⟩
   have hml : mc.length = 9 := by rw [← hmc]; rfl
   have Hm1 := hid (show ∀ u ∈ mc, u.oneCell' = true by rw [← hmc]; exact meta_one p.2.m)
   obtain ⟨fl, hfle⟩ : ∃ fl, p.2.fs.length = fl := ⟨_, rfl⟩
   rw [hpc] at hpl HX Hp1 hpe
   rw [hmc, hfle] at hpe
   have HMc := hid (show metaCells (dOf (Z.take (m + 1))) = metaCells (dOf (Z.take m)) ++ mc by rw [HT1.out, metaCells_snoc, hmc])
   have Hfle := hid hfle
   rw [hfle] at hbd
   have hm64 : m ≤ 64 := by omega
   obtain ⟨⟨ra, rc⟩, ⟨rm, rf⟩⟩ := p
   simp only at Hfle HV HT2 hpe
   have Hpe := hid hpe
   have HFl := hid (show (Tryz.prog.info? 149).map (·.size) = some pc.length by rw [hpl]; exact inf_raw)
   have Hps := hid (show pc.toArray.size = 10 by rw [List.size_toArray, hpl])
   have HFz := hid (show (Tryz.prog.info? 149).map (·.size) = some pc.toArray.size by rw [Hps.out]; exact inf_raw)
   have HO1 := hid (show pc.toArray.all (·.oneCell') = true by
    rw [Array.all_eq_true_iff_forall_mem]
    intro v hv
    exact Hp1.out v (by simpa using hv))
   have HMf := hid (show (Tryz.prog.info? 27).map (·.size) = some mc.length by rw [hml]; kernel_rfl)
   have Hm9 := hid (show mc.toArray.size = 9 by rw [List.size_toArray, hml])
   have Hmlen := hid hml
   obtain ⟨wb, hwb⟩ : ∃ wb, wa.alloc (.cells pc.toArray 149) = wb := ⟨_, rfl⟩
   have Xb := hid (show Blk wb wa.heap.size 149 pc by rw [← hwb]; exact Blk.new wa _ pc)
   have Eb := hid (show Below wa.heap.size wa wb by rw [← hwb]; exact bnew wa _)
   have HXm := hid (show ∀ j v, mc[j]? = some v → wb.cell? ⟨wa.heap.size, 0 + j, none⟩ = some v from fun j v hv => by
    rw [Nat.zero_add]
    refine (Xb.out.cell j).trans ?_
    rw [Hpe.out, List.getElem?_append_left (by rw [Hmlen.out]; have := (List.getElem?_eq_some_iff.1 hv).1; rw [Hmlen.out] at this; exact this)]
    exact hv)
   have HOb := hid (HO.out.alloc (.cells pc.toArray 149))
   rw [hwb] at HOb
   have HFb := hid (HF.out.below Eb.out)
   have HVb := hid (HV.out.below Eb.out)
   have hV : wa.alloc (.cells pc.toArray 149) = wb := hwb
   have hwz : w.heap.size ≤ wa.heap.size := Hbel.out.size
   have hzb : w.heap.size ≤ wb.heap.size := Nat.le_trans hwz Eb.out.size
   have Hpc9 := hid (show pc[9]? = some (.slice ra fl rc) by rw [Hpe.out, List.getElem?_append_right (by rw [Hmlen.out]; exact Nat.le_refl _), Hmlen.out]; rfl)
   clear hp hz hle hvp hcl hpe hpc hmc hfle hml hpl hbl
   go_wp2_with (first | (refine wpList_load_part_w rfl 149 (.tmp 14) rfl b (off + m * 10) rfl pc _ HX.out Tryz.underlying149 rfl HFl.out ?_) | (refine wpList_store_row_w rfl 149 (.tmp 9) (.tmp 15) rfl wa.heap.size rfl _ _ pc.toArray rfl (heap_alloc_new wa _) HFz.out (by rw [Hps.out]; rfl) HO1.out ?_; rw [World.setRow_alloc_new, hV]) | (refine wpList_load_part_w rfl 27 (.tmp 17) rfl wa.heap.size 0 rfl mc _ HXm.out Tryz.underlying27 rfl HMf.out ?_) | (refine wpList_build_one rfl 22 27 (.tmp 18) rfl i0 z0 9 Tryz.underlying22 hi hz0 hi1 (by omega) (by omega) mc.toArray rfl Hm9.out ?_) | (at_builtin; refine wpList_app _ rfl (.tmp 16) (.tmp 19) 22 rfl w.heap.size 27 i0 z0 9 80 Tryz.underlying22 hi hz0 hi1 hi2 hz0s (by omega) (.slice Ad m cd) m (metaCells (dOf (Z.take m))) rfl (HOb.out.alloc _) (wb.heap.size + 1) (some ⟨wb.heap.size, 0, none⟩) 1 1 mc rfl (by rw [Hmlen.out]) (Row.new wb _ mc) Hm1.out (by omega) (by omega) (by simp; omega) ?_; intro A2 c2 w5 hown5 hgr5 hat5 hcc5; have X5 := hid (Blk.grown (Xb.out.alloc (.cells mc.toArray 27)) hgr5 (own_ne (HOb.out.alloc (.cells mc.toArray 27)) (Xb.out.alloc (.cells mc.toArray 27)) (by decide))); have z9 := (X5.out.cell 9).trans Hpc9.out; have F5 := hid ((HFb.out.below (bnew wb (.cells mc.toArray 27))).far (HOb.out.alloc (.cells mc.toArray 27)) (by decide) (by decide) hgr5); have V5 := hid ((HVb.out.below (bnew wb (.cells mc.toArray 27))).far (HOb.out.alloc (.cells mc.toArray 27)) (by decide) (by decide) hgr5); have hO5 := F5.out.own; rw [← Hnf.out] at hO5; have O5 := hid hO5; have hR5 := Row.of_own V5.out.own; have R5 := hid hR5; have hz5 : w.heap.size ≤ w5.heap.size := Nat.le_trans (by simp; omega) hgr5.size; have O25 := hid hown5; have G5 := hid hgr5; have hVl := V5.out.len; rw [Hfle.out] at hVl; have Hv1 := hid (fs_one V5.out); clear hO5 hR5 hgr5 hown5) | (at_builtin; refine wpList_app _ rfl (.tmp 21) (.tmp 23) 23 rfl w.heap.size 29 iB (.slice none 0 0) 1 24 Tryz.underlying23 hiB hzB0 hzB1 hzB2 rfl (by omega) (.slice Af nf cf) nf vs rfl O5.out w5.heap.size ra fl rc vp rfl (by rw [hVl, Nat.mul_one]) R5.out Hv1.out (by omega) (by omega) hz5 ?_; intro A6 c6 w6 hown6 hgr6 hat6 hcc6))
   go_roundw
   case rel =>
    have hb5 : Below w.heap.size w w5 := ((bnext (bnext Hbel.out Eb.out) (bnew wb (.cells mc.toArray 27)))).grown G5.out (by simp; omega) (fun k hk => own_block_ge HO.out k hk)
    have hb6 := hb5.grown hgr6 hz5 (fun k hk => own_block_ge O5.out k hk)
    refine ⟨m + 1, A2, c2, A6, c6, nf + fl, vs ++ vp, by omega, by go_num, rfl, rfl, by rw [HT2.out, List.length_append, ← Hnf.out, Hfle.out], hcc6, ?_, ?_, hb6⟩
    ·rw [HMc.out]
     exact O25.out.kept hgr6 (own_far O25.out O5.out (by decide))
    ·rw [HT2.out]
     exact F5.out.app V5.out (by rw [← Hnf.out, Hfle.out]; exact hown6) (by rw [← Hnf.out]; exact hgr6)
   case measure => first | (simp [intOf]; done) | (simp [intOf]; omega)
  ·have hmn : m = n := by omega
   subst hmn
   have t1 : ¬ ((m : Int) < (m : Int)) := by omega
   rw [HTn.out] at HO HF Hnf
   have HB1 := hid (HBu.out (dOf Z) Ad cd (fOf Z) Af cf wa (by rw [dOf_len, Hzl.out]; exact hL) (Row.of_own HO.out) HF.out.rows Hfl.out (by rw [← Hnf.out]; exact hcf) (own_cap HF.out.own) Hbt.out)
   rw [dOf_len, Hzl.out, ← Hnf.out] at HB1
   have Hb := hid Hbel.out
   clear HO HF
   go_wp2_with (go_at_call 18; fail)
   refine HB1.out.mono ?_
   rintro e w2 hb
   have HP := hid (BuildP.later Hb.out hb)
   clear hb HB1 Hb Hnf
   unfold BuildP at HP
   rcases HP.out with ⟨hb2, ⟨hk, rfl⟩ | ⟨hk, hk2, rfl⟩ | ⟨hC, g, rfl, hg, hby⟩⟩
   ·have P1 := hid (show BuildP w size (dOf Z) (fOf Z) _ _ from HP.out)
    clear hb2 hk HP
    go_wp2
    refine bodyPost_ret (results_tmp2 Tryz.results92 _ _ _) rfl ?_
    exact P1.out
   ·have P1 := hid (show BuildP w size (dOf Z) (fOf Z) _ _ from HP.out)
    clear hb2 hk hk2 HP
    go_wp2
    refine bodyPost_ret (results_tmp2 Tryz.results92 _ _ _) rfl ?_
    exact P1.out
   ·have P1 := hid (show BuildP w size (dOf Z) (fOf Z) _ _ from HP.out)
    clear hb2 hC hg hby HP
    go_wp2
    refine bodyPost_ret (results_tmp2 Tryz.results92 _ _ _) rfl ?_
    exact P1.out
end Go.Proofs.YtgcfkblmnpnogaaGreatDoor
namespace Go.Proofs.YtgcfkblmnpnogaaGreatDoor
open Go.RowKit Go.Lib
theorem map_erase {α β : Type} (f : α → β) : ∀ (L : List α) (i : Nat), (L.eraseIdx i).map f = (L.map f).eraseIdx i
 | [], _ => by simp
 | _ :: _, 0 => rfl
 | x :: r, i + 1 => by
  show f x :: (r.eraseIdx i).map f = f x :: (r.map f).eraseIdx i
  rw [map_erase f r i]
def ImageP (w : World) (size : Nat) (Z : List RawV) (e : Ending) (w' : World) : Prop :=
 RawsOk size Z ∧ ∃ g, e = .returned (.tuple #[.slice (some ⟨g, 0, none⟩) (bldN size (dOf Z)) (bldN size (dOf Z)), .int .i64 0]) ∧ w.heap.size ≤ g ∧ BytesAt w' g (bldZ size (dOf Z) (fOf Z)) ∧ Below w.heap.size w w'
theorem image_of {w : World} {size : Nat} {Z : List RawV} {e : Ending} {w' : World} (hZ : RawsOk size Z) (h : BuildP w size (dOf Z) (fOf Z) e w') : ImageP w size Z e w' := by
 unfold BuildP at h
 rcases h with ⟨hb, ⟨h1, _⟩ | ⟨_, h1 | h1, _⟩ | ⟨_, g, he, hg, hby⟩⟩
 ·rw [hZ.ok] at h1; cases h1
 ·exact absurd hZ.k h1
 ·rw [hZ.lok] at h1; cases h1
 ·exact ⟨hZ, g, he, hg, hby, hb⟩
theorem ImageP.later {w w1 : World} {size : Nat} {Z : List RawV} {e : Ending} {w' : World} (hb : Below w.heap.size w w1) (h : ImageP w1 size Z e w') : ImageP w size Z e w' := by
 obtain ⟨hZ, g, he, hg, hby, hb2⟩ := h
 exact ⟨hZ, g, he, Nat.le_trans hb.size hg, hby, bnext hb hb2⟩
theorem build_ok (size : Nat) (L : List (HRaw × RawV)) (A : Option Addr) (c base : Nat) (w : World) (hZ : RawsOk size (L.map Prod.snd)) (hr : RawsAt w base A c L) :
  Calls Tryz.prog 92 #[.int .i64 size, .slice A L.length c] w (ImageP w size (L.map Prod.snd)) :=
 (build_any size L A c base w hZ.lo hZ.hi (by have := hZ.many; rw [List.length_map] at this; exact this) hr hZ.few hZ.byt).mono fun _ _ h => image_of hZ h
end Go.Proofs.YtgcfkblmnpnogaaGreatDoor
namespace Go.Proofs.YtgcfkblmnpnogaaGreatDoor
open Go.RowKit Go.Lib
theorem kOf_few {D : List MetaV} (h : ∀ x ∈ D, FewM x) : ∀ m, m ≤ D.length → kOf D m ≤ 20 * m
 | 0, _ => Nat.le_refl _
 | m + 1, hm => by
  obtain ⟨x, hx⟩ : ∃ x, D[m]? = some x := ⟨_, List.getElem?_eq_getElem (by omega)⟩
  have h1 := kOf_few h m (by omega)
  have h2 := framesN_bd (h x (List.mem_of_getElem? hx))
  rw [kOf_succ hx]
  omega
def MadeB (w : World) (e : Ending) (w' : World) : Prop :=
 Below w.heap.size w w' ∧ (e = .returned (.pointer none) ∨ ∃ D FR g, CanB 24 D FR ∧ List.length FR ≤ 30000 ∧ e = .returned (.pointer (some ⟨g, 0, none⟩)) ∧ BankAt w' g (bldZ 24 D FR) 24 (bldDir 24 D) ∧ w.heap.size ≤ g)
theorem canP_few {SS : List SampV} (h : CanP 24 SS) : (frTo 24 SS SS.length).length ≤ 30000 := by
 have h1 := kOf_few h.few (SS.map metaOf).length (Nat.le_refl _)
 rw [h.can.cnt, List.length_map] at h1
 have := h.many
 omega
theorem madeB_of {w : World} {ss : List SampV} {e : Ending} {w' : World} (h : MadeP w ss e w') : MadeB w e w' := by
 obtain ⟨hb, ⟨_, he⟩ | ⟨_, hC, g, he, hB, hg⟩⟩ := h
 ·exact ⟨hb, .inl he⟩
 ·rw [hC.bld_eq, ← bldDir_pack] at hB
  exact ⟨hb, .inr ⟨_, _, g, hC.can, canP_few hC, he, hB, hg⟩⟩
theorem made29_law (L : List (HSamp × SampV)) (A : Option Addr) (cap : Nat) (w : World) (hs : SampsAt w w.heap.size A L) (hnm : ∀ p ∈ L, p.2.name.size ≤ 9223372036854775807) :
  Calls Tryz.prog 30 #[.slice A L.length cap] w (MadeB w) :=
 (made29_any L A cap w hs hnm).mono fun _ _ ⟨_, h⟩ => madeB_of h
/-! What is kept. -/
theorem others_all {but : ByteArray} {Z : List RawV} (h : ∀ r ∈ Z, (r.m.name.toList == but.toList) = false) : others but Z = Z.length := by
 unfold others
 rw [List.countP_eq_length]
 intro r hr
 rw [h r hr]
 rfl
theorem others_app (but : ByteArray) (X Y : List RawV) : others but (X ++ Y) = others but X + others but Y := List.countP_append
theorem others_cons (but : ByteArray) (r : RawV) (Y : List RawV) : others but (r :: Y) = others but Y + if (r.m.name.toList == but.toList) = true then 0 else 1 := by
 unfold others
 rw [List.countP_cons]
 cases r.m.name.toList == but.toList <;> rfl
theorem name_ne {a b : ByteArray} (h : nameLt a b = true ∨ nameLt b a = true) : (a.toList == b.toList) = false := by
 cases hb : a.toList == b.toList with
 | false => rfl
 | true =>
  have := toList_inj (eq_of_beq hb)
  subst this
  rw [nameLt_irr] at h
  rcases h with h | h <;> cases h
theorem others_at {Z : List RawV} (h : AscZ Z) {i : Nat} {r : RawV} (hr : Z[i]? = some r) : others r.m.name Z = (Z.eraseIdx i).length := by
 have hi := (List.getElem?_eq_some_iff.1 hr).1
 have hz : Z = Z.take i ++ r :: Z.drop (i + 1) := by
  have h1 := (List.take_append_drop i Z).symm
  rw [List.drop_eq_getElem_cons hi] at h1
  have h2 : Z[i] = r := (List.getElem?_eq_some_iff.1 hr).2
  rw [h2] at h1
  exact h1
 have h1 : others r.m.name (Z.take i) = i := by
  rw [others_all, List.length_take, Nat.min_eq_left (by omega)]
  intro s hs
  obtain ⟨j, hj⟩ := List.getElem?_of_mem hs
  rw [List.getElem?_take] at hj
  split at hj
  ·rename_i hji
   exact name_ne (.inl (asc_next h hji hj hr))
  ·cases hj
 have h2 : others r.m.name (Z.drop (i + 1)) = Z.length - (i + 1) := by
  rw [others_all, List.length_drop]
  intro s hs
  obtain ⟨j, hj⟩ := List.getElem?_of_mem hs
  rw [List.getElem?_drop] at hj
  exact name_ne (.inr (asc_next h (by omega) hr hj))
 rw [List.length_eraseIdx, if_pos hi]
 have h3 : others r.m.name Z = others r.m.name (Z.take i ++ r :: Z.drop (i + 1)) := congrArg _ hz
 rw [h3, others_app, others_cons, h1, h2, if_pos (beq_self_eq_true _)]
 omega
theorem stays {size : Nat} {Y : List RawV} (hY : RawsOk size Y) {r : RawV} (hr : r ∈ Y) : ∃ (k : Nat) (s : RawV), (allZ size (dOf Y) (fOf Y) (dOf Y).length)[k]? = some s ∧ plainM s.m = plainM r.m ∧ s.fs = r.fs := by
 obtain ⟨k, hk⟩ := List.getElem?_of_mem hr
 exact ⟨k, _, hY.get hk, rfl, rfl⟩
theorem kept_of {w : World} {gb size : Nat} {Zb : List RawV} {bsb : List Nat} (hb : BankOf w gb size Zb bsb) {Y : List RawV} (hY : RawsOk size Y) (g : Nat) (hby : BytesAt w g (bldZ size (dOf Y) (fOf Y))) (but : ByteArray) (more : Nat)
  (hm : ∀ (r : RawV), r ∈ Zb → (r.m.name.toList == but.toList) = false → r ∈ Y) (hn : more + others but Zb = Y.length) :
  Calls Tryz.prog 35 #[.pointer (some ⟨gb, 0, none⟩), .slice (some ⟨g, 0, none⟩) (bldN size (dOf Y)) (bldN size (dOf Y)), .string but, .int .i64 more] w fun e w' => e = .returned (.bool true) ∧ Below w.heap.size w w' :=
 kept_any hb hY.can g hby but more (fun _ r hr hne => stays hY (hm r (List.mem_of_getElem? hr) hne)) (by rw [dOf_len]; exact hn)
theorem mem_erase {Z : List RawV} {i : Nat} {r s : RawV} (hs : Z[i]? = some s) (hr : r ∈ Z) (hne : (r.m.name.toList == s.m.name.toList) = false) : r ∈ Z.eraseIdx i := by
 obtain ⟨j, hj⟩ := List.getElem?_of_mem hr
 refine List.mem_eraseIdx_iff_getElem?.2 ⟨j, fun e => ?_, hj⟩
 subst e
 rw [hs] at hj
 injection hj with hj
 subst hj
 rw [beq_self_eq_true] at hne
 cases hne
end Go.Proofs.YtgcfkblmnpnogaaGreatDoor
