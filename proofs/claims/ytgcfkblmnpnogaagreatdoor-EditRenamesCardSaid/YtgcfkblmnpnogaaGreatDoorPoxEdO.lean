/- EdO. Conditions: as each theorem states. -/
import Derived.Lib.Overlaps
import Derived.Lib.AppendZerosOnto
import Derived.Laws.NewBlocks
import Derived.Test.YtgcfkblmnpnogaaGreatDoorPo46
import Derived.Test.YtgcfkblmnpnogaaGreatDoorPo15
namespace Go.Proofs.YtgcfkblmnpnogaaGreatDoor
open Go.RowKit Go.Lib
theorem run_copy_part {P : Program} (w : World) (dT sT ty elem : TypeId) (g o dLen dCap : Nat) (a : Addr) (sLen sCap size : Nat) (t : TypeId) (old cs : List Value)
  (hu : P.underlying dT = some (.slice elem)) (hs : (P.info? elem).map (·.size) = some size) (hn : cs.length = Nat.min sLen dLen * size) (hg : w.heap[g]? = some (.cells old.toArray t (0, 0)))
  (hsrc : ∀ j v, cs[j]? = some v → w.cell? (a.add j) = some v) (ho : o + cs.length ≤ old.length) (h1 : ∀ v ∈ cs, v.oneCell' = true) :
  (Builtin.copy_ #[dT, sT] ty #[.slice (some ⟨g, o, none⟩) dLen dCap, .slice (some a) sLen sCap]).run P w = .ok (goInt (Nat.min sLen dLen)) (w.setRow g (putAt old o cs).toArray) := by
 have hl := run_loadCells_list (P := P) w a cs hsrc
 have hst := run_storeCells_at P g o t cs 0 old.toArray w hg (by simpa using ho) h1
 rw [Nat.add_zero] at hst
 have hst2 : (storeCells ⟨g, o, none⟩ cs 0).run P w = .ok () (w.setRow g (putAt old o cs).toArray) := hst
 rw [hn] at hl
 cases hq : P.info? elem with
 | none => simp [hq] at hs
 | some i =>
  have hi : i.size = size := by simpa [hq] using hs
  simp [Builtin.copy_, run_underlying hu, Builtin.lenOf, Builtin.firstCells, sizeOf, typeInfo, hq, hi, hl, hst2]
theorem overlaps_raw (w : World) (vb g o la ca lb cb : Nat) (vcur cur : Array Value) (hne : vb ≠ g) (hv : w.heap[vb]? = some (.cells vcur 149 (0, 0))) (hg : w.heap[g]? = some (.cells cur 149 (0, 0))) (hk : cur.size ≠ 0) :
  (callFunc 127 #[.slice (some ⟨vb, 0, none⟩) la ca, .slice (some ⟨g, o, none⟩) lb cb]).run Tryz.prog w = .ok (.value (.bool false)) w := by
 rw [run_callFunc_extern Tryz.func127 (by kernel_rfl) (by kernel_rfl) (by kernel_rfl) (e := Extern.SlicesOverlaps.overlaps #[145, 145] #[4]) (by kernel_rfl),
  Lib.run_overlaps_apart w 145 4 149 Tryz.underlying145 10 (fun w => Tryz.sizeOf149 w) ⟨vb, 0, none⟩ ⟨g, o, none⟩ la ca lb cb hne 149 149 vcur.size cur.size (by simp [World.shape?, hv]) (by simp [World.shape?, hg]) hk (frozen_of_row w vb 0 vcur _ hv) (frozen_of_row w vb _ vcur _ hv)]
 rfl
theorem ins_eq {α : Type} (p : α) : ∀ (L : List α) (i : Nat), i ≤ L.length → L.insertIdx i p = L.take i ++ p :: L.drop i
 | L, 0, _ => by simp [List.insertIdx_zero]
 | [], i + 1, h => by simp at h
 | x :: r, i + 1, h => by
  rw [List.insertIdx_succ_cons, ins_eq p r i (by simpa using h)]
  rfl
theorem rawsC_ins (L : List (HRaw × RawV)) {i : Nat} (hi : i ≤ L.length) (p : HRaw × RawV) : rawsC (L.insertIdx i p) = rawsC (L.take i) ++ rawC p ++ rawsC (L.drop i) := by
 rw [ins_eq p L i hi, rawsC_app, List.append_assoc]
 rfl
def InsP (w : World) (base n : Nat) (ow : Option Nat) (M : List (HRaw × RawV)) (e : Ending) (w' : World) : Prop := ∃ A' c', e = .returned (.slice A' (n + 1) c') ∧ RawsAt w' base A' c' M ∧ Below base w w' ∧ w.grownBy w' ow ∧ ∀ k, (Value.slice A' (n + 1) c').ownBlock = some k → ow = some k ∨ w.heap.size ≤ k
set_option maxRecDepth 100000 in
set_option maxHeartbeats 16000000 in
theorem ins_end (L : List (HRaw × RawV)) (A : Option Addr) (c base : Nat) (w : World) (hL : L.length ≤ 1000) (hb : base ≤ w.heap.size) (h : RawsAt w base A c L) (p : HRaw × RawV) (hp : RawAt w p) (vb vcap : Nat) (hv : Row w w.heap.size (some ⟨vb, 0, none⟩) (rawC p)) :
  Calls Tryz.prog 93 #[.slice A L.length c, .int .i64 L.length, .slice (some ⟨vb, 0, none⟩) 1 vcap] w (InsP w base L.length (Value.slice A L.length c).ownBlock (L.insertIdx L.length p)) := by
 obtain ⟨i0, hi0, ⟨z0, hz0, hz0s⟩, hi1, hi2⟩ := raw_info
 have hown := h.own
 have HE := hid h.each
 have HP := hid hp
 have HV := hid hv
 have Hpl := hid (rawC_len p)
 have Hp1 := hid (rawC_one p)
 have Hin := hid (show L.insertIdx L.length p = L ++ [p] by rw [ins_eq p L _ (Nat.le_refl _), List.take_of_length_le (Nat.le_refl _), List.drop_eq_nil_of_le (Nat.le_refl _)])
 obtain ⟨n, hn⟩ : ∃ n, L.length = n := ⟨_, rfl⟩
 rw [hn] at hL hown Hin ⊢
 have Hn := hid hn
 have Hown := hid hown
 have Hb := hid hb
 have hfin : ∀ A' c' w', w'.ownsRow base 149 10 (.slice A' (n + 1) c') (n + 1) (rawsC L ++ rawC p) → w.grownBy w' (Value.slice A n c).ownBlock → ((Value.slice A' (n + 1) c').ownBlock = (Value.slice A n c).ownBlock ∨ (Value.slice A' (n + 1) c').ownBlock = some w.heap.size) → InsP w base n (Value.slice A n c).ownBlock (L.insertIdx n p) (.returned (.slice A' (n + 1) c')) w' := fun A' c' w' ho hg hat => by
  refine ⟨A', c', rfl, ⟨?_, fun q hq => ?_⟩, (Below.refl base w).grown hg Hb.out (fun k hk => own_block_ge Hown.out k hk), hg, fun k hk => by
   rcases hat with h | h
   ·exact .inl (h.symm.trans hk)
   ·rw [h] at hk
    injection hk with hk
    exact .inr (by omega)⟩
  ·rw [Hin.out, show (L ++ [p]).length = n + 1 by simp [Hn.out], rawsC_snoc]
   exact ho
  ·rw [Hin.out] at hq
   rcases List.mem_append.1 hq with hq | hq
   ·exact (HE.out q hq).far Hown.out (by decide) (by decide) hg
   ·rw [List.mem_singleton] at hq
    rw [hq]
    exact HP.out.far Hown.out (by decide) (by decide) hg
 have Hfin := hid hfin
 clear hfin h hp hv hn
 generalize rawC p = pc at *
 generalize hxs : rawsC L = xs at *
 clear hxs
 obtain ⟨A0, c0, hv0, hnc, hnone⟩ := own_form hown
 injection hv0 with e1 _ e3
 subst e1 e3
 have t1 : (n : Int) ≤ (c : Int) := by omega
 rcases hown.2 with ⟨hv0, h0⟩ | ⟨g, cap, cur, hv0, hbg, hg, _⟩
 ·injection hv0 with e1 _ e3
  subst e1 e3 h0
  clear hown
  go_enter Tryz.func93, Tryz.ntmps93
  go_wp2_with (at_builtin; refine wpList_app _ rfl (.tmp 23) (.tmp 24) 145 rfl base 149 i0 z0 10 104 Tryz.underlying145 hi0 hz0 hi1 hi2 hz0s (by omega) (.slice none 0 0) 0 xs rfl Hown.out w.heap.size (some ⟨vb, 0, none⟩) 1 vcap pc rfl (by rw [Hpl.out]) HV.out Hp1.out (by omega) (by omega) hb ?_; intro A9 c9 w9 hown9 hgr9 hat9 hcc9)
  go_ret
  exact Hfin.out A9 c9 w9 hown9 hgr9 hat9
 ·injection hv0 with e1 _ e3
  subst e1 e3
  clear hown hg
  go_enter Tryz.func93, Tryz.ntmps93
  go_wp2_with (at_builtin; refine wpList_app _ rfl (.tmp 23) (.tmp 24) 145 rfl base 149 i0 z0 10 104 Tryz.underlying145 hi0 hz0 hi1 hi2 hz0s (by omega) (.slice (some ⟨g, 0, none⟩) n c) n xs rfl Hown.out w.heap.size (some ⟨vb, 0, none⟩) 1 vcap pc rfl (by rw [Hpl.out]) HV.out Hp1.out (by omega) (by omega) hb ?_; intro A9 c9 w9 hown9 hgr9 hat9 hcc9)
  all_goals
   go_ret
   exact Hfin.out A9 c9 w9 hown9 hgr9 hat9
set_option maxRecDepth 100000 in
set_option maxHeartbeats 16000000 in
theorem ins_room (L : List (HRaw × RawV)) (g c i base : Nat) (w : World) (hi : i < L.length) (hc : L.length + 1 ≤ c) (hL : L.length ≤ 1000) (hb : base ≤ w.heap.size) (h : RawsAt w base (some ⟨g, 0, none⟩) c L) (p : HRaw × RawV) (hp : RawAt w p) (vb vcap : Nat) (vcur : Array Value)
  (hv : w.heap[vb]? = some (.cells vcur 149 (0, 0))) (hvc : vcur.toList.take 10 = rawC p) (hne : vb ≠ g) :
  Calls Tryz.prog 93 #[.slice (some ⟨g, 0, none⟩) L.length c, .int .i64 i, .slice (some ⟨vb, 0, none⟩) 1 vcap] w (InsP w base L.length (some g) (L.insertIdx i p)) := by
 have hown := h.own
 have HE := hid h.each
 have HP := hid hp
 have hpl := rawC_len p
 have Hp1 := hid (rawC_one p)
 have hrl := rawsC_ins L (Nat.le_of_lt hi) p
 have hdl : (rawsC (L.drop i)).length = (L.length - i) * 10 := by rw [rawsC_len, List.length_drop]
 have htl : (rawsC (L.take i)).length = i * 10 := by rw [rawsC_len, List.length_take, Nat.min_eq_left (by omega)]
 have HD1 := hid (rawsC_one (L.drop i))
 have hil : (L.insertIdx i p).length = L.length + 1 := by rw [List.length_insertIdx, if_pos (by omega)]
 have hrow := Row.of_own hown
 have hmem := fun q (hq : q ∈ L.insertIdx i p) => (show q ∈ L ∨ q = p from by
  rw [ins_eq p L i (Nat.le_of_lt hi)] at hq
  rcases List.mem_append.1 hq with hq | hq
  ·exact .inl (List.mem_of_mem_take hq)
  ·rcases List.mem_cons.1 hq with hq | hq
   ·exact .inr hq
   ·exact .inl (List.mem_of_mem_drop hq))
 rcases hown.2 with ⟨hv0, _⟩ | ⟨g', cap', cur, hv0, hbg, hg, hnc, hcm, hcs, htk⟩
 ·cases hv0
 injection hv0 with e1 _ e3
 injection e1 with e1
 injection e1 with e1
 subst e1 e3
 obtain ⟨n, hn⟩ : ∃ n, L.length = n := ⟨_, rfl⟩
 rw [hn] at hi hc hL hown hdl hil hnc htk ⊢
 have hD : (rawsC L).drop (i * 10) = rawsC (L.drop i) := rawsC_drop L i
 have hT : cur.toList.take (i * 10) = rawsC (L.take i) := by
  have h1 := congrArg (List.take (i * 10)) htk
  rw [List.take_take, Nat.min_eq_left (by omega), rawsC_take] at h1
  exact h1
 have hcl : cur.toList.length = c * 10 := by rw [Array.length_toList]; exact hcs
 obtain ⟨o1, ho1⟩ : ∃ o1, putAt cur.toList ((i + 1) * 10) (rawsC (L.drop i)) = o1 := ⟨_, rfl⟩
 have hf1 : (i + 1) * 10 + (rawsC (L.drop i)).length ≤ cur.toList.length := by rw [hdl, hcl]; omega
 have ho1l : o1.length = c * 10 := by rw [← ho1, putAt_len hf1, hcl]
 have hgy : ∀ y : GW w, y.1.heap[g]? = some (.cells cur 149 (0, 0)) := fun y => (y.2.block g (hlt hg)).trans hg
 have hg1 : ∀ y : GW w, (y.1.setRow g o1.toArray).heap[g]? = some (.cells o1.toArray 149 (0, 0)) := fun y => setRow_at y.1 g _ cur _ (hgy y)
 have hgr1 : ∀ y : GW w, w.grownBy (y.1.setRow g o1.toArray) (some g) := fun y => grown_row2 (grownBy_below (World.grownBy.refl w (some g)) y.2) _
 have hcp1 : ∀ (y : GW w) ty, (Builtin.copy_ #[145, 145] ty #[.slice (some ⟨g, (i + 1) * 10, none⟩) (n + 1 - (i + 1)) (c - (i + 1)), .slice (some ⟨g, i * 10, none⟩) (n + 1 - i) (c - i)]).run Tryz.prog y.1 = .ok (goInt (Nat.min (n + 1 - i) (n + 1 - (i + 1)))) (y.1.setRow g o1.toArray) := fun y ty => by
  rw [← ho1]
  refine run_copy_part (P := Tryz.prog) y.1 _ _ ty 149 g ((i + 1) * 10) _ _ ⟨g, i * 10, none⟩ _ _ 10 149 cur.toList (rawsC (L.drop i)) Tryz.underlying145 inf_raw ?_ ?_ ?_ hf1 HD1.out
  ·rw [hdl]
   have : Nat.min (n + 1 - i) (n + 1 - (i + 1)) = n - i := by simp only [Nat.min_def]; split <;> omega
   rw [this]
  ·rw [Array.toArray_toList]; exact hgy y
  ·intro j v hj
   rw [y.2.cell (p := (⟨g, i * 10, none⟩ : Addr).add j) (by unfold Addr.add; split <;> exact hlt hg)]
   rw [← hD, List.getElem?_drop] at hj
   obtain ⟨b', o', hA', _, hcl'⟩ := hrow (i * 10 + j) v hj
   injection hA' with hA'
   injection hA' with e1 e2
   subst e1 e2
   rw [Nat.zero_add] at hcl'
   unfold Addr.add
   split
   ·rename_i hj0
    have hj0 : j = 0 := by simpa using hj0
    subst hj0
    exact hcl'
   ·exact hcl'
 obtain ⟨o2, ho2⟩ : ∃ o2, putAt o1 (i * 10) (rawC p) = o2 := ⟨_, rfl⟩
 have hf2 : i * 10 + (rawC p).length ≤ o1.length := by rw [hpl, ho1l]; omega
 have ho2l : o2.length = c * 10 := by rw [← ho2, putAt_len hf2, ho1l]
 have hv1 : ∀ y : GW w, (y.1.setRow g o1.toArray).heap[vb]? = some (.cells vcur 149 (0, 0)) := fun y => ((hgr1 y).block vb (hlt hv) (fun e => hne (Option.some.inj e))).trans hv
 have hcp2 : ∀ (y : GW w) ty, (Builtin.copy_ #[145, 145] ty #[.slice (some ⟨g, i * 10, none⟩) (n + 1 - i) (c - i), .slice (some ⟨vb, 0, none⟩) 1 vcap]).run Tryz.prog (y.1.setRow g o1.toArray) = .ok (goInt (Nat.min 1 (n + 1 - i))) ((y.1.setRow g o1.toArray).setRow g o2.toArray) := fun y ty => by
  rw [← ho2]
  refine run_copy_part (P := Tryz.prog) (y.1.setRow g o1.toArray) _ _ ty 149 g (i * 10) _ _ ⟨vb, 0, none⟩ _ _ 10 149 o1 (rawC p) Tryz.underlying145 inf_raw ?_ ?_ ?_ hf2 Hp1.out
  ·rw [hpl]
   have : Nat.min 1 (n + 1 - i) = 1 := by simp only [Nat.min_def]; split <;> omega
   rw [this]
  ·exact hg1 y
  ·intro j v hj
   have hvz := hv1 y
   have hb2 : Blk (y.1.setRow g o1.toArray) vb 149 vcur.toList := by unfold Blk; simpa using hvz
   have h2 := blk_cells hb2 j
   have hj10 : j < 10 := by have := (List.getElem?_eq_some_iff.1 hj).1; omega
   rw [← hvc, List.getElem?_take, if_pos hj10] at hj
   rw [hj] at h2
   unfold Addr.add
   split
   ·rename_i hj0
    have hj0 : j = 0 := by simpa using hj0
    subst hj0
    exact h2
   ·simpa using h2
 have hfin : o2.take ((n + 1) * 10) = rawsC (L.insertIdx i p) := by
  have e1 : o2 = (rawsC (L.take i) ++ rawC p ++ rawsC (L.drop i)) ++ cur.toList.drop ((i + 1) * 10 + (rawsC (L.drop i)).length) := by
   have hk : (cur.toList.take ((i + 1) * 10)).length = (i + 1) * 10 := by rw [List.length_take, hcl]; omega
   rw [← ho2, ← ho1]
   unfold putAt
   rw [List.append_assoc (cur.toList.take _), List.take_append_of_le_length (by omega), List.take_take, Nat.min_eq_left (by omega), hT, hpl, show i * 10 + 10 = (i + 1) * 10 by omega, List.drop_left' hk]
   simp only [List.append_assoc]
  rw [hrl, e1, List.take_append_of_le_length, List.take_of_length_le]
  ·rw [List.length_append, List.length_append, htl, hpl, hdl]; omega
  ·rw [List.length_append, List.length_append, htl, hpl, hdl]; omega
 have HFin := hid (show ∀ y : GW w, InsP w base n (some g) (L.insertIdx i p) (.returned (.slice (some ⟨g, 0, none⟩) (n + 1) c)) ((y.1.setRow g o1.toArray).setRow g o2.toArray) from fun y => by
  have hgr2 : w.grownBy ((y.1.setRow g o1.toArray).setRow g o2.toArray) (some g) := grown_row2 (hgr1 y) _
  refine ⟨some ⟨g, 0, none⟩, c, rfl, ⟨?_, fun q hq => ?_⟩, (Below.refl base w).grown hgr2 hb (fun k hk => by injection hk with hk; omega), hgr2, fun k hk => .inl hk⟩
  ·rw [hil]
   refine ⟨by rw [rawsC_len, hil], .inr ⟨g, c, o2.toArray, rfl, hbg, setRow_at (y.1.setRow g o1.toArray) g _ o1.toArray _ (hg1 y), hc, hcm, by rw [List.size_toArray, ho2l], by rw [List.toList_toArray]; exact hfin⟩⟩
  ·have hq2 : RawAt w q := by
    rcases hmem q hq with hq | hq
    ·exact HE.out q hq
    ·rw [hq]; exact HP.out
   exact hq2.far hown (by decide) (by decide) hgr2)
 have Hov := hid (fun lb cb o => overlaps_raw w vb g o 1 vcap lb cb vcur cur hne hv hg (by rw [hcs]; omega))
 have Hcp1 := hid hcp1
 have Hcp2 := hid hcp2
 have t0 : ((i : Int) == (n : Int)) = false := beq_eq_false_iff_ne.2 (by omega)
 have t1 : ¬ ((c : Int) < (n : Int) + 1) := by omega
 have t2 : (i : Int) ≤ (n : Int) := by omega
 have t3 : (n : Int) ≤ (c : Int) := by omega
 have t4 : (n : Int) + 1 ≤ (c : Int) := by omega
 have t5 : (i : Int) + 1 ≤ (n : Int) + 1 := by omega
 have hcb : c ≤ 9223372036854775807 := hcm
 clear hown h hp hrl hdl htl hil hrow hmem hbg hcs htk hn hD hT hcl ho1 hf1 ho1l hgy hg1 hgr1 hcp1 ho2 hf2 ho2l hv1 hcp2 hfin hv hvc hg HE HP Hp1 HD1 hpl hb
 go_enter Tryz.func93, Tryz.ntmps93
 go_wp2_with (simp only [Hov.out])
 refine wp_region_calm_tail 8 (by kernel_rfl) (by kernel_rfl) ?_
 simp only [List.take_succ_cons, List.take_zero, List.drop_succ_cons, List.drop_zero]
 repeat (go_big_quiet_step (fail))
 refine wpQuiet_nil ?_
 intro w5 hw'
 have B5 := hid (gw_below hw')
 obtain ⟨w6, hw6⟩ : ∃ w6, w5.setRow g o1.toArray = w6 := ⟨_, rfl⟩
 obtain ⟨w7, hw7⟩ : ∃ w7, w6.setRow g o2.toArray = w7 := ⟨_, rfl⟩
 have C1 := hid (show ∀ ty, (Builtin.copy_ #[145, 145] ty #[.slice (some ⟨g, (i + 1) * 10, none⟩) (n - i) (c - (i + 1)), .slice (some ⟨g, i * 10, none⟩) (n + 1 - i) (c - i)]).run Tryz.prog w5 = .ok (goInt (Nat.min (n + 1 - i) (n - i))) w6 from fun ty => by
  have h := Hcp1.out ⟨w5, B5.out⟩ ty
  rw [Nat.add_sub_add_right] at h
  rw [← hw6]
  exact h)
 have C2 := hid (show ∀ ty, (Builtin.copy_ #[145, 145] ty #[.slice (some ⟨g, i * 10, none⟩) (n + 1 - i) (c - i), .slice (some ⟨vb, 0, none⟩) 1 vcap]).run Tryz.prog w6 = .ok (goInt (Nat.min 1 (n + 1 - i))) w7 from fun ty => by
  rw [← hw7, ← hw6]
  exact Hcp2.out ⟨w5, B5.out⟩ ty)
 have HFn := hid (show InsP w base n (some g) (L.insertIdx i p) (.returned (.slice (some ⟨g, 0, none⟩) (n + 1) c)) w7 from by
  rw [← hw7, ← hw6]
  exact HFin.out ⟨w5, B5.out⟩)
 clear hw' hw6 hw7
 have c1 := C1.out 3
 have c2 := C2.out 3
 go_wp2_with fail
 go_ret
 exact HFn.out
theorem zeros_size (z : Value) (hz : z.cells.size = 10) (k : Nat) : (Builtin.zeroCells z.cells k).size = k * 10 := by
 simp [Builtin.zeroCells, hz]
set_option maxRecDepth 100000 in
set_option maxHeartbeats 16000000 in
theorem ins_grow (L : List (HRaw × RawV)) (g i base : Nat) (w : World) (hi : i < L.length) (hL : L.length ≤ 1000) (hb : base ≤ w.heap.size) (h : RawsAt w base (some ⟨g, 0, none⟩) L.length L) (p : HRaw × RawV) (hp : RawAt w p) (vb vcap : Nat) (vcur : Array Value)
  (hv : w.heap[vb]? = some (.cells vcur 149 (0, 0))) (hvc : vcur.toList.take 10 = rawC p) :
  Calls Tryz.prog 93 #[.slice (some ⟨g, 0, none⟩) L.length L.length, .int .i64 i, .slice (some ⟨vb, 0, none⟩) 1 vcap] w (InsP w base L.length (some g) (L.insertIdx i p)) := by
 obtain ⟨i0, hi0, ⟨z0, hz0, hz0s⟩, hi1, hi2⟩ := raw_info
 have hown := h.own
 have HE := hid h.each
 have HP := hid hp
 have hpl := rawC_len p
 have Hp1 := hid (rawC_one p)
 have hrl := rawsC_ins L (Nat.le_of_lt hi) p
 have hdl : (rawsC (L.drop i)).length = (L.length - i) * 10 := by rw [rawsC_len, List.length_drop]
 have htl : (rawsC (L.take i)).length = i * 10 := by rw [rawsC_len, List.length_take, Nat.min_eq_left (by omega)]
 have HD1 := hid (rawsC_one (L.drop i))
 have hil : (L.insertIdx i p).length = L.length + 1 := by rw [List.length_insertIdx, if_pos (by omega)]
 have hrow := Row.of_own hown
 have hmem := fun q (hq : q ∈ L.insertIdx i p) => (show q ∈ L ∨ q = p from by
  rw [ins_eq p L i (Nat.le_of_lt hi)] at hq
  rcases List.mem_append.1 hq with hq | hq
  ·exact .inl (List.mem_of_mem_take hq)
  ·rcases List.mem_cons.1 hq with hq | hq
   ·exact .inr hq
   ·exact .inl (List.mem_of_mem_drop hq))
 obtain ⟨n, hn⟩ : ∃ n, L.length = n := ⟨_, rfl⟩
 rw [hn] at hi hL hown hdl hil ⊢
 have hD : (rawsC L).drop (i * 10) = rawsC (L.drop i) := rawsC_drop L i
 have hT : (rawsC L).take (i * 10) = rawsC (L.take i) := rawsC_take L i
 have hcell : ∀ (W : World), Below w.heap.size w W → ∀ (o j : Nat) v, (rawsC L)[o + j]? = some v → W.cell? ((⟨g, o, none⟩ : Addr).add j) = some v := fun W hW o j v hj => by
  obtain ⟨b', o', hA', hbl', hcl'⟩ := hrow (o + j) v hj
  injection hA' with hA'
  injection hA' with e1 e2
  subst e1 e2
  rw [Nat.zero_add] at hcl'
  have h2 := (hW.cell (p := ⟨g, o + j, none⟩) hbl').trans hcl'
  unfold Addr.add
  split
  ·rename_i hj0
   have hj0 : j = 0 := by simpa using hj0
   subst hj0
   exact h2
  ·exact h2
 have hwd : Below w.heap.size w w.drew := (Below.refl w.heap.size w).drew
 have hold : (Builtin.firstCells i0.size i (.slice (some ⟨g, 0, none⟩) i n)).run Tryz.prog w.drew = .ok (rawsC (L.take i)).toArray w.drew := by
  rw [hi1]
  refine run_firstCells_some w.drew 10 i ⟨g, 0, none⟩ i n (rawsC (L.take i)) htl (fun j v hj => ?_)
  refine hcell w.drew hwd 0 j v ?_
  rw [← hT, List.getElem?_take] at hj
  split at hj
  ·rw [Nat.zero_add]; exact hj
  ·cases hj
 have hkk : (n : Int) + 1 - (i : Int) = ((n + 1 - i : Nat) : Int) := by omega
 have hik : i + (n + 1 - i) = n + 1 := by omega
 obtain ⟨K, hK⟩ : ∃ K, grownCap w (n + 1) n 149 = K := ⟨_, rfl⟩
 have hKn : n + 1 ≤ K := by rw [← hK]; exact grownCap_ge w _ _ _
 have hK63 : K ≤ maxLen := by rw [← hK]; exact grownCap_le_maxLen w (n + 1) n 149 (by unfold maxLen; omega)
 obtain ⟨ROW, hROW⟩ : ∃ ROW : Array Value, (rawsC (L.take i)).toArray ++ Builtin.zeroCells z0.cells (n + 1 - i) ++ Builtin.zeroCells z0.cells (K - (n + 1)) = ROW := ⟨_, rfl⟩
 have hRs : ROW.toList.length = K * 10 := by
  rw [← hROW, Array.length_toList, Array.size_append, Array.size_append, zeros_size z0 hz0s, zeros_size z0 hz0s, List.size_toArray, htl]
  omega
 have hRt : ROW.toList.take (i * 10) = rawsC (L.take i) := by
  rw [← hROW, Array.toList_append, Array.toList_append, List.append_assoc, List.take_append_of_le_length (by rw [List.toList_toArray, htl]; exact Nat.le_refl _), List.toList_toArray, List.take_of_length_le (by rw [htl]; exact Nat.le_refl _)]
 have hrz : ∀ ty, (Builtin.append_ #[145, 3] ty #[.slice (some ⟨g, 0, none⟩) i n, .int .i64 ((n : Int) + 1 - (i : Int))]).run Tryz.prog w = .ok (.slice (some ⟨w.heap.size, 0, none⟩) (n + 1) K) (w.drew.alloc (.cells ROW 149)) := fun ty => by
  have h := Lib.run_append_grow_zeros (P := Tryz.prog) w 145 3 ty 149 i0 z0 .i64 .i64 Tryz.underlying145 Tryz.underlying3 hi0 hz0 (some ⟨g, 0, none⟩) i n (rawsC (L.take i)) hold (n + 1 - i) (by omega) (by omega) (by omega) (by omega) (by rw [hi2]; omega) (by rw [hi2, hik]; exact growslice_fits (by omega) (by omega))
  rw [hik, hK, hROW] at h
  rw [hkk]
  exact h
 have hgw : g < w.heap.size := by
  rcases hown.2 with ⟨hv0, _⟩ | ⟨g', _, _, hv0, _, hg', _⟩
  ·cases hv0
  ·injection hv0 with e1
   injection e1 with e1
   injection e1 with e1
   rw [e1]
   exact hlt hg'
 obtain ⟨w1, hw1⟩ : ∃ w1, w.drew.alloc (.cells ROW 149) = w1 := ⟨_, rfl⟩
 have hb1 : Below w.heap.size w w1 := by rw [← hw1]; exact bnext hwd (bnew w.drew _)
 have hg1 : w1.heap[w.heap.size]? = some (.cells ROW 149 (0, 0)) := by rw [← hw1]; exact heap_alloc_new w.drew _
 obtain ⟨o1, ho1⟩ : ∃ o1, putAt ROW.toList (i * 10) (rawC p) = o1 := ⟨_, rfl⟩
 have hf1 : i * 10 + (rawC p).length ≤ ROW.toList.length := by rw [hpl, hRs]; omega
 have ho1l : o1.length = K * 10 := by rw [← ho1, putAt_len hf1, hRs]
 have hcp1 : ∀ ty, (Builtin.copy_ #[145, 145] ty #[.slice (some ⟨w.heap.size, i * 10, none⟩) (n + 1 - i) (K - i), .slice (some ⟨vb, 0, none⟩) 1 vcap]).run Tryz.prog w1 = .ok (goInt (Nat.min 1 (n + 1 - i))) (w1.setRow w.heap.size o1.toArray) := fun ty => by
  rw [← ho1]
  refine run_copy_part (P := Tryz.prog) w1 _ _ ty 149 w.heap.size (i * 10) _ _ ⟨vb, 0, none⟩ _ _ 10 149 ROW.toList (rawC p) Tryz.underlying145 inf_raw ?_ ?_ ?_ hf1 Hp1.out
  ·rw [hpl]
   have : Nat.min 1 (n + 1 - i) = 1 := by simp only [Nat.min_def]; split <;> omega
   rw [this]
  ·rw [Array.toArray_toList]; exact hg1
  ·intro j v hj
   have hvz : w1.heap[vb]? = some (.cells vcur 149 (0, 0)) := (hb1.block vb (hlt hv)).trans hv
   have hb2 : Blk w1 vb 149 vcur.toList := by unfold Blk; simpa using hvz
   have h2 := blk_cells hb2 j
   have hj10 : j < 10 := by have := (List.getElem?_eq_some_iff.1 hj).1; omega
   rw [← hvc, List.getElem?_take, if_pos hj10] at hj
   rw [hj] at h2
   unfold Addr.add
   split
   ·rename_i hj0
    have hj0 : j = 0 := by simpa using hj0
    subst hj0
    exact h2
   ·simpa using h2
 obtain ⟨w2, hw2⟩ : ∃ w2, w1.setRow w.heap.size o1.toArray = w2 := ⟨_, rfl⟩
 rw [hw2] at hcp1
 have hb2 : Below w.heap.size w w2 := by rw [← hw2]; exact setRow_below hb1 _ (Nat.le_refl _) _
 have hg2 : w2.heap[w.heap.size]? = some (.cells o1.toArray 149 (0, 0)) := by rw [← hw2]; exact setRow_at w1 _ _ ROW _ hg1
 obtain ⟨o2, ho2⟩ : ∃ o2, putAt o1 ((i + 1) * 10) (rawsC (L.drop i)) = o2 := ⟨_, rfl⟩
 have hf2 : (i + 1) * 10 + (rawsC (L.drop i)).length ≤ o1.length := by rw [hdl, ho1l]; omega
 have ho2l : o2.length = K * 10 := by rw [← ho2, putAt_len hf2, ho1l]
 have hcp2 : ∀ (y : GW w2) ty, (Builtin.copy_ #[145, 145] ty #[.slice (some ⟨w.heap.size, (i + 1) * 10, none⟩) (n - i) (K - (i + 1)), .slice (some ⟨g, i * 10, none⟩) (n - i) (n - i)]).run Tryz.prog y.1 = .ok (goInt (Nat.min (n - i) (n - i))) (y.1.setRow w.heap.size o2.toArray) := fun y ty => by
  rw [← ho2]
  refine run_copy_part (P := Tryz.prog) y.1 _ _ ty 149 w.heap.size ((i + 1) * 10) _ _ ⟨g, i * 10, none⟩ _ _ 10 149 o1 (rawsC (L.drop i)) Tryz.underlying145 inf_raw ?_ ?_ ?_ hf2 HD1.out
  ·rw [hdl]
   have : Nat.min (n - i) (n - i) = n - i := by simp only [Nat.min_def]; split <;> omega
   rw [this]
  ·exact (y.2.block _ (hlt hg2)).trans hg2
  ·intro j v hj
   rw [← hD, List.getElem?_drop] at hj
   exact hcell y.1 (bnext hb2 y.2) (i * 10) j v hj
 have hfin : o2.take ((n + 1) * 10) = rawsC (L.insertIdx i p) := by
  have e1 : o2 = (rawsC (L.take i) ++ rawC p ++ rawsC (L.drop i)) ++ o1.drop ((i + 1) * 10 + (rawsC (L.drop i)).length) := by
   have hk : (rawsC (L.take i) ++ rawC p).length = (i + 1) * 10 := by rw [List.length_append, htl, hpl]; omega
   rw [← ho2]
   unfold putAt
   congr 2
   rw [← ho1]
   unfold putAt
   rw [hRt, List.take_append_of_le_length (by omega), List.take_of_length_le (by omega)]
  rw [hrl, e1, List.take_append_of_le_length, List.take_of_length_le]
  ·rw [List.length_append, List.length_append, htl, hpl, hdl]; omega
  ·rw [List.length_append, List.length_append, htl, hpl, hdl]; omega
 have HFin := hid (show ∀ y : GW w2, InsP w base n (some g) (L.insertIdx i p) (.returned (.slice (some ⟨w.heap.size, 0, none⟩) (n + 1) K)) (y.1.setRow w.heap.size o2.toArray) from fun y => by
  have hb3 : Below w.heap.size w (y.1.setRow w.heap.size o2.toArray) := setRow_below (bnext hb2 y.2) _ (Nat.le_refl _) _
  have hgy : y.1.heap[w.heap.size]? = some (.cells o1.toArray 149 (0, 0)) := (y.2.block _ (hlt hg2)).trans hg2
  refine ⟨some ⟨w.heap.size, 0, none⟩, K, rfl, ⟨?_, fun q hq => ?_⟩, hb3.mono hb, grownBy_below (World.grownBy.refl w (some g)) hb3, fun k hk => .inr (Nat.le_of_eq (Option.some.inj (show some w.heap.size = some k from hk)))⟩
  ·rw [hil]
   refine ⟨by rw [rawsC_len, hil], .inr ⟨w.heap.size, K, o2.toArray, rfl, hb, setRow_at y.1 _ _ o1.toArray _ hgy, hKn, hK63, by rw [List.size_toArray, ho2l], by rw [List.toList_toArray]; exact hfin⟩⟩
  ·rcases hmem q hq with hq | hq
   ·exact (HE.out q hq).below hb3
   ·rw [hq]; exact HP.out.below hb3)
 have t0 : ((i : Int) == (n : Int)) = false := beq_eq_false_iff_ne.2 (by omega)
 have t1 : (n : Int) < (n : Int) + 1 := by omega
 have t2 : (i : Int) ≤ (n : Int) := by omega
 have t6 : (i : Int) + 1 ≤ (n : Int) + 1 := by omega
 have hKb : K ≤ 9223372036854775807 := hK63
 have hKi : ¬ (K = i) := by omega
 have hKi1 : ¬ (K = i + 1) := by omega
 have hni : ¬ (n = i) := by omega
 have Hrz := hid hrz
 rw [hw1] at Hrz
 have Hcp1 := hid hcp1
 have Hcp2 := hid hcp2
 clear hown h hp hrl hdl htl hil hrow hmem hn hD hT hcell hwd hold hkk hik hK hKn hK63 hROW hRs hRt hrz hgw hw1 hb1 hg1 ho1 hf1 ho1l hcp1 hw2 hb2 hg2 ho2 hf2 ho2l hcp2 hfin hv hvc HE HP Hp1 HD1 hpl hb
 have c1 := Hcp1.out 3
 go_enter Tryz.func93, Tryz.ntmps93
 go_wp2_with (at_builtin; refine wpList_append_eq rfl (.tmp 34) (.tmp 39) 145 3 rfl _ _ _ rfl rfl (Hrz.out _) ?_)
 refine wp_region_calm_tail 8 (by kernel_rfl) (by kernel_rfl) ?_
 simp only [List.take_succ_cons, List.take_zero, List.drop_succ_cons, List.drop_zero]
 repeat (go_big_quiet_step (fail))
 refine wpQuiet_nil ?_
 intro w5 hw'
 have B5 := hid (gw_below hw')
 obtain ⟨w6, hw6⟩ : ∃ w6, w5.setRow w.heap.size o2.toArray = w6 := ⟨_, rfl⟩
 have c2 : (Builtin.copy_ #[145, 145] 3 #[.slice (some ⟨w.heap.size, (i + 1) * 10, none⟩) (n - i) (K - (i + 1)), .slice (some ⟨g, i * 10, none⟩) (n - i) (n - i)]).run Tryz.prog w5 = .ok (goInt (Nat.min (n - i) (n - i))) w6 := by
  rw [← hw6]
  exact Hcp2.out ⟨w5, B5.out⟩ _
 have HFn := hid (show InsP w base n (some g) (L.insertIdx i p) (.returned (.slice (some ⟨w.heap.size, 0, none⟩) (n + 1) K)) w6 from by
  rw [← hw6]
  exact HFin.out ⟨w5, B5.out⟩)
 clear hw' hw6 c1
 go_wp2_with fail
 go_ret
 exact HFn.out
theorem ins_any (L : List (HRaw × RawV)) (A : Option Addr) (c i base : Nat) (w : World) (hi : i ≤ L.length) (hL : L.length ≤ 1000) (hb : base ≤ w.heap.size) (h : RawsAt w base A c L) (p : HRaw × RawV) (hp : RawAt w p) (vb vcap : Nat) (vcur : Array Value)
  (hv : w.heap[vb]? = some (.cells vcur 149 (0, 0))) (hvc : vcur.toList.take 10 = rawC p) (hne : ∀ k, (Value.slice A L.length c).ownBlock = some k → k ≠ vb) :
  Calls Tryz.prog 93 #[.slice A L.length c, .int .i64 i, .slice (some ⟨vb, 0, none⟩) 1 vcap] w (InsP w base L.length (Value.slice A L.length c).ownBlock (L.insertIdx i p)) := by
 by_cases hin : i = L.length
 ·subst hin
  refine ins_end L A c base w hL hb h p hp vb vcap (fun j v hj => ⟨vb, 0, rfl, hlt hv, ?_⟩)
  have hj10 : j < 10 := by have := (List.getElem?_eq_some_iff.1 hj).1; rw [rawC_len] at this; exact this
  have hb2 : Blk w vb 149 vcur.toList := by unfold Blk; simpa using hv
  rw [← hvc, List.getElem?_take, if_pos hj10] at hj
  rw [Nat.zero_add]
  exact (blk_cells hb2 j).trans hj
 ·obtain ⟨A0, c0, hv0, hnc, _⟩ := own_form h.own
  injection hv0 with e1 _ e3
  subst e1 e3
  rcases h.own.2 with ⟨hv0, h0⟩ | ⟨g, cap, cur, hv0, _⟩
  ·omega
  ·injection hv0 with e1 _ e3
   subst e1 e3
   by_cases hc : L.length + 1 ≤ c
   ·exact ins_room L g c i base w (by omega) hc hL hb h p hp vb vcap vcur hv hvc (fun e => hne g rfl e.symm)
   ·have hc2 : c = L.length := by omega
    subst hc2
    exact ins_grow L g i base w (by omega) hL hb h p hp vb vcap vcur hv hvc
end Go.Proofs.YtgcfkblmnpnogaaGreatDoor
