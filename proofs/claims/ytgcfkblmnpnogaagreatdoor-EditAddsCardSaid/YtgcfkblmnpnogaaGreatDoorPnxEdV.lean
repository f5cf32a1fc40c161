/- EdV. Conditions: as each theorem states. -/
import Derived.Test.YtgcfkblmnpnogaaGreatDoorPnxEdU
namespace Go.Proofs.YtgcfkblmnpnogaaGreatDoor
open Go.RowKit Go.Lib
set_option maxRecDepth 100000 in
set_option maxHeartbeats 16000000 in
theorem Add29_any {size : Nat} {D : List MetaV} {FR : List (List Nat)} (hC : CanB size D FR) (hD63 : D.length ≤ 63) (hFR : FR.length + 20 ≤ 30000) (g : Nat) (nm : ByteArray) (rate : Int) (lp : Bool) (f t : Int) (a : Option Addr) (cap : Nat) (vs : List Value) (rows : List (List Int)) (w : World) (hB : BankAt w g (bldZ size D FR) size (bldDir size D))
  (hr : Row w w.heap.size a vs) (hm : RowsAt w w.heap.size vs rows) (hcap : rows.length ≤ cap) (h63 : cap ≤ 9223372036854775807) (hsm : (SampV.mk nm rate lp f t rows).small) :
  Calls Tryz.prog 60 #[.pointer (some ⟨g, 0, none⟩), .agg #[.string nm, .int .i64 rate, .bool lp, .int .i64 f, .int .i64 t, .slice a rows.length cap]] w (AddP w size (allZ size D FR D.length) ⟨nm, rate, lp, f, t, rows⟩) := by
 obtain ⟨i0, hi, hz0, hi1, hi2⟩ := info_parts inf_samp
 have HSz := hid (fun W (hW : Below w.heap.size w W) => BSize_any (hB.later hW) (by have := hC.lo; omega))
 have HAl := hid (fun W (hW : Below w.heap.size w W) => all_any hC g W (hB.later hW))
 have hlo := hC.lo
 have hhi := hC.hi
 have hzl := allZ_len size D FR D.length (Nat.le_refl _)
 have HRs := hid (hC.raws (by omega))
 have hfo := fOf_all_len hC
 have HAt := hid (fun L A c (nm : ByteArray) W (hL : List.length L ≤ 1000) hr => at_any L A c nm W hL hr)
 have HCk := hid (fun W (hW : Below w.heap.size w W) => Check_any nm rate lp f t a cap vs rows W (hr.later hW) (hm.later hW) (by omega))
 have HSa := hid (fun W gg (hW : Below w.heap.size w W) (hb : Blk W gg 92 [.string nm, .int .i64 rate, .bool lp, .int .i64 f, .int .i64 t, .slice a rows.length cap]) => (show SampsAt W W.heap.size (some ⟨gg, 0, none⟩) [(⟨nm, rate, lp, f, t, a, rows.length, cap⟩, ⟨nm, rate, lp, f, t, rows⟩)] from samps_one (h := ⟨nm, rate, lp, f, t, a, rows.length, cap⟩) (s := ⟨nm, rate, lp, f, t, rows⟩) hb ⟨⟨rfl, rfl, rfl, rfl, rfl, rfl⟩, hcap, h63⟩ (hr.later hW) (hm.later hW)))
 have Hsm := hid hsm
 have HAd := hid (show ∀ e w', ((SampV.mk nm rate lp f t rows).check ≠ 0 → e = .returned (.tuple #[.slice none 0 0, .int .i64 (SampV.mk nm rate lp f t rows).check]) ∧ Below w.heap.size w w') ∧
   ((SampV.mk nm rate lp f t rows).check = 0 → atB (allZ size D FR D.length) nm = true → e = .returned (.tuple #[.slice none 0 0, .int .i64 11]) ∧ Below w.heap.size w w') ∧
   (∀ r, oneL size ⟨nm, rate, lp, f, t, rows⟩ = [r] → (SampV.mk nm rate lp f t rows).check = 0 → atB (allZ size D FR D.length) nm = false → ImageP w size ((allZ size D FR D.length).insertIdx (atZ (allZ size D FR D.length) nm) r) e w') → AddP w size (allZ size D FR D.length) ⟨nm, rate, lp, f, t, rows⟩ e w' from fun e w' h => h)
 obtain ⟨S, hS⟩ : ∃ S : SampV, S = ⟨nm, rate, lp, f, t, rows⟩ := ⟨_, rfl⟩
 rw [← hS] at HAd HSa Hsm ⊢
 have HSn := hid (show S.name = nm by rw [hS])
 have HCk2 := hid (fun W (hW : Below w.heap.size w W) => (show Calls Tryz.prog 61 #[.agg #[.string nm, .int .i64 rate, .bool lp, .int .i64 f, .int .i64 t, .slice a rows.length cap]] W (fun e w' => e = .returned (.int .i64 S.check) ∧ Below W.heap.size W w') from by rw [hS]; exact HCk.out W hW))
 generalize rows.length = R at *
 generalize allZ size D FR D.length = Z at *
 generalize AddP w size Z S = AP at *
 obtain ⟨n, hn⟩ : ∃ n, D.length = n := ⟨_, rfl⟩
 rw [hn] at hzl hD63
 obtain ⟨k, hk⟩ : ∃ k, atZ Z nm = k := ⟨_, rfl⟩
 rw [hk] at HAd
 have Hk := hid hk
 have Hzl := hid hzl
 have Hfo := hid hfo
 have t0 : ((size : Int) == 0) = false := beq_eq_false_iff_ne.2 (by omega)
 have HFs := hid (show (Tryz.prog.info? 92).map (·.size) = some (#[.string nm, .int .i64 rate, .bool lp, .int .i64 f, .int .i64 t, .slice a R cap] : Array Value).size by kernel_rfl)
 obtain ⟨w0, hw0⟩ : ∃ w0, w.alloc (.cells #[.string nm, .int .i64 rate, .bool lp, .int .i64 f, .int .i64 t, .slice a R cap] 92) = w0 := ⟨_, rfl⟩
 have B0 := hid (show Below w.heap.size w w0 by rw [← hw0]; exact bnew w _)
 have X0 := hid (show w0.heap[w.heap.size]? = some (.cells #[.string nm, .int .i64 rate, .bool lp, .int .i64 f, .int .i64 t, .slice a R cap] 92 (0, 0)) by rw [← hw0]; exact heap_alloc_new w _)
 have HC0 := hid (HCk2.out w0 B0.out)
 clear hB hC hr hm hsm hS hn hk hfo hzl HCk hcap
 go_enter Tryz.func60, Tryz.ntmps60
 go_wp2_with (first | (go_at_call 51; refine (HSz.out _ B0.out).mono ?_; rintro e w2 ⟨rfl, rfl⟩) | (refine wpList_load_row_w rfl 92 (.tmp 3) rfl w.heap.size rfl _ #[.string nm, .int .i64 rate, .bool lp, .int .i64 f, .int .i64 t, .slice a R cap] _ _ X0.out Tryz.underlying92 rfl HFs.out ?_) | (go_at_call 61; fail))
 clear hw0
 refine HC0.out.mono ?_
 rintro e w1 ⟨rfl, hb1⟩
 have B1 := hid (bnext B0.out hb1)
 have X1 := hid (hkeep X0.out hb1)
 have HA1 := hid (HAl.out w1 B1.out)
 clear hb1 HC0 HAl
 by_cases hck : S.check = 0
 rotate_left
 ·have hck2 : (S.check != 0) = true := bne_iff_ne.2 hck
  have Hck := hid hck
  obtain ⟨ck, hckv⟩ : ∃ ck, S.check = ck := ⟨_, rfl⟩
  rw [hckv] at hck2 HAd Hck ⊢
  clear hck hckv
  go_wp2
  exact HAd.out _ _ ⟨fun _ => ⟨rfl, B1.out⟩, fun h => absurd h Hck.out, fun _ _ h => absurd h Hck.out⟩
 ·have hck2 : (S.check != 0) = false := by rw [hck]; rfl
  have Hck := hid hck
  rw [hck] at HAd ⊢
  clear hck2
  have hckz : ((0 : Int) != 0) = false := rfl
  clear hck
  go_wp2_with (go_at_call 89; fail)
  refine HA1.out.mono ?_
  rintro e w2 ⟨A, c, L, rfl, hmap, hraws, hb2⟩
  have hLl : L.length = n := by rw [← Hzl.out, ← hmap, List.length_map]
  have B2 := hid (bnext B1.out hb2)
  have X2 := hid (hkeep X1.out hb2)
  have HR := hid (show RawsAt w2 w.heap.size A c L from ⟨own_base hraws.own B1.out.size, hraws.each⟩)
  have HA2 := hid (HAt.out L A c nm w2 (by omega) (Row.of_own hraws.own))
  rw [hmap, Hk.out] at HA2
  have Hmap := hid hmap
  have HLl := hid hLl
  have x0 : w2.cell? ⟨w.heap.size, 0, none⟩ = some (.string nm) := (cell_of_row _ _ _ _ _ _ X2.out).trans rfl
  rw [hLl] at HA2 ⊢
  clear hraws hb2 hmap HA1 hLl X1
  go_wp2_with (go_at_call 90; fail)
  refine HA2.out.mono ?_
  rintro e w3 ⟨rfl, hb3⟩
  have B3 := hid (bnext B2.out hb3)
  have C3 := hid hb3
  have X3 := hid (hkeep X2.out hb3)
  have R3 := hid (HR.out.below hb3)
  clear hb3 HA2 x0
  cases hat : atB Z nm with
  | true =>
   have Hat := hid hat
   clear hat
   go_wp2
   exact HAd.out _ _ ⟨fun h => absurd rfl h, fun _ _ => ⟨rfl, B3.out⟩, fun _ _ _ h => (by rw [Hat.out] at h; cases h)⟩
  | false =>
   have u1 : ¬ ((n : Int) ≥ 64) := by omega
   have u2 : ¬ ((64 : Int) ≤ (n : Int)) := by omega
   have hP := canP_one (size := size) hlo hhi Hsm.out Hck.out
   obtain ⟨r1, hr1, hr2, hr3, hr4, hr5⟩ := one_raw hP
   have hrn : r1.m.name = nm := hr3.trans HSn.out
   have hkle : k ≤ L.length := by
    have h1 := atZ_le Z nm
    rw [Hk.out, ← Hmap.out, List.length_map] at h1
    exact h1
   have hok : RawsOk size (Z.insertIdx k r1) := by
    have h := HRs.out.ins hr4 (by rw [hrn]; exact hat) (by rw [Hzl.out]; omega) (by rw [Hfo.out]; omega)
    rw [hrn, Hk.out] at h
    exact h
   have HPk := hid (fun w8 (h8 : Below w3.heap.size w3 w8) => (show Calls Tryz.prog 49 #[.int .i64 size, .slice (some ⟨w8.heap.size, 0, none⟩) 1 1] (w8.alloc (.cells #[.string nm, .int .i64 rate, .bool lp, .int .i64 f, .int .i64 t, .slice a R cap] 92)) (fun e w' => ∃ g', e = .returned (.tuple #[.slice (some ⟨g', 0, none⟩) (packLen size [S]) (packLen size [S]), .int .i64 0]) ∧ BytesAt w' g' (packZ size [S]) ∧ Below w8.heap.size w8 w') from by
    have hbl := bnext (bnext B3.out h8) (bnew w8 (.cells #[.string nm, .int .i64 rate, .bool lp, .int .i64 f, .int .i64 t, .slice a R cap] 92))
    refine (Pack_one hlo hhi (⟨nm, rate, lp, f, t, a, R, cap⟩, S) Hsm.out Hck.out (some ⟨w8.heap.size, 0, none⟩) 1 _ (fun h => by cases h) (HSa.out _ w8.heap.size hbl (Blk.new w8 _ _))).mono ?_
    rintro e w' ⟨g', he, _, hby, hb⟩
    exact ⟨g', he, hby, bnext (bnew w8 _) hb⟩))
   have HPs := hid (fun g' W (h : BytesAt W g' (packZ size [S])) => Parse_one hP g' W h)
   have HAo := hid (fun x W h => all_one hP hr1 x W h)
   have HIn := hid (show ∀ W vb cx cur (px : HRaw × RawV), Below w3.heap.size w3 W → RawAt W px → W.heap[vb]? = some (.cells cur 149 (0, 0)) → cur.toList.take 10 = rawC px → w3.heap.size ≤ vb → Calls Tryz.prog 93 #[.slice A n c, .int .i64 k, .slice (some ⟨vb, 0, none⟩) 1 cx] W (fun e w' => ∃ A' c', e = .returned (.slice A' (n + 1) c') ∧ RawsAt w' w.heap.size A' c' (L.insertIdx k px) ∧ Below w.heap.size W w') from fun W vb cx cur px hW hpx hv hcur hvb => by
    have h := ins_any L A c k w.heap.size W hkle (by rw [HLl.out]; omega) (by have := B3.out.size; have := hW.size; omega) (R3.out.below hW) px hpx vb cx cur hv hcur (fun j hj => by
     have h1 := own_row_lt R3.out.own j hj
     omega)
    rw [HLl.out] at h
    refine h.mono ?_
    rintro e w' ⟨A', c', he, h1, h2, -, -⟩
    exact ⟨A', c', he, h1, h2⟩)
   have HBd := hid (show ∀ W A' c' (px : HRaw × RawV), px.2 = r1 → RawsAt W w.heap.size A' c' (L.insertIdx k px) → Calls Tryz.prog 92 #[.int .i64 size, .slice A' (n + 1) c'] W (ImageP W size (Z.insertIdx k r1)) from fun W A' c' px hpx hW => by
    have hmi : (L.insertIdx k px).map Prod.snd = Z.insertIdx k r1 := by
     have h1 : k ≤ Z.length := by rw [← Hmap.out, List.length_map]; exact hkle
     rw [ins_eq px _ k hkle, ins_eq _ _ k h1, List.map_append, List.map_cons, List.map_take, List.map_drop, Hmap.out, hpx]
    have hlen : (L.insertIdx k px).length = n + 1 := by rw [List.length_insertIdx, if_pos hkle, HLl.out]
    have h := build_ok size (L.insertIdx k px) A' c' w.heap.size W (by rw [hmi]; exact hok) hW
    rw [hmi, hlen] at h
    exact h)
   have HF := hid (show ∀ e w', ImageP w size (Z.insertIdx k r1) e w' → AP e w' from fun e w' h => HAd.out e w' ⟨fun h => absurd rfl h, fun _ h => (by rw [hat] at h; cases h), fun r hr _ _ => by
    rw [hr1] at hr
    injection hr with hr
    rw [← hr]
    exact h⟩)
   obtain ⟨N, hN⟩ : ∃ N, packLen size [S] = N := ⟨_, rfl⟩
   rw [hN] at HPk HPs
   have HFq := hid (show (Tryz.prog.info? 92).map (·.size) = some (#[.string nm, .int .i64 rate, .bool lp, .int .i64 f, .int .i64 t, .slice a R cap] : Array Value).size by kernel_rfl)
   have HS3 := hid (fun z (hz : Below w3.heap.size w3 z) => HSz.out z (bnext B3.out hz))
   clear hP hr1 hr2 hr3 hr4 hr5 hrn hkle hok hN hat HAd HRs HSa HCk2 HR X2 X0
   go_wp2_with fail
   refine wp_region_any (by kernel_rfl) ?_
   change wpAny _ _ _ _ _ _ _ (World.drew _)
   obtain ⟨w8, hw8⟩ : ∃ w8, w3.drew = w8 := ⟨_, rfl⟩
   have B8 := hid (show Below w3.heap.size w3 w8 by rw [← hw8]; exact (Below.refl w3.heap.size w3).drew)
   have X8 := hid (hkeep X3.out B8.out)
   have HS8 := hid (HS3.out w8 B8.out)
   have HS8b := hid (HS3.out (w8.alloc (.cells #[.string nm, .int .i64 rate, .bool lp, .int .i64 f, .int .i64 t, .slice a R cap] 92)) (bnext B8.out (bnew w8 _)))
   rw [hw8]
   clear hw8
   refine wpAny_take (i := 0) (v := ?_) rfl (by kernel_rfl) (by kernel_rfl) (by kernel_rfl) (fun _ _ _ h => h) (Or.inl ⟨by rfl, ?_⟩) ?_
   rotate_left
   ·intro w; go_simp; try (with_reducible rfl)
   simp only [Act.put, List.getElem_toArray, List.getElem_cons_zero, List.setIfInBounds_toArray, List.set_cons_succ, List.set_cons_zero]
   refine wpAny_ready (rs := [1, 2]) (by kernel_rfl) (by simp) ?_
   refine AllReady.cons rfl (fun K hK => ?_) (AllReady.cons rfl (fun K hK => ?_) AllReady.nil)
   ·go_simp
    go_wp2_with (go_at_call 51; refine HS8.out.mono ?_; rintro e w' ⟨rfl, rfl⟩)
    refine wpAny_ready (rs := [2]) (by kernel_rfl) (by simp) ?_
    refine AllReady.cons rfl (fun K hK => ?_) AllReady.nil
    refine wp_load_row 92 (.tmp 3) rfl w.heap.size rfl 92 #[.string nm, .int .i64 rate, .bool lp, .int .i64 f, .int .i64 t, .slice a R cap] _ _ X8.out Tryz.underlying92 rfl HFq.out ?_
    refine hK _ _ ?_
    clear hK K
    simp only [Act.put, List.getElem_toArray, List.getElem_cons_succ, List.getElem_cons_zero, List.setIfInBounds_toArray, List.set_cons_succ, List.set_cons_zero]
    refine wpAny_ready (rs := [3]) (by kernel_rfl) (by simp) ?_
    refine AllReady.cons rfl (fun K hK => ?_) AllReady.nil
    refine wp_build_s 39 92 (.tmp 40) rfl i0 _ 6 Tryz.underlying39 hi hz0 hi1 (by omega) (by omega) #[.string nm, .int .i64 rate, .bool lp, .int .i64 f, .int .i64 t, .slice a R cap] rfl rfl ?_
    refine hK _ _ ?_
    clear hK K
    simp only [Act.put, List.getElem_toArray, List.getElem_cons_succ, List.getElem_cons_zero, List.setIfInBounds_toArray, List.set_cons_succ, List.set_cons_zero]
    have HP9 := hid (HPk.out w8 B8.out)
    refine wpAny_ready (rs := [4]) (by kernel_rfl) (by simp) ?_
    refine AllReady.cons rfl (fun K hK => ?_) AllReady.nil
    go_simp
    go_wp2_with (go_at_call 49; refine HP9.out.mono ?_; rintro e w9 ⟨g9, rfl, hby9, hb9⟩)
    have HPa := hid (HPs.out g9 w9 hby9)
    have E9 := hid (bnext B8.out hb9)
    clear hby9 hb9 HP9
    refine wpAny_take (i := 5) (v := ?_) rfl (by kernel_rfl) (by kernel_rfl) (by kernel_rfl) (fun _ _ _ h => h) (Or.inl ⟨by rfl, ?_⟩) ?_
    rotate_left
    ·intro w; go_simp; try (with_reducible rfl)
    simp only [Act.put, List.getElem_toArray, List.getElem_cons_succ, List.getElem_cons_zero, List.setIfInBounds_toArray, List.set_cons_succ, List.set_cons_zero]
    refine wpAny_take (i := 6) (v := ?_) rfl (by kernel_rfl) (by kernel_rfl) (by kernel_rfl) (fun _ _ _ h => h) (Or.inl ⟨by rfl, ?_⟩) ?_
    rotate_left
    ·intro w; go_simp; try (with_reducible rfl)
    simp only [Act.put, List.getElem_toArray, List.getElem_cons_succ, List.getElem_cons_zero, List.setIfInBounds_toArray, List.set_cons_succ, List.set_cons_zero]
    refine wpAny_take (i := 7) (v := ?_) rfl (by kernel_rfl) (by kernel_rfl) (by kernel_rfl) (fun _ _ _ h => h) (Or.inl ⟨by rfl, ?_⟩) ?_
    rotate_left
    ·intro w; go_simp; try (with_reducible rfl)
    simp only [Act.put, List.getElem_toArray, List.getElem_cons_succ, List.getElem_cons_zero, List.setIfInBounds_toArray, List.set_cons_succ, List.set_cons_zero]
    refine wpAny_take (i := 8) (v := ?_) rfl (by kernel_rfl) (by kernel_rfl) (by kernel_rfl) (fun _ _ _ h => h) (Or.inl ⟨by rfl, ?_⟩) ?_
    rotate_left
    ·intro w; go_simp; try (with_reducible rfl)
    simp only [Act.put, List.getElem_toArray, List.getElem_cons_succ, List.getElem_cons_zero, List.setIfInBounds_toArray, List.set_cons_succ, List.set_cons_zero]
    refine wpAny_take (i := 9) (v := ?_) rfl (by kernel_rfl) (by kernel_rfl) (by kernel_rfl) (fun _ _ _ h => h) (Or.inl ⟨by rfl, ?_⟩) ?_
    rotate_left
    ·intro w; go_simp; try (with_reducible rfl)
    simp only [Act.put, List.getElem_toArray, List.getElem_cons_succ, List.getElem_cons_zero, List.setIfInBounds_toArray, List.set_cons_succ, List.set_cons_zero]
    refine wpAny_done (by kernel_rfl) ?_ _
    go_wp2_with (go_at_call 19; fail)
    refine HPa.out.mono ?_
    rintro e w10 ⟨x, rfl, hBx, hb10⟩
    have E10 := hid (bnext E9.out hb10)
    have HA10 := hid (HAo.out x w10 hBx)
    clear hBx hb10 HPa
    go_wp2_with (first | (go_at_call 51; refine (HS3.out _ E10.out).mono ?_; rintro e w' ⟨rfl, rfl⟩) | (go_at_call 89; fail))
    refine HA10.out.mono ?_
    rintro e w11 ⟨vb, cx, cur, px, rfl, hpx, hpa, hv, hcur, hvb, hb11⟩
    have E11 := hid (bnext E10.out hb11)
    have HI11 := hid (HIn.out w11 vb cx cur px E11.out hpa hv hcur (Nat.le_trans E10.out.size hvb))
    have Hpx := hid hpx
    clear hpx hpa hv hcur hvb hb11 HA10
    go_wp2_with (go_at_call 93; fail)
    refine HI11.out.mono ?_
    rintro e w12 ⟨A9, c9, rfl, hr9, hb12⟩
    have HBu := hid (HBd.out w12 A9 c9 px Hpx.out hr9)
    have E12 := hid (show Below w.heap.size w w12 from (bnext B3.out E11.out).trans hb12)
    clear hr9 hb12 HI11
    go_wp2_with (go_at_call 92; fail)
    refine HBu.out.mono ?_
    rintro e w13 hI
    have HI := hid (ImageP.later E12.out hI)
    obtain ⟨_, g4, rfl, _, _, _⟩ := hI
    go_wp2
    exact HF.out _ _ HI.out
   ·refine wp_load_row 92 (.tmp 3) rfl w.heap.size rfl 92 #[.string nm, .int .i64 rate, .bool lp, .int .i64 f, .int .i64 t, .slice a R cap] _ _ X8.out Tryz.underlying92 rfl HFq.out ?_
    refine hK _ _ ?_
    clear hK K
    simp only [Act.put, List.getElem_toArray, List.getElem_cons_succ, List.getElem_cons_zero, List.setIfInBounds_toArray, List.set_cons_succ, List.set_cons_zero]
    refine wpAny_ready (rs := [1, 3]) (by kernel_rfl) (by simp) ?_
    refine AllReady.cons rfl (fun K hK => ?_) (AllReady.cons rfl (fun K hK => ?_) AllReady.nil)
    ·go_simp
     go_wp2_with (go_at_call 51; refine HS8.out.mono ?_; rintro e w' ⟨rfl, rfl⟩)
     refine wpAny_ready (rs := [3]) (by kernel_rfl) (by simp) ?_
     refine AllReady.cons rfl (fun K hK => ?_) AllReady.nil
     refine wp_build_s 39 92 (.tmp 40) rfl i0 _ 6 Tryz.underlying39 hi hz0 hi1 (by omega) (by omega) #[.string nm, .int .i64 rate, .bool lp, .int .i64 f, .int .i64 t, .slice a R cap] rfl rfl ?_
     refine hK _ _ ?_
     clear hK K
     simp only [Act.put, List.getElem_toArray, List.getElem_cons_succ, List.getElem_cons_zero, List.setIfInBounds_toArray, List.set_cons_succ, List.set_cons_zero]
     have HP9 := hid (HPk.out w8 B8.out)
     refine wpAny_ready (rs := [4]) (by kernel_rfl) (by simp) ?_
     refine AllReady.cons rfl (fun K hK => ?_) AllReady.nil
     go_simp
     go_wp2_with (go_at_call 49; refine HP9.out.mono ?_; rintro e w9 ⟨g9, rfl, hby9, hb9⟩)
     have HPa := hid (HPs.out g9 w9 hby9)
     have E9 := hid (bnext B8.out hb9)
     clear hby9 hb9 HP9
     refine wpAny_take (i := 5) (v := ?_) rfl (by kernel_rfl) (by kernel_rfl) (by kernel_rfl) (fun _ _ _ h => h) (Or.inl ⟨by rfl, ?_⟩) ?_
     rotate_left
     ·intro w; go_simp; try (with_reducible rfl)
     simp only [Act.put, List.getElem_toArray, List.getElem_cons_succ, List.getElem_cons_zero, List.setIfInBounds_toArray, List.set_cons_succ, List.set_cons_zero]
     refine wpAny_take (i := 6) (v := ?_) rfl (by kernel_rfl) (by kernel_rfl) (by kernel_rfl) (fun _ _ _ h => h) (Or.inl ⟨by rfl, ?_⟩) ?_
     rotate_left
     ·intro w; go_simp; try (with_reducible rfl)
     simp only [Act.put, List.getElem_toArray, List.getElem_cons_succ, List.getElem_cons_zero, List.setIfInBounds_toArray, List.set_cons_succ, List.set_cons_zero]
     refine wpAny_take (i := 7) (v := ?_) rfl (by kernel_rfl) (by kernel_rfl) (by kernel_rfl) (fun _ _ _ h => h) (Or.inl ⟨by rfl, ?_⟩) ?_
     rotate_left
     ·intro w; go_simp; try (with_reducible rfl)
     simp only [Act.put, List.getElem_toArray, List.getElem_cons_succ, List.getElem_cons_zero, List.setIfInBounds_toArray, List.set_cons_succ, List.set_cons_zero]
     refine wpAny_take (i := 8) (v := ?_) rfl (by kernel_rfl) (by kernel_rfl) (by kernel_rfl) (fun _ _ _ h => h) (Or.inl ⟨by rfl, ?_⟩) ?_
     rotate_left
     ·intro w; go_simp; try (with_reducible rfl)
     simp only [Act.put, List.getElem_toArray, List.getElem_cons_succ, List.getElem_cons_zero, List.setIfInBounds_toArray, List.set_cons_succ, List.set_cons_zero]
     refine wpAny_take (i := 9) (v := ?_) rfl (by kernel_rfl) (by kernel_rfl) (by kernel_rfl) (fun _ _ _ h => h) (Or.inl ⟨by rfl, ?_⟩) ?_
     rotate_left
     ·intro w; go_simp; try (with_reducible rfl)
     simp only [Act.put, List.getElem_toArray, List.getElem_cons_succ, List.getElem_cons_zero, List.setIfInBounds_toArray, List.set_cons_succ, List.set_cons_zero]
     refine wpAny_done (by kernel_rfl) ?_ _
     go_wp2_with (go_at_call 19; fail)
     refine HPa.out.mono ?_
     rintro e w10 ⟨x, rfl, hBx, hb10⟩
     have E10 := hid (bnext E9.out hb10)
     have HA10 := hid (HAo.out x w10 hBx)
     clear hBx hb10 HPa
     go_wp2_with (first | (go_at_call 51; refine (HS3.out _ E10.out).mono ?_; rintro e w' ⟨rfl, rfl⟩) | (go_at_call 89; fail))
     refine HA10.out.mono ?_
     rintro e w11 ⟨vb, cx, cur, px, rfl, hpx, hpa, hv, hcur, hvb, hb11⟩
     have E11 := hid (bnext E10.out hb11)
     have HI11 := hid (HIn.out w11 vb cx cur px E11.out hpa hv hcur (Nat.le_trans E10.out.size hvb))
     have Hpx := hid hpx
     clear hpx hpa hv hcur hvb hb11 HA10
     go_wp2_with (go_at_call 93; fail)
     refine HI11.out.mono ?_
     rintro e w12 ⟨A9, c9, rfl, hr9, hb12⟩
     have HBu := hid (HBd.out w12 A9 c9 px Hpx.out hr9)
     have E12 := hid (show Below w.heap.size w w12 from (bnext B3.out E11.out).trans hb12)
     clear hr9 hb12 HI11
     go_wp2_with (go_at_call 92; fail)
     refine HBu.out.mono ?_
     rintro e w13 hI
     have HI := hid (ImageP.later E12.out hI)
     obtain ⟨_, g4, rfl, _, _, _⟩ := hI
     go_wp2
     exact HF.out _ _ HI.out
    ·refine wp_build_s 39 92 (.tmp 40) rfl i0 _ 6 Tryz.underlying39 hi hz0 hi1 (by omega) (by omega) #[.string nm, .int .i64 rate, .bool lp, .int .i64 f, .int .i64 t, .slice a R cap] rfl rfl ?_
     refine hK _ _ ?_
     clear hK K
     simp only [Act.put, List.getElem_toArray, List.getElem_cons_succ, List.getElem_cons_zero, List.setIfInBounds_toArray, List.set_cons_succ, List.set_cons_zero]
     refine wpAny_ready (rs := [1]) (by kernel_rfl) (by simp) ?_
     refine AllReady.cons rfl (fun K hK => ?_) AllReady.nil
     go_simp
     go_wp2_with (go_at_call 51; refine HS8b.out.mono ?_; rintro e w' ⟨rfl, rfl⟩)
     have HP9 := hid (HPk.out w8 B8.out)
     refine wpAny_ready (rs := [4]) (by kernel_rfl) (by simp) ?_
     refine AllReady.cons rfl (fun K hK => ?_) AllReady.nil
     go_simp
     go_wp2_with (go_at_call 49; refine HP9.out.mono ?_; rintro e w9 ⟨g9, rfl, hby9, hb9⟩)
     have HPa := hid (HPs.out g9 w9 hby9)
     have E9 := hid (bnext B8.out hb9)
     clear hby9 hb9 HP9
     refine wpAny_take (i := 5) (v := ?_) rfl (by kernel_rfl) (by kernel_rfl) (by kernel_rfl) (fun _ _ _ h => h) (Or.inl ⟨by rfl, ?_⟩) ?_
     rotate_left
     ·intro w; go_simp; try (with_reducible rfl)
     simp only [Act.put, List.getElem_toArray, List.getElem_cons_succ, List.getElem_cons_zero, List.setIfInBounds_toArray, List.set_cons_succ, List.set_cons_zero]
     refine wpAny_take (i := 6) (v := ?_) rfl (by kernel_rfl) (by kernel_rfl) (by kernel_rfl) (fun _ _ _ h => h) (Or.inl ⟨by rfl, ?_⟩) ?_
     rotate_left
     ·intro w; go_simp; try (with_reducible rfl)
     simp only [Act.put, List.getElem_toArray, List.getElem_cons_succ, List.getElem_cons_zero, List.setIfInBounds_toArray, List.set_cons_succ, List.set_cons_zero]
     refine wpAny_take (i := 7) (v := ?_) rfl (by kernel_rfl) (by kernel_rfl) (by kernel_rfl) (fun _ _ _ h => h) (Or.inl ⟨by rfl, ?_⟩) ?_
     rotate_left
     ·intro w; go_simp; try (with_reducible rfl)
     simp only [Act.put, List.getElem_toArray, List.getElem_cons_succ, List.getElem_cons_zero, List.setIfInBounds_toArray, List.set_cons_succ, List.set_cons_zero]
     refine wpAny_take (i := 8) (v := ?_) rfl (by kernel_rfl) (by kernel_rfl) (by kernel_rfl) (fun _ _ _ h => h) (Or.inl ⟨by rfl, ?_⟩) ?_
     rotate_left
     ·intro w; go_simp; try (with_reducible rfl)
     simp only [Act.put, List.getElem_toArray, List.getElem_cons_succ, List.getElem_cons_zero, List.setIfInBounds_toArray, List.set_cons_succ, List.set_cons_zero]
     refine wpAny_take (i := 9) (v := ?_) rfl (by kernel_rfl) (by kernel_rfl) (by kernel_rfl) (fun _ _ _ h => h) (Or.inl ⟨by rfl, ?_⟩) ?_
     rotate_left
     ·intro w; go_simp; try (with_reducible rfl)
     simp only [Act.put, List.getElem_toArray, List.getElem_cons_succ, List.getElem_cons_zero, List.setIfInBounds_toArray, List.set_cons_succ, List.set_cons_zero]
     refine wpAny_done (by kernel_rfl) ?_ _
     go_wp2_with (go_at_call 19; fail)
     refine HPa.out.mono ?_
     rintro e w10 ⟨x, rfl, hBx, hb10⟩
     have E10 := hid (bnext E9.out hb10)
     have HA10 := hid (HAo.out x w10 hBx)
     clear hBx hb10 HPa
     go_wp2_with (first | (go_at_call 51; refine (HS3.out _ E10.out).mono ?_; rintro e w' ⟨rfl, rfl⟩) | (go_at_call 89; fail))
     refine HA10.out.mono ?_
     rintro e w11 ⟨vb, cx, cur, px, rfl, hpx, hpa, hv, hcur, hvb, hb11⟩
     have E11 := hid (bnext E10.out hb11)
     have HI11 := hid (HIn.out w11 vb cx cur px E11.out hpa hv hcur (Nat.le_trans E10.out.size hvb))
     have Hpx := hid hpx
     clear hpx hpa hv hcur hvb hb11 HA10
     go_wp2_with (go_at_call 93; fail)
     refine HI11.out.mono ?_
     rintro e w12 ⟨A9, c9, rfl, hr9, hb12⟩
     have HBu := hid (HBd.out w12 A9 c9 px Hpx.out hr9)
     have E12 := hid (show Below w.heap.size w w12 from (bnext B3.out E11.out).trans hb12)
     clear hr9 hb12 HI11
     go_wp2_with (go_at_call 92; fail)
     refine HBu.out.mono ?_
     rintro e w13 hI
     have HI := hid (ImageP.later E12.out hI)
     obtain ⟨_, g4, rfl, _, _, _⟩ := hI
     go_wp2
     exact HF.out _ _ HI.out
end Go.Proofs.YtgcfkblmnpnogaaGreatDoor
