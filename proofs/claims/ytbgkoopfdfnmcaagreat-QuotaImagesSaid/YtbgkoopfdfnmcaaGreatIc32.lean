/- NetE. Conditions: as each theorem states. -/
import Derived.Test.YtbgkoopfdfnmcaaGreatIc31

namespace Go.Proofs.YtbgkoopfdfnmcaaGreat
open Go.RowKit Go.Shelf
attribute [local go_sem] Oper.semAt_some

set_option maxRecDepth 100000 in
set_option maxHeartbeats 16000000 in
theorem Inverse_any (tv : Array Value) (b : List Int) (M : Int) (w : World) (hts : tv.size = 16) (ht : TurnsV tv) (hb : b.length = 16) (hM : 0 ≤ M ∧ M ≤ 2147483648) (hl : Within M b) :
    Calls Tryz.prog 59 #[.agg tv, blockV b] w fun e w' => e = .returned (blockV (stU 0 (stU 1 (stU 2 (stU 3 b))))) ∧ Below w.heap.size w w' := by
  have Ht := Lib.hid ht
  have HFt := Lib.hid (show (Tryz.prog.info? 58).map (·.size) = some tv.size by rw [hts]; kernel_rfl)
  have H4 := Lib.hid (heap4 w (.cells tv 58) (.cells (b.map (Value.int .i64)).toArray 74) (.cells #[Value.int IntKind.i64 0, Value.int IntKind.i64 0, Value.int IntKind.i64 0, Value.int IntKind.i64 0, Value.int IntKind.i64 0, Value.int IntKind.i64 0, Value.int IntKind.i64 0, Value.int IntKind.i64 0, Value.int IntKind.i64 0, Value.int IntKind.i64 0, Value.int IntKind.i64 0, Value.int IntKind.i64 0, Value.int IntKind.i64 0, Value.int IntKind.i64 0, Value.int IntKind.i64 0, Value.int IntKind.i64 0] 74) (.cells #[.int .i64 3] 3))
  have Hb0 := Lib.hid hb
  have Hl0 := Lib.hid hl
  have HM0 := Lib.hid hM
  clear ht hts hb hl hM
  unfold blockV
  obtain ⟨bv, hbv⟩ : ∃ bv, (b.map (Value.int .i64)).toArray = bv := ⟨_, rfl⟩
  rw [hbv] at H4 ⊢
  have Hbv := Lib.hid hbv
  clear hbv
  refine (callsIn_wide (n := 4)).1 ?_
  refine callsIn_of_wp_marks Tryz.func59 rfl trivial ?_ rfl
  refine wpIn_wide.2 ?_
  simp only [Tryz.ntmps59, List.size_toArray, List.length_cons, List.length_nil, Nat.reduceAdd, Nat.reduceSub, Array.replicate_succ, Array.replicate_zero, List.push_toArray, List.append_toArray, List.nil_append, List.cons_append]
  go_wp2_with fail
  obtain ⟨V0, hV0⟩ : ∃ V, (((w.alloc (.cells tv 58)).alloc (.cells bv 74)).alloc (.cells #[Value.int IntKind.i64 0, Value.int IntKind.i64 0, Value.int IntKind.i64 0, Value.int IntKind.i64 0, Value.int IntKind.i64 0, Value.int IntKind.i64 0, Value.int IntKind.i64 0, Value.int IntKind.i64 0, Value.int IntKind.i64 0, Value.int IntKind.i64 0, Value.int IntKind.i64 0, Value.int IntKind.i64 0, Value.int IntKind.i64 0, Value.int IntKind.i64 0, Value.int IntKind.i64 0, Value.int IntKind.i64 0] 74)).alloc (.cells #[.int .i64 3] 3) = V := ⟨_, rfl⟩
  rw [hV0] at H4 ⊢
  clear hV0
  have N0 := Lib.hid H4.out.1
  have B0 := Lib.hid (show Blk V0 (w.heap.size + 1) 74 (b.map (.int .i64)) by unfold Blk; rw [Hbv.out]; exact H4.out.2.1)
  have Z0 := Lib.hid H4.out.2.2.1
  obtain ⟨P0, hP0⟩ : ∃ P, w.heap.size + 1 + 1 + 1 = P := ⟨_, rfl⟩
  rw [hP0] at H4 ⊢
  have X0 := Lib.hid H4.out.2.2.2.1
  have p0 : w.heap.size + 3 ≤ P0 := by omega
  have z0 : w.heap.size + 3 ≤ V0.heap.size := by have := H4.out.2.2.2.2.1; omega
  have L0 := Lib.hid H4.out.2.2.2.2.2
  clear H4 Hbv hP0
  refine wp_loop_rounds 5 ?_
  -- round 3
  have HP := Lib.hid (fun W => pairs_any tv 3 W)
  rw [rounds_succ]
  have c5 : V0.cell? ⟨P0, 0, none⟩ = some (.int .i64 3) := cell_of_row _ _ 0 _ _ _ X0.out
  go_wp2_with (first | (go_at_call 80; fail) | (refine wpList_load_row_w rfl 58 (.tmp 2) rfl w.heap.size rfl _ tv _ _ N0.out Tryz.underlying58 rfl HFt.out ?_))
  refine (HP.out _).mono ?_
  clear HP c5
  rintro e W0 ⟨Br, Bn, rfl, hz1, hz2, hBr, hBn, hb1⟩
  have L := Lib.hid hb1
  have Xr := Lib.hid (hkeep X0.out hb1)
  have XB := Lib.hid (B0.out.below L.out B0.out.lt)
  have gBr := hlt hBr
  have gBn := hlt hBn
  have nBr : Br ≠ w.heap.size + 1 := by omega
  have nBn : Bn ≠ w.heap.size + 1 := by omega
  have zB : w.heap.size + 1 < W0.heap.size := by have := L.out.size; omega
  have nR : P0 ≠ w.heap.size + 1 := by omega
  have KBr := Lib.hid hBr
  have KBn := Lib.hid hBn
  clear hb1 hz1 hz2 hBr hBn
  go_wp2_with fail
  refine (wpIn_wide (n := 4)).1 ?_
  refine wpIn_rangeFunc_ownH (n := 4) rfl (by decide) (gf := 102) (lb := #[.pointer (some ⟨Br, 0, none⟩), .pointer (some ⟨Bn, 0, none⟩)]) rfl trivial (enters_of Tryz.func102 (by kernel_rfl) rfl) (pairs_stops 3 Br Bn tv W0 (by decide) Ht.out KBr.out KBn.out) kp2_t (kp2_b gBr gBn) (Below.refl _ _) (fun _ => rfl)
    (fun (pre : List (PI 3)) X => W0.grownBy X (some (w.heap.size + 1)) ∧ Blk X (w.heap.size + 1) 74 ((pre.foldl (stepU 3) b).map (.int .i64))) (fun _ _ _ => False)
    (ownFrom_only (fun (pre : List (PI 3)) => (pre.foldl (stepU 3) b).map (.int .i64)) zB) (fun _ _ _ _ _ h _ _ => h) ⟨below_grown (Below.refl _ _), XB.out⟩
    (fun (x : PI 3) a' X => ∃ Bx, W0.heap.size ≤ Bx ∧ X.heap[Bx]? = some (.cells #[.int .i64 (turnOf x.1 3).p, .int .i64 (turnOf x.1 3).u] 53 (0, 0)) ∧
      a' = { tmps := #[.agg tv, .agg bv, .pointer (some ⟨w.heap.size, 0, none⟩), .pointer (some ⟨w.heap.size + 1, 0, none⟩), .pointer (some ⟨w.heap.size + 1 + 1, 0, none⟩), .pointer (some ⟨P0, 0, none⟩), .int .i64 (x.1 : Int), .pointer (some ⟨Bx, 0, none⟩), undef, .int .i64 3, .bool true, undef, undef, .agg tv, .int .i64 3, .func (.func 102) #[] #[.pointer (some ⟨Br, 0, none⟩), .pointer (some ⟨Bn, 0, none⟩)], .int .i64 (x.1 : Int), .agg #[.int .i64 (turnOf x.1 3).p, .int .i64 (turnOf x.1 3).u], undef, undef, undef, undef, undef, undef, undef, undef, undef, undef, undef, undef, undef, undef, undef, undef, undef, undef, undef, undef, undef], defers := [] })
    (fun x a' => ownFrom_box _) ?_ ?_ ?_ ?_
  · intro l pre x X K hI hK
    dsimp only [encP]
    gi_wp2
    exact hK _ _ ((KeepsOthers.alloc _ _).from _) (kp2_below (Nat.lt_of_lt_of_le gBr hI.1.size) (Nat.lt_of_lt_of_le gBn hI.1.size) (bnew _ _)) ⟨hI.1.trans (below_grown (bnew _ _)), hI.2.alloc _⟩ ⟨X.heap.size, hI.1.size, heap_alloc_new _ _, rfl⟩
  · rintro l pre x a' X hl ⟨rr, hrr⟩ ⟨hG, hBk⟩ ⟨Bx, hx1, hx2, rfl⟩ hlen
    have HLm := Lib.hid (foldU_lim (r := 3) (by decide) pre b _ Hb0.out Hl0.out)
    have hlen16 : (pre.foldl (stepU 3) b).length = 16 := by rw [foldU_len]; exact Hb0.out
    have HSn := Lib.hid (show (pre ++ [x]).foldl (stepU 3) b = stepU 3 (pre.foldl (stepU 3) b) x by rw [List.foldl_append]; rfl)
    obtain ⟨sb, hsb⟩ : ∃ sb, pre.foldl (stepU 3) b = sb := ⟨_, rfl⟩
    rw [hsb] at hBk HLm hlen16 HSn
    clear hsb
    have hi16 := x.2.1
    have hm := lead_mate (r := 3) (by decide) x
    have hor : bits .or .i64 (x.1 : Int) 8 = ((x.1 + 2 ^ 3 : Nat) : Int) := (or_pairF ⟨3, by decide⟩ ⟨x.1, hi16⟩ x.2.2).1
    have hne := mate_ne 3 x
    obtain ⟨y, hy⟩ := list_get hlen16 hi16
    obtain ⟨z, hz⟩ := list_get hlen16 hm
    have HLc := limN_le (M := M) (by have := HM0.out; omega) hlen
    have ty : Turnable y := by have := HLm.out.turnable HLc hi16; rwa [bgt_get hy] at this
    have tz : Turnable z := by have := HLm.out.turnable HLc hm; rwa [bgt_get hz] at this
    have HT := Lib.hid (fun W => liftBack_any y z (turnOf x.1 3) W (turnK_ok (Nat.mod_lt _ (by decide))) ty tz)
    have HSet := Lib.hid (fun (W : World) (h : Blk W (w.heap.size + 1) 74 (sb.map (.int .i64))) => setU_step x (bgt_get hy) (bgt_get hz) rfl h)
    have hcy : (sb.map (Value.int .i64))[x.1]? = some (.int .i64 y) := by rw [List.getElem?_map, hy]; rfl
    have hcz : (sb.map (Value.int .i64))[x.1 + 2 ^ 3]? = some (.int .i64 z) := by rw [List.getElem?_map, hz]; rfl
    generalize unA y z (turnOf x.1 3) = Y at *
    generalize unB y z (turnOf x.1 3) = Zz at *
    generalize turnOf x.1 3 = tk at *
    obtain ⟨p, u⟩ := tk
    simp only at HT hx2
    obtain ⟨i, hi⟩ : ∃ i : Nat, x.1 = i := ⟨_, rfl⟩
    obtain ⟨j, hj⟩ : ∃ j : Nat, x.1 + 2 ^ 3 = j := ⟨_, rfl⟩
    rw [hj] at hm hor hne hcz HSet
    rw [hi] at hi16 hor hne hcy HSet ⊢
    have q1 : (0 : Int) ≤ (i : Int) := by omega
    have q2 : (i : Int) < 16 := by omega
    have q3 : (0 : Int) ≤ (j : Int) := by omega
    have q4 : (j : Int) < 16 := by omega
    have cr : X.cell? ⟨P0, 0, none⟩ = some (.int .i64 3) := cell_of_row X _ 0 _ _ _ ((hG.block _ (hlt Xr.out) (by simpa using nR)).trans Xr.out)
    have x5 := fun (v : GW X) => (gw_blk hBk v i).trans hcy
    have z5 := fun (v : GW X) => (gw_blk hBk v j).trans hcz
    have p5 := fun (v : GW X) => gw_cells hx2 v 0
    have u5 := fun (v : GW X) => gw_cells hx2 v 1
    have HG := Lib.hid hG
    have HBk := Lib.hid hBk
    have Hy := Lib.hid hcy
    have Hz := Lib.hid hcz
    clear hG hBk hi hj hy hz ty tz hcy hcz hlen16 hx2 hrr
    gi_wp2
    refine wpIn_region_pairs (v0 := .int .i64 (i : Int)) (v1 := .int .i64 (j : Int)) rfl rfl rfl rfl rfl rfl rfl rfl (by kernel_rfl) (by kernel_rfl) (by kernel_rfl) ?_ ?_ (.inl ⟨by rfl, fun W => by go_simp⟩) (.inl ⟨by rfl, fun W => by go_simp⟩) ?_
    · rintro ⟨a, w, h⟩
      exact h
    · intro c a' w' d v h
      exact h
    simp only [List.take_succ_cons, List.take_zero, List.drop_succ_cons, List.drop_zero]
    go_simp
    repeat (first | go_big_quiet_step ((go_at_call 91; exact calm_call (HT.out _))))
    refine wpQuiet_nil ?_
    refine ⟨.int .i64 Zz, .inl ⟨by rfl, fun W => by go_simp⟩, ?_⟩
    rintro ⟨X5, hb5⟩
    dsimp only
    have hB5 := HBk.out.below hb5 HBk.out.lt
    have HB5 := Lib.hid hB5
    have HG5 := Lib.hid (below_grown (row := some (w.heap.size + 1)) hb5)
    have ce : X5.cell? ⟨w.heap.size + 1, i, none⟩ = some (.int .i64 y) := (hB5.cell i).trans Hy.out
    have fz := hB5.frozen i
    have S1 := Lib.hid (hB5.set_ i (.int .i64 Y))
    have ce2 : (X5.setCell ⟨w.heap.size + 1, i, none⟩ (.int .i64 Y)).cell? ⟨w.heap.size + 1, j, none⟩ = some (.int .i64 z) := by rw [S1.out.cell, List.getElem?_set, if_neg hne]; exact Hz.out
    have fz2 := S1.out.frozen j
    clear hb5 hB5 x5 z5 p5 u5
    go_wp2
    have G : X.grownBy ((X5.setCell ⟨w.heap.size + 1, i, none⟩ (.int .i64 Y)).setCell ⟨w.heap.size + 1, j, none⟩ (.int .i64 Zz)) (some (w.heap.size + 1)) := (HG5.out.trans (grown_set _)).trans (grown_set _)
    exact ⟨KeepsFrom.of_grownBy G (fun j e => by cases e; exact zB), ⟨G.block Br (Nat.lt_of_lt_of_le gBr HG.out.size) (by simpa using nBr), G.block Bn (Nat.lt_of_lt_of_le gBn HG.out.size) (by simpa using nBn)⟩, HG.out.trans G, by rw [HSn.out]; exact HSet.out X5 HB5.out⟩
  rotate_left
  · intro D c pre X _ _ h
    exact h.elim
  rintro D0 ys X hDR rfl ⟨hG, hBk⟩ hK
  have d0 : w.heap.size + 3 ≤ D0 := by have := L.out.size; omega
  have v0 : D0 < X.heap.size := hlt hK
  have M0 := Lib.hid hK
  have NX := Lib.hid ((hG.block _ (hlt (hkeep N0.out L.out)) (by simp)).trans (hkeep N0.out L.out))
  have BX := Lib.hid (show Blk X (w.heap.size + 1) 74 ((stU 3 b).map (.int .i64)) from hBk)
  have ZX := Lib.hid ((hG.block _ (hlt (hkeep Z0.out L.out)) (by simp)).trans (hkeep Z0.out L.out))
  have zX : w.heap.size + 3 ≤ X.heap.size := by have := L.out.size; have := hG.size; omega
  have LX := Lib.hid ((bnext L0.out L.out).grown hG (by have := L.out.size; omega) (fun k e => by cases e; omega))
  have Hb1 := Lib.hid (stU_len (r := 3) (by decide) Hb0.out)
  have Hl1 := Lib.hid (stU_half (r := 3) (M := M) (N := (3 * M + 9) / 2) Hb0.out Hl0.out (by have := HM0.out; omega) (by decide))
  have cr : X.cell? ⟨P0, 0, none⟩ = some (.int .i64 3) := cell_of_row X _ 0 _ _ _ ((hG.block _ (hlt Xr.out) (by simpa using nR)).trans Xr.out)
  obtain ⟨S1, hSq⟩ : ∃ S, stU 3 b = S := ⟨_, rfl⟩
  rw [hSq] at BX Hb1 Hl1
  have E1 := Lib.hid hSq
  clear hSq hG hBk hK hDR L Xr XB gBr gBn nBr nBn zB nR KBr KBn z0 N0 B0 Z0 L0 Hb0 Hl0 X0 p0
  go_wp2_with fail
  obtain ⟨V1, hVn⟩ : ∃ V, X.alloc (.cells #[.int .i64 2] 3) = V := ⟨_, rfl⟩
  rw [hVn]
  have N1 := Lib.hid (hVn ▸ hkeep NX.out (bnew X (.cells #[.int .i64 2] 3)))
  have B1 := Lib.hid (hVn ▸ BX.out.alloc (.cells #[.int .i64 2] 3))
  have Z1 := Lib.hid (hVn ▸ hkeep ZX.out (bnew X (.cells #[.int .i64 2] 3)))
  have X1 := Lib.hid (hVn ▸ heap_alloc_new X (.cells #[.int .i64 2] 3))
  have L1 := Lib.hid (hVn ▸ bnext LX.out (bnew X (.cells #[.int .i64 2] 3)))
  have z1 : w.heap.size + 3 ≤ V1.heap.size := by rw [← hVn, World.size_alloc]; omega
  have M0 := Lib.hid (hVn ▸ hkeep M0.out (bnew X (.cells #[.int .i64 2] 3)))
  have v0 : D0 < V1.heap.size := hlt M0.out
  obtain ⟨P1, hPn⟩ : ∃ P, X.heap.size = P := ⟨_, rfl⟩
  rw [hPn] at X1 ⊢
  have p1 : w.heap.size + 3 ≤ P1 := by omega
  clear hVn hPn NX BX ZX LX cr zX
  -- round 2
  have HP := Lib.hid (fun W => pairs_any tv 2 W)
  rw [rounds_succ]
  have c5 : V1.cell? ⟨P1, 0, none⟩ = some (.int .i64 2) := cell_of_row _ _ 0 _ _ _ X1.out
  go_wp2_with (first | (go_at_call 80; fail) | (refine wpList_load_row_w rfl 58 (.tmp 2) rfl w.heap.size rfl _ tv _ _ N1.out Tryz.underlying58 rfl HFt.out ?_))
  refine (HP.out _).mono ?_
  clear HP c5
  rintro e W1 ⟨Br, Bn, rfl, hz1, hz2, hBr, hBn, hb1⟩
  have L := Lib.hid hb1
  have Xr := Lib.hid (hkeep X1.out hb1)
  have XB := Lib.hid (B1.out.below L.out B1.out.lt)
  have gBr := hlt hBr
  have gBn := hlt hBn
  have nBr : Br ≠ w.heap.size + 1 := by omega
  have nBn : Bn ≠ w.heap.size + 1 := by omega
  have zB : w.heap.size + 1 < W1.heap.size := by have := L.out.size; omega
  have nR : P1 ≠ w.heap.size + 1 := by omega
  have KBr := Lib.hid hBr
  have KBn := Lib.hid hBn
  clear hb1 hz1 hz2 hBr hBn
  go_wp2_with fail
  refine (wpIn_wide (n := 4)).1 ?_
  refine wpIn_rangeFunc_ownH (n := 4) rfl (by decide) (gf := 102) (lb := #[.pointer (some ⟨Br, 0, none⟩), .pointer (some ⟨Bn, 0, none⟩)]) rfl trivial (enters_of Tryz.func102 (by kernel_rfl) rfl) (pairs_stops 2 Br Bn tv W1 (by decide) Ht.out KBr.out KBn.out) kp2_t (kp2_b gBr gBn) (Below.refl _ _) (fun _ => rfl)
    (fun (pre : List (PI 2)) X => W1.grownBy X (some (w.heap.size + 1)) ∧ Blk X (w.heap.size + 1) 74 ((pre.foldl (stepU 2) S1).map (.int .i64))) (fun _ _ _ => False)
    (ownFrom_only (fun (pre : List (PI 2)) => (pre.foldl (stepU 2) S1).map (.int .i64)) zB) (fun _ _ _ _ _ h _ _ => h) ⟨below_grown (Below.refl _ _), XB.out⟩
    (fun (x : PI 2) a' X => ∃ Bx, W1.heap.size ≤ Bx ∧ X.heap[Bx]? = some (.cells #[.int .i64 (turnOf x.1 2).p, .int .i64 (turnOf x.1 2).u] 53 (0, 0)) ∧
      a' = { tmps := #[.agg tv, .agg bv, .pointer (some ⟨w.heap.size, 0, none⟩), .pointer (some ⟨w.heap.size + 1, 0, none⟩), .pointer (some ⟨w.heap.size + 1 + 1, 0, none⟩), .pointer (some ⟨P1, 0, none⟩), .int .i64 (x.1 : Int), .pointer (some ⟨Bx, 0, none⟩), undef, .int .i64 2, .bool true, .int .i64 3, .int .i64 2, .agg tv, .int .i64 2, .func (.func 102) #[] #[.pointer (some ⟨Br, 0, none⟩), .pointer (some ⟨Bn, 0, none⟩)], .int .i64 (x.1 : Int), .agg #[.int .i64 (turnOf x.1 2).p, .int .i64 (turnOf x.1 2).u], undef, undef, undef, undef, undef, undef, undef, undef, undef, undef, undef, undef, undef, undef, undef, undef, undef, undef, undef, .int .i64 3, undef], defers := [] })
    (fun x a' => ownFrom_box _) ?_ ?_ ?_ ?_
  · intro l pre x X K hI hK
    dsimp only [encP]
    gi_wp2
    exact hK _ _ ((KeepsOthers.alloc _ _).from _) (kp2_below (Nat.lt_of_lt_of_le gBr hI.1.size) (Nat.lt_of_lt_of_le gBn hI.1.size) (bnew _ _)) ⟨hI.1.trans (below_grown (bnew _ _)), hI.2.alloc _⟩ ⟨X.heap.size, hI.1.size, heap_alloc_new _ _, rfl⟩
  · rintro l pre x a' X hl ⟨rr, hrr⟩ ⟨hG, hBk⟩ ⟨Bx, hx1, hx2, rfl⟩ hlen
    have HLm := Lib.hid (foldU_lim (r := 2) (by decide) pre S1 _ Hb1.out Hl1.out)
    have hlen16 : (pre.foldl (stepU 2) S1).length = 16 := by rw [foldU_len]; exact Hb1.out
    have HSn := Lib.hid (show (pre ++ [x]).foldl (stepU 2) S1 = stepU 2 (pre.foldl (stepU 2) S1) x by rw [List.foldl_append]; rfl)
    obtain ⟨sb, hsb⟩ : ∃ sb, pre.foldl (stepU 2) S1 = sb := ⟨_, rfl⟩
    rw [hsb] at hBk HLm hlen16 HSn
    clear hsb
    have hi16 := x.2.1
    have hm := lead_mate (r := 2) (by decide) x
    have hor : bits .or .i64 (x.1 : Int) 4 = ((x.1 + 2 ^ 2 : Nat) : Int) := (or_pairF ⟨2, by decide⟩ ⟨x.1, hi16⟩ x.2.2).1
    have hne := mate_ne 2 x
    obtain ⟨y, hy⟩ := list_get hlen16 hi16
    obtain ⟨z, hz⟩ := list_get hlen16 hm
    have HLc := limN_le (M := (3 * M + 9) / 2) (by have := HM0.out; omega) hlen
    have ty : Turnable y := by have := HLm.out.turnable HLc hi16; rwa [bgt_get hy] at this
    have tz : Turnable z := by have := HLm.out.turnable HLc hm; rwa [bgt_get hz] at this
    have HT := Lib.hid (fun W => liftBack_any y z (turnOf x.1 2) W (turnK_ok (Nat.mod_lt _ (by decide))) ty tz)
    have HSet := Lib.hid (fun (W : World) (h : Blk W (w.heap.size + 1) 74 (sb.map (.int .i64))) => setU_step x (bgt_get hy) (bgt_get hz) rfl h)
    have hcy : (sb.map (Value.int .i64))[x.1]? = some (.int .i64 y) := by rw [List.getElem?_map, hy]; rfl
    have hcz : (sb.map (Value.int .i64))[x.1 + 2 ^ 2]? = some (.int .i64 z) := by rw [List.getElem?_map, hz]; rfl
    generalize unA y z (turnOf x.1 2) = Y at *
    generalize unB y z (turnOf x.1 2) = Zz at *
    generalize turnOf x.1 2 = tk at *
    obtain ⟨p, u⟩ := tk
    simp only at HT hx2
    obtain ⟨i, hi⟩ : ∃ i : Nat, x.1 = i := ⟨_, rfl⟩
    obtain ⟨j, hj⟩ : ∃ j : Nat, x.1 + 2 ^ 2 = j := ⟨_, rfl⟩
    rw [hj] at hm hor hne hcz HSet
    rw [hi] at hi16 hor hne hcy HSet ⊢
    have q1 : (0 : Int) ≤ (i : Int) := by omega
    have q2 : (i : Int) < 16 := by omega
    have q3 : (0 : Int) ≤ (j : Int) := by omega
    have q4 : (j : Int) < 16 := by omega
    have cr : X.cell? ⟨P1, 0, none⟩ = some (.int .i64 2) := cell_of_row X _ 0 _ _ _ ((hG.block _ (hlt Xr.out) (by simpa using nR)).trans Xr.out)
    have x5 := fun (v : GW X) => (gw_blk hBk v i).trans hcy
    have z5 := fun (v : GW X) => (gw_blk hBk v j).trans hcz
    have p5 := fun (v : GW X) => gw_cells hx2 v 0
    have u5 := fun (v : GW X) => gw_cells hx2 v 1
    have HG := Lib.hid hG
    have HBk := Lib.hid hBk
    have Hy := Lib.hid hcy
    have Hz := Lib.hid hcz
    clear hG hBk hi hj hy hz ty tz hcy hcz hlen16 hx2 hrr
    gi_wp2
    refine wpIn_region_pairs (v0 := .int .i64 (i : Int)) (v1 := .int .i64 (j : Int)) rfl rfl rfl rfl rfl rfl rfl rfl (by kernel_rfl) (by kernel_rfl) (by kernel_rfl) ?_ ?_ (.inl ⟨by rfl, fun W => by go_simp⟩) (.inl ⟨by rfl, fun W => by go_simp⟩) ?_
    · rintro ⟨a, w, h⟩
      exact h
    · intro c a' w' d v h
      exact h
    simp only [List.take_succ_cons, List.take_zero, List.drop_succ_cons, List.drop_zero]
    go_simp
    repeat (first | go_big_quiet_step ((go_at_call 91; exact calm_call (HT.out _))))
    refine wpQuiet_nil ?_
    refine ⟨.int .i64 Zz, .inl ⟨by rfl, fun W => by go_simp⟩, ?_⟩
    rintro ⟨X5, hb5⟩
    dsimp only
    have hB5 := HBk.out.below hb5 HBk.out.lt
    have HB5 := Lib.hid hB5
    have HG5 := Lib.hid (below_grown (row := some (w.heap.size + 1)) hb5)
    have ce : X5.cell? ⟨w.heap.size + 1, i, none⟩ = some (.int .i64 y) := (hB5.cell i).trans Hy.out
    have fz := hB5.frozen i
    have S1 := Lib.hid (hB5.set_ i (.int .i64 Y))
    have ce2 : (X5.setCell ⟨w.heap.size + 1, i, none⟩ (.int .i64 Y)).cell? ⟨w.heap.size + 1, j, none⟩ = some (.int .i64 z) := by rw [S1.out.cell, List.getElem?_set, if_neg hne]; exact Hz.out
    have fz2 := S1.out.frozen j
    clear hb5 hB5 x5 z5 p5 u5
    go_wp2
    have G : X.grownBy ((X5.setCell ⟨w.heap.size + 1, i, none⟩ (.int .i64 Y)).setCell ⟨w.heap.size + 1, j, none⟩ (.int .i64 Zz)) (some (w.heap.size + 1)) := (HG5.out.trans (grown_set _)).trans (grown_set _)
    exact ⟨KeepsFrom.of_grownBy G (fun j e => by cases e; exact zB), ⟨G.block Br (Nat.lt_of_lt_of_le gBr HG.out.size) (by simpa using nBr), G.block Bn (Nat.lt_of_lt_of_le gBn HG.out.size) (by simpa using nBn)⟩, HG.out.trans G, by rw [HSn.out]; exact HSet.out X5 HB5.out⟩
  rotate_left
  · intro D c pre X _ _ h
    exact h.elim
  rintro D1 ys X hDR rfl ⟨hG, hBk⟩ hK
  have d1 : w.heap.size + 3 ≤ D1 := by have := L.out.size; omega
  have y1 : D0 < D1 := by have := L.out.size; omega
  have v1 : D1 < X.heap.size := hlt hK
  have M1 := Lib.hid hK
  have M0 := Lib.hid ((hG.block _ (hlt (hkeep M0.out L.out)) (by simp; omega)).trans (hkeep M0.out L.out))
  have v0 : D0 < X.heap.size := hlt M0.out
  have NX := Lib.hid ((hG.block _ (hlt (hkeep N1.out L.out)) (by simp)).trans (hkeep N1.out L.out))
  have BX := Lib.hid (show Blk X (w.heap.size + 1) 74 ((stU 2 S1).map (.int .i64)) from hBk)
  have ZX := Lib.hid ((hG.block _ (hlt (hkeep Z1.out L.out)) (by simp)).trans (hkeep Z1.out L.out))
  have zX : w.heap.size + 3 ≤ X.heap.size := by have := L.out.size; have := hG.size; omega
  have LX := Lib.hid ((bnext L1.out L.out).grown hG (by have := L.out.size; omega) (fun k e => by cases e; omega))
  have Hb2 := Lib.hid (stU_len (r := 2) (by decide) Hb1.out)
  have Hl2 := Lib.hid (stU_half (r := 2) (M := (3 * M + 9) / 2) (N := (9 * M + 56) / 4) Hb1.out Hl1.out (by have := HM0.out; omega) (by decide))
  have cr : X.cell? ⟨P1, 0, none⟩ = some (.int .i64 2) := cell_of_row X _ 0 _ _ _ ((hG.block _ (hlt Xr.out) (by simpa using nR)).trans Xr.out)
  obtain ⟨S2, hSq⟩ : ∃ S, stU 2 S1 = S := ⟨_, rfl⟩
  rw [hSq] at BX Hb2 Hl2
  have E2 := Lib.hid hSq
  clear hSq hG hBk hK hDR L Xr XB gBr gBn nBr nBn zB nR KBr KBn z1 N1 B1 Z1 L1 Hb1 Hl1 X1 p1
  go_wp2_with fail
  obtain ⟨V2, hVn⟩ : ∃ V, X.alloc (.cells #[.int .i64 1] 3) = V := ⟨_, rfl⟩
  rw [hVn]
  have N2 := Lib.hid (hVn ▸ hkeep NX.out (bnew X (.cells #[.int .i64 1] 3)))
  have B2 := Lib.hid (hVn ▸ BX.out.alloc (.cells #[.int .i64 1] 3))
  have Z2 := Lib.hid (hVn ▸ hkeep ZX.out (bnew X (.cells #[.int .i64 1] 3)))
  have X2 := Lib.hid (hVn ▸ heap_alloc_new X (.cells #[.int .i64 1] 3))
  have L2 := Lib.hid (hVn ▸ bnext LX.out (bnew X (.cells #[.int .i64 1] 3)))
  have z2 : w.heap.size + 3 ≤ V2.heap.size := by rw [← hVn, World.size_alloc]; omega
  have M0 := Lib.hid (hVn ▸ hkeep M0.out (bnew X (.cells #[.int .i64 1] 3)))
  have v0 : D0 < V2.heap.size := hlt M0.out
  have M1 := Lib.hid (hVn ▸ hkeep M1.out (bnew X (.cells #[.int .i64 1] 3)))
  have v1 : D1 < V2.heap.size := hlt M1.out
  obtain ⟨P2, hPn⟩ : ∃ P, X.heap.size = P := ⟨_, rfl⟩
  rw [hPn] at X2 ⊢
  have p2 : w.heap.size + 3 ≤ P2 := by omega
  clear hVn hPn NX BX ZX LX cr zX
  -- round 1
  have HP := Lib.hid (fun W => pairs_any tv 1 W)
  rw [rounds_succ]
  have c5 : V2.cell? ⟨P2, 0, none⟩ = some (.int .i64 1) := cell_of_row _ _ 0 _ _ _ X2.out
  go_wp2_with (first | (go_at_call 80; fail) | (refine wpList_load_row_w rfl 58 (.tmp 2) rfl w.heap.size rfl _ tv _ _ N2.out Tryz.underlying58 rfl HFt.out ?_))
  refine (HP.out _).mono ?_
  clear HP c5
  rintro e W2 ⟨Br, Bn, rfl, hz1, hz2, hBr, hBn, hb1⟩
  have L := Lib.hid hb1
  have Xr := Lib.hid (hkeep X2.out hb1)
  have XB := Lib.hid (B2.out.below L.out B2.out.lt)
  have gBr := hlt hBr
  have gBn := hlt hBn
  have nBr : Br ≠ w.heap.size + 1 := by omega
  have nBn : Bn ≠ w.heap.size + 1 := by omega
  have zB : w.heap.size + 1 < W2.heap.size := by have := L.out.size; omega
  have nR : P2 ≠ w.heap.size + 1 := by omega
  have KBr := Lib.hid hBr
  have KBn := Lib.hid hBn
  clear hb1 hz1 hz2 hBr hBn
  go_wp2_with fail
  refine (wpIn_wide (n := 4)).1 ?_
  refine wpIn_rangeFunc_ownH (n := 4) rfl (by decide) (gf := 102) (lb := #[.pointer (some ⟨Br, 0, none⟩), .pointer (some ⟨Bn, 0, none⟩)]) rfl trivial (enters_of Tryz.func102 (by kernel_rfl) rfl) (pairs_stops 1 Br Bn tv W2 (by decide) Ht.out KBr.out KBn.out) kp2_t (kp2_b gBr gBn) (Below.refl _ _) (fun _ => rfl)
    (fun (pre : List (PI 1)) X => W2.grownBy X (some (w.heap.size + 1)) ∧ Blk X (w.heap.size + 1) 74 ((pre.foldl (stepU 1) S2).map (.int .i64))) (fun _ _ _ => False)
    (ownFrom_only (fun (pre : List (PI 1)) => (pre.foldl (stepU 1) S2).map (.int .i64)) zB) (fun _ _ _ _ _ h _ _ => h) ⟨below_grown (Below.refl _ _), XB.out⟩
    (fun (x : PI 1) a' X => ∃ Bx, W2.heap.size ≤ Bx ∧ X.heap[Bx]? = some (.cells #[.int .i64 (turnOf x.1 1).p, .int .i64 (turnOf x.1 1).u] 53 (0, 0)) ∧
      a' = { tmps := #[.agg tv, .agg bv, .pointer (some ⟨w.heap.size, 0, none⟩), .pointer (some ⟨w.heap.size + 1, 0, none⟩), .pointer (some ⟨w.heap.size + 1 + 1, 0, none⟩), .pointer (some ⟨P2, 0, none⟩), .int .i64 (x.1 : Int), .pointer (some ⟨Bx, 0, none⟩), undef, .int .i64 1, .bool true, .int .i64 2, .int .i64 1, .agg tv, .int .i64 1, .func (.func 102) #[] #[.pointer (some ⟨Br, 0, none⟩), .pointer (some ⟨Bn, 0, none⟩)], .int .i64 (x.1 : Int), .agg #[.int .i64 (turnOf x.1 1).p, .int .i64 (turnOf x.1 1).u], undef, undef, undef, undef, undef, undef, undef, undef, undef, undef, undef, undef, undef, undef, undef, undef, undef, undef, undef, .int .i64 2, undef], defers := [] })
    (fun x a' => ownFrom_box _) ?_ ?_ ?_ ?_
  · intro l pre x X K hI hK
    dsimp only [encP]
    gi_wp2
    exact hK _ _ ((KeepsOthers.alloc _ _).from _) (kp2_below (Nat.lt_of_lt_of_le gBr hI.1.size) (Nat.lt_of_lt_of_le gBn hI.1.size) (bnew _ _)) ⟨hI.1.trans (below_grown (bnew _ _)), hI.2.alloc _⟩ ⟨X.heap.size, hI.1.size, heap_alloc_new _ _, rfl⟩
  · rintro l pre x a' X hl ⟨rr, hrr⟩ ⟨hG, hBk⟩ ⟨Bx, hx1, hx2, rfl⟩ hlen
    have HLm := Lib.hid (foldU_lim (r := 1) (by decide) pre S2 _ Hb2.out Hl2.out)
    have hlen16 : (pre.foldl (stepU 1) S2).length = 16 := by rw [foldU_len]; exact Hb2.out
    have HSn := Lib.hid (show (pre ++ [x]).foldl (stepU 1) S2 = stepU 1 (pre.foldl (stepU 1) S2) x by rw [List.foldl_append]; rfl)
    obtain ⟨sb, hsb⟩ : ∃ sb, pre.foldl (stepU 1) S2 = sb := ⟨_, rfl⟩
    rw [hsb] at hBk HLm hlen16 HSn
    clear hsb
    have hi16 := x.2.1
    have hm := lead_mate (r := 1) (by decide) x
    have hor : bits .or .i64 (x.1 : Int) 2 = ((x.1 + 2 ^ 1 : Nat) : Int) := (or_pairF ⟨1, by decide⟩ ⟨x.1, hi16⟩ x.2.2).1
    have hne := mate_ne 1 x
    obtain ⟨y, hy⟩ := list_get hlen16 hi16
    obtain ⟨z, hz⟩ := list_get hlen16 hm
    have HLc := limN_le (M := (9 * M + 56) / 4) (by have := HM0.out; omega) hlen
    have ty : Turnable y := by have := HLm.out.turnable HLc hi16; rwa [bgt_get hy] at this
    have tz : Turnable z := by have := HLm.out.turnable HLc hm; rwa [bgt_get hz] at this
    have HT := Lib.hid (fun W => liftBack_any y z (turnOf x.1 1) W (turnK_ok (Nat.mod_lt _ (by decide))) ty tz)
    have HSet := Lib.hid (fun (W : World) (h : Blk W (w.heap.size + 1) 74 (sb.map (.int .i64))) => setU_step x (bgt_get hy) (bgt_get hz) rfl h)
    have hcy : (sb.map (Value.int .i64))[x.1]? = some (.int .i64 y) := by rw [List.getElem?_map, hy]; rfl
    have hcz : (sb.map (Value.int .i64))[x.1 + 2 ^ 1]? = some (.int .i64 z) := by rw [List.getElem?_map, hz]; rfl
    generalize unA y z (turnOf x.1 1) = Y at *
    generalize unB y z (turnOf x.1 1) = Zz at *
    generalize turnOf x.1 1 = tk at *
    obtain ⟨p, u⟩ := tk
    simp only at HT hx2
    obtain ⟨i, hi⟩ : ∃ i : Nat, x.1 = i := ⟨_, rfl⟩
    obtain ⟨j, hj⟩ : ∃ j : Nat, x.1 + 2 ^ 1 = j := ⟨_, rfl⟩
    rw [hj] at hm hor hne hcz HSet
    rw [hi] at hi16 hor hne hcy HSet ⊢
    have q1 : (0 : Int) ≤ (i : Int) := by omega
    have q2 : (i : Int) < 16 := by omega
    have q3 : (0 : Int) ≤ (j : Int) := by omega
    have q4 : (j : Int) < 16 := by omega
    have cr : X.cell? ⟨P2, 0, none⟩ = some (.int .i64 1) := cell_of_row X _ 0 _ _ _ ((hG.block _ (hlt Xr.out) (by simpa using nR)).trans Xr.out)
    have x5 := fun (v : GW X) => (gw_blk hBk v i).trans hcy
    have z5 := fun (v : GW X) => (gw_blk hBk v j).trans hcz
    have p5 := fun (v : GW X) => gw_cells hx2 v 0
    have u5 := fun (v : GW X) => gw_cells hx2 v 1
    have HG := Lib.hid hG
    have HBk := Lib.hid hBk
    have Hy := Lib.hid hcy
    have Hz := Lib.hid hcz
    clear hG hBk hi hj hy hz ty tz hcy hcz hlen16 hx2 hrr
    gi_wp2
    refine wpIn_region_pairs (v0 := .int .i64 (i : Int)) (v1 := .int .i64 (j : Int)) rfl rfl rfl rfl rfl rfl rfl rfl (by kernel_rfl) (by kernel_rfl) (by kernel_rfl) ?_ ?_ (.inl ⟨by rfl, fun W => by go_simp⟩) (.inl ⟨by rfl, fun W => by go_simp⟩) ?_
    · rintro ⟨a, w, h⟩
      exact h
    · intro c a' w' d v h
      exact h
    simp only [List.take_succ_cons, List.take_zero, List.drop_succ_cons, List.drop_zero]
    go_simp
    repeat (first | go_big_quiet_step ((go_at_call 91; exact calm_call (HT.out _))))
    refine wpQuiet_nil ?_
    refine ⟨.int .i64 Zz, .inl ⟨by rfl, fun W => by go_simp⟩, ?_⟩
    rintro ⟨X5, hb5⟩
    dsimp only
    have hB5 := HBk.out.below hb5 HBk.out.lt
    have HB5 := Lib.hid hB5
    have HG5 := Lib.hid (below_grown (row := some (w.heap.size + 1)) hb5)
    have ce : X5.cell? ⟨w.heap.size + 1, i, none⟩ = some (.int .i64 y) := (hB5.cell i).trans Hy.out
    have fz := hB5.frozen i
    have S1 := Lib.hid (hB5.set_ i (.int .i64 Y))
    have ce2 : (X5.setCell ⟨w.heap.size + 1, i, none⟩ (.int .i64 Y)).cell? ⟨w.heap.size + 1, j, none⟩ = some (.int .i64 z) := by rw [S1.out.cell, List.getElem?_set, if_neg hne]; exact Hz.out
    have fz2 := S1.out.frozen j
    clear hb5 hB5 x5 z5 p5 u5
    go_wp2
    have G : X.grownBy ((X5.setCell ⟨w.heap.size + 1, i, none⟩ (.int .i64 Y)).setCell ⟨w.heap.size + 1, j, none⟩ (.int .i64 Zz)) (some (w.heap.size + 1)) := (HG5.out.trans (grown_set _)).trans (grown_set _)
    exact ⟨KeepsFrom.of_grownBy G (fun j e => by cases e; exact zB), ⟨G.block Br (Nat.lt_of_lt_of_le gBr HG.out.size) (by simpa using nBr), G.block Bn (Nat.lt_of_lt_of_le gBn HG.out.size) (by simpa using nBn)⟩, HG.out.trans G, by rw [HSn.out]; exact HSet.out X5 HB5.out⟩
  rotate_left
  · intro D c pre X _ _ h
    exact h.elim
  rintro D2 ys X hDR rfl ⟨hG, hBk⟩ hK
  have d2 : w.heap.size + 3 ≤ D2 := by have := L.out.size; omega
  have y2 : D1 < D2 := by have := L.out.size; omega
  have v2 : D2 < X.heap.size := hlt hK
  have M2 := Lib.hid hK
  have M0 := Lib.hid ((hG.block _ (hlt (hkeep M0.out L.out)) (by simp; omega)).trans (hkeep M0.out L.out))
  have v0 : D0 < X.heap.size := hlt M0.out
  have M1 := Lib.hid ((hG.block _ (hlt (hkeep M1.out L.out)) (by simp; omega)).trans (hkeep M1.out L.out))
  have v1 : D1 < X.heap.size := hlt M1.out
  have NX := Lib.hid ((hG.block _ (hlt (hkeep N2.out L.out)) (by simp)).trans (hkeep N2.out L.out))
  have BX := Lib.hid (show Blk X (w.heap.size + 1) 74 ((stU 1 S2).map (.int .i64)) from hBk)
  have ZX := Lib.hid ((hG.block _ (hlt (hkeep Z2.out L.out)) (by simp)).trans (hkeep Z2.out L.out))
  have zX : w.heap.size + 3 ≤ X.heap.size := by have := L.out.size; have := hG.size; omega
  have LX := Lib.hid ((bnext L2.out L.out).grown hG (by have := L.out.size; omega) (fun k e => by cases e; omega))
  have Hb3 := Lib.hid (stU_len (r := 1) (by decide) Hb2.out)
  have Hl3 := Lib.hid (stU_half (r := 1) (M := (9 * M + 56) / 4) (N := (27 * M + 238) / 8) Hb2.out Hl2.out (by have := HM0.out; omega) (by decide))
  have cr : X.cell? ⟨P2, 0, none⟩ = some (.int .i64 1) := cell_of_row X _ 0 _ _ _ ((hG.block _ (hlt Xr.out) (by simpa using nR)).trans Xr.out)
  obtain ⟨S3, hSq⟩ : ∃ S, stU 1 S2 = S := ⟨_, rfl⟩
  rw [hSq] at BX Hb3 Hl3
  have E3 := Lib.hid hSq
  clear hSq hG hBk hK hDR L Xr XB gBr gBn nBr nBn zB nR KBr KBn z2 N2 B2 Z2 L2 Hb2 Hl2 X2 p2
  go_wp2_with fail
  obtain ⟨V3, hVn⟩ : ∃ V, X.alloc (.cells #[.int .i64 0] 3) = V := ⟨_, rfl⟩
  rw [hVn]
  have N3 := Lib.hid (hVn ▸ hkeep NX.out (bnew X (.cells #[.int .i64 0] 3)))
  have B3 := Lib.hid (hVn ▸ BX.out.alloc (.cells #[.int .i64 0] 3))
  have Z3 := Lib.hid (hVn ▸ hkeep ZX.out (bnew X (.cells #[.int .i64 0] 3)))
  have X3 := Lib.hid (hVn ▸ heap_alloc_new X (.cells #[.int .i64 0] 3))
  have L3 := Lib.hid (hVn ▸ bnext LX.out (bnew X (.cells #[.int .i64 0] 3)))
  have z3 : w.heap.size + 3 ≤ V3.heap.size := by rw [← hVn, World.size_alloc]; omega
  have M0 := Lib.hid (hVn ▸ hkeep M0.out (bnew X (.cells #[.int .i64 0] 3)))
  have v0 : D0 < V3.heap.size := hlt M0.out
  have M1 := Lib.hid (hVn ▸ hkeep M1.out (bnew X (.cells #[.int .i64 0] 3)))
  have v1 : D1 < V3.heap.size := hlt M1.out
  have M2 := Lib.hid (hVn ▸ hkeep M2.out (bnew X (.cells #[.int .i64 0] 3)))
  have v2 : D2 < V3.heap.size := hlt M2.out
  obtain ⟨P3, hPn⟩ : ∃ P, X.heap.size = P := ⟨_, rfl⟩
  rw [hPn] at X3 ⊢
  have p3 : w.heap.size + 3 ≤ P3 := by omega
  clear hVn hPn NX BX ZX LX cr zX
  -- round 0
  have HP := Lib.hid (fun W => pairs_any tv 0 W)
  rw [rounds_succ]
  have c5 : V3.cell? ⟨P3, 0, none⟩ = some (.int .i64 0) := cell_of_row _ _ 0 _ _ _ X3.out
  go_wp2_with (first | (go_at_call 80; fail) | (refine wpList_load_row_w rfl 58 (.tmp 2) rfl w.heap.size rfl _ tv _ _ N3.out Tryz.underlying58 rfl HFt.out ?_))
  refine (HP.out _).mono ?_
  clear HP c5
  rintro e W3 ⟨Br, Bn, rfl, hz1, hz2, hBr, hBn, hb1⟩
  have L := Lib.hid hb1
  have Xr := Lib.hid (hkeep X3.out hb1)
  have XB := Lib.hid (B3.out.below L.out B3.out.lt)
  have gBr := hlt hBr
  have gBn := hlt hBn
  have nBr : Br ≠ w.heap.size + 1 := by omega
  have nBn : Bn ≠ w.heap.size + 1 := by omega
  have zB : w.heap.size + 1 < W3.heap.size := by have := L.out.size; omega
  have nR : P3 ≠ w.heap.size + 1 := by omega
  have KBr := Lib.hid hBr
  have KBn := Lib.hid hBn
  clear hb1 hz1 hz2 hBr hBn
  go_wp2_with fail
  refine (wpIn_wide (n := 4)).1 ?_
  refine wpIn_rangeFunc_ownH (n := 4) rfl (by decide) (gf := 102) (lb := #[.pointer (some ⟨Br, 0, none⟩), .pointer (some ⟨Bn, 0, none⟩)]) rfl trivial (enters_of Tryz.func102 (by kernel_rfl) rfl) (pairs_stops 0 Br Bn tv W3 (by decide) Ht.out KBr.out KBn.out) kp2_t (kp2_b gBr gBn) (Below.refl _ _) (fun _ => rfl)
    (fun (pre : List (PI 0)) X => W3.grownBy X (some (w.heap.size + 1)) ∧ Blk X (w.heap.size + 1) 74 ((pre.foldl (stepU 0) S3).map (.int .i64))) (fun _ _ _ => False)
    (ownFrom_only (fun (pre : List (PI 0)) => (pre.foldl (stepU 0) S3).map (.int .i64)) zB) (fun _ _ _ _ _ h _ _ => h) ⟨below_grown (Below.refl _ _), XB.out⟩
    (fun (x : PI 0) a' X => ∃ Bx, W3.heap.size ≤ Bx ∧ X.heap[Bx]? = some (.cells #[.int .i64 (turnOf x.1 0).p, .int .i64 (turnOf x.1 0).u] 53 (0, 0)) ∧
      a' = { tmps := #[.agg tv, .agg bv, .pointer (some ⟨w.heap.size, 0, none⟩), .pointer (some ⟨w.heap.size + 1, 0, none⟩), .pointer (some ⟨w.heap.size + 1 + 1, 0, none⟩), .pointer (some ⟨P3, 0, none⟩), .int .i64 (x.1 : Int), .pointer (some ⟨Bx, 0, none⟩), undef, .int .i64 0, .bool true, .int .i64 1, .int .i64 0, .agg tv, .int .i64 0, .func (.func 102) #[] #[.pointer (some ⟨Br, 0, none⟩), .pointer (some ⟨Bn, 0, none⟩)], .int .i64 (x.1 : Int), .agg #[.int .i64 (turnOf x.1 0).p, .int .i64 (turnOf x.1 0).u], undef, undef, undef, undef, undef, undef, undef, undef, undef, undef, undef, undef, undef, undef, undef, undef, undef, undef, undef, .int .i64 1, undef], defers := [] })
    (fun x a' => ownFrom_box _) ?_ ?_ ?_ ?_
  · intro l pre x X K hI hK
    dsimp only [encP]
    gi_wp2
    exact hK _ _ ((KeepsOthers.alloc _ _).from _) (kp2_below (Nat.lt_of_lt_of_le gBr hI.1.size) (Nat.lt_of_lt_of_le gBn hI.1.size) (bnew _ _)) ⟨hI.1.trans (below_grown (bnew _ _)), hI.2.alloc _⟩ ⟨X.heap.size, hI.1.size, heap_alloc_new _ _, rfl⟩
  · rintro l pre x a' X hl ⟨rr, hrr⟩ ⟨hG, hBk⟩ ⟨Bx, hx1, hx2, rfl⟩ hlen
    have HLm := Lib.hid (foldU_lim (r := 0) (by decide) pre S3 _ Hb3.out Hl3.out)
    have hlen16 : (pre.foldl (stepU 0) S3).length = 16 := by rw [foldU_len]; exact Hb3.out
    have HSn := Lib.hid (show (pre ++ [x]).foldl (stepU 0) S3 = stepU 0 (pre.foldl (stepU 0) S3) x by rw [List.foldl_append]; rfl)
    obtain ⟨sb, hsb⟩ : ∃ sb, pre.foldl (stepU 0) S3 = sb := ⟨_, rfl⟩
    rw [hsb] at hBk HLm hlen16 HSn
    clear hsb
    have hi16 := x.2.1
    have hm := lead_mate (r := 0) (by decide) x
    have hor : bits .or .i64 (x.1 : Int) 1 = ((x.1 + 2 ^ 0 : Nat) : Int) := (or_pairF ⟨0, by decide⟩ ⟨x.1, hi16⟩ x.2.2).1
    have hne := mate_ne 0 x
    obtain ⟨y, hy⟩ := list_get hlen16 hi16
    obtain ⟨z, hz⟩ := list_get hlen16 hm
    have HLc := limN_le (M := (27 * M + 238) / 8) (by have := HM0.out; omega) hlen
    have ty : Turnable y := by have := HLm.out.turnable HLc hi16; rwa [bgt_get hy] at this
    have tz : Turnable z := by have := HLm.out.turnable HLc hm; rwa [bgt_get hz] at this
    have HT := Lib.hid (fun W => liftBack_any y z (turnOf x.1 0) W (turnK_ok (Nat.mod_lt _ (by decide))) ty tz)
    have HSet := Lib.hid (fun (W : World) (h : Blk W (w.heap.size + 1) 74 (sb.map (.int .i64))) => setU_step x (bgt_get hy) (bgt_get hz) rfl h)
    have hcy : (sb.map (Value.int .i64))[x.1]? = some (.int .i64 y) := by rw [List.getElem?_map, hy]; rfl
    have hcz : (sb.map (Value.int .i64))[x.1 + 2 ^ 0]? = some (.int .i64 z) := by rw [List.getElem?_map, hz]; rfl
    generalize unA y z (turnOf x.1 0) = Y at *
    generalize unB y z (turnOf x.1 0) = Zz at *
    generalize turnOf x.1 0 = tk at *
    obtain ⟨p, u⟩ := tk
    simp only at HT hx2
    obtain ⟨i, hi⟩ : ∃ i : Nat, x.1 = i := ⟨_, rfl⟩
    obtain ⟨j, hj⟩ : ∃ j : Nat, x.1 + 2 ^ 0 = j := ⟨_, rfl⟩
    rw [hj] at hm hor hne hcz HSet
    rw [hi] at hi16 hor hne hcy HSet ⊢
    have q1 : (0 : Int) ≤ (i : Int) := by omega
    have q2 : (i : Int) < 16 := by omega
    have q3 : (0 : Int) ≤ (j : Int) := by omega
    have q4 : (j : Int) < 16 := by omega
    have cr : X.cell? ⟨P3, 0, none⟩ = some (.int .i64 0) := cell_of_row X _ 0 _ _ _ ((hG.block _ (hlt Xr.out) (by simpa using nR)).trans Xr.out)
    have x5 := fun (v : GW X) => (gw_blk hBk v i).trans hcy
    have z5 := fun (v : GW X) => (gw_blk hBk v j).trans hcz
    have p5 := fun (v : GW X) => gw_cells hx2 v 0
    have u5 := fun (v : GW X) => gw_cells hx2 v 1
    have HG := Lib.hid hG
    have HBk := Lib.hid hBk
    have Hy := Lib.hid hcy
    have Hz := Lib.hid hcz
    clear hG hBk hi hj hy hz ty tz hcy hcz hlen16 hx2 hrr
    gi_wp2
    refine wpIn_region_pairs (v0 := .int .i64 (i : Int)) (v1 := .int .i64 (j : Int)) rfl rfl rfl rfl rfl rfl rfl rfl (by kernel_rfl) (by kernel_rfl) (by kernel_rfl) ?_ ?_ (.inl ⟨by rfl, fun W => by go_simp⟩) (.inl ⟨by rfl, fun W => by go_simp⟩) ?_
    · rintro ⟨a, w, h⟩
      exact h
    · intro c a' w' d v h
      exact h
    simp only [List.take_succ_cons, List.take_zero, List.drop_succ_cons, List.drop_zero]
    go_simp
    repeat (first | go_big_quiet_step ((go_at_call 91; exact calm_call (HT.out _))))
    refine wpQuiet_nil ?_
    refine ⟨.int .i64 Zz, .inl ⟨by rfl, fun W => by go_simp⟩, ?_⟩
    rintro ⟨X5, hb5⟩
    dsimp only
    have hB5 := HBk.out.below hb5 HBk.out.lt
    have HB5 := Lib.hid hB5
    have HG5 := Lib.hid (below_grown (row := some (w.heap.size + 1)) hb5)
    have ce : X5.cell? ⟨w.heap.size + 1, i, none⟩ = some (.int .i64 y) := (hB5.cell i).trans Hy.out
    have fz := hB5.frozen i
    have S1 := Lib.hid (hB5.set_ i (.int .i64 Y))
    have ce2 : (X5.setCell ⟨w.heap.size + 1, i, none⟩ (.int .i64 Y)).cell? ⟨w.heap.size + 1, j, none⟩ = some (.int .i64 z) := by rw [S1.out.cell, List.getElem?_set, if_neg hne]; exact Hz.out
    have fz2 := S1.out.frozen j
    clear hb5 hB5 x5 z5 p5 u5
    go_wp2
    have G : X.grownBy ((X5.setCell ⟨w.heap.size + 1, i, none⟩ (.int .i64 Y)).setCell ⟨w.heap.size + 1, j, none⟩ (.int .i64 Zz)) (some (w.heap.size + 1)) := (HG5.out.trans (grown_set _)).trans (grown_set _)
    exact ⟨KeepsFrom.of_grownBy G (fun j e => by cases e; exact zB), ⟨G.block Br (Nat.lt_of_lt_of_le gBr HG.out.size) (by simpa using nBr), G.block Bn (Nat.lt_of_lt_of_le gBn HG.out.size) (by simpa using nBn)⟩, HG.out.trans G, by rw [HSn.out]; exact HSet.out X5 HB5.out⟩
  rotate_left
  · intro D c pre X _ _ h
    exact h.elim
  rintro D3 ys X hDR rfl ⟨hG, hBk⟩ hK
  have d3 : w.heap.size + 3 ≤ D3 := by have := L.out.size; omega
  have y3 : D2 < D3 := by have := L.out.size; omega
  have v3 : D3 < X.heap.size := hlt hK
  have M3 := Lib.hid hK
  have M0 := Lib.hid ((hG.block _ (hlt (hkeep M0.out L.out)) (by simp; omega)).trans (hkeep M0.out L.out))
  have v0 : D0 < X.heap.size := hlt M0.out
  have M1 := Lib.hid ((hG.block _ (hlt (hkeep M1.out L.out)) (by simp; omega)).trans (hkeep M1.out L.out))
  have v1 : D1 < X.heap.size := hlt M1.out
  have M2 := Lib.hid ((hG.block _ (hlt (hkeep M2.out L.out)) (by simp; omega)).trans (hkeep M2.out L.out))
  have v2 : D2 < X.heap.size := hlt M2.out
  have NX := Lib.hid ((hG.block _ (hlt (hkeep N3.out L.out)) (by simp)).trans (hkeep N3.out L.out))
  have BX := Lib.hid (show Blk X (w.heap.size + 1) 74 ((stU 0 S3).map (.int .i64)) from hBk)
  have ZX := Lib.hid ((hG.block _ (hlt (hkeep Z3.out L.out)) (by simp)).trans (hkeep Z3.out L.out))
  have zX : w.heap.size + 3 ≤ X.heap.size := by have := L.out.size; have := hG.size; omega
  have LX := Lib.hid ((bnext L3.out L.out).grown hG (by have := L.out.size; omega) (fun k e => by cases e; omega))
  have Hb4 := Lib.hid (stU_len (r := 0) (by decide) Hb3.out)
  have Hl4 := Lib.hid (stU_half (r := 0) (M := (27 * M + 238) / 8) (N := 6 * M + 60) Hb3.out Hl3.out (by have := HM0.out; omega) (by decide))
  have cr : X.cell? ⟨P3, 0, none⟩ = some (.int .i64 0) := cell_of_row X _ 0 _ _ _ ((hG.block _ (hlt Xr.out) (by simpa using nR)).trans Xr.out)
  obtain ⟨S4, hSq⟩ : ∃ S, stU 0 S3 = S := ⟨_, rfl⟩
  rw [hSq] at BX Hb4 Hl4
  have E4 := Lib.hid hSq
  clear hSq hG hBk hK hDR L Xr XB gBr gBn nBr nBn zB nR KBr KBn z3 N3 B3 Z3 L3 Hb3 Hl3 X3 p3
  go_wp2_with fail
  obtain ⟨V4, hVn⟩ : ∃ V, X.alloc (.cells #[.int .i64 (-1)] 3) = V := ⟨_, rfl⟩
  rw [hVn]
  have N4 := Lib.hid (hVn ▸ hkeep NX.out (bnew X (.cells #[.int .i64 (-1)] 3)))
  have B4 := Lib.hid (hVn ▸ BX.out.alloc (.cells #[.int .i64 (-1)] 3))
  have Z4 := Lib.hid (hVn ▸ hkeep ZX.out (bnew X (.cells #[.int .i64 (-1)] 3)))
  have X4 := Lib.hid (hVn ▸ heap_alloc_new X (.cells #[.int .i64 (-1)] 3))
  have L4 := Lib.hid (hVn ▸ bnext LX.out (bnew X (.cells #[.int .i64 (-1)] 3)))
  have z4 : w.heap.size + 3 ≤ V4.heap.size := by rw [← hVn, World.size_alloc]; omega
  have M0 := Lib.hid (hVn ▸ hkeep M0.out (bnew X (.cells #[.int .i64 (-1)] 3)))
  have v0 : D0 < V4.heap.size := hlt M0.out
  have M1 := Lib.hid (hVn ▸ hkeep M1.out (bnew X (.cells #[.int .i64 (-1)] 3)))
  have v1 : D1 < V4.heap.size := hlt M1.out
  have M2 := Lib.hid (hVn ▸ hkeep M2.out (bnew X (.cells #[.int .i64 (-1)] 3)))
  have v2 : D2 < V4.heap.size := hlt M2.out
  have M3 := Lib.hid (hVn ▸ hkeep M3.out (bnew X (.cells #[.int .i64 (-1)] 3)))
  have v3 : D3 < V4.heap.size := hlt M3.out
  obtain ⟨P4, hPn⟩ : ∃ P, X.heap.size = P := ⟨_, rfl⟩
  rw [hPn] at X4 ⊢
  have p4 : w.heap.size + 3 ≤ P4 := by omega
  clear hVn hPn NX BX ZX LX cr zX
  rw [rounds_succ]
  have hfs := Hb4.out
  have c5 : V4.cell? ⟨P4, 0, none⟩ = some (.int .i64 (-1)) := cell_of_row _ _ 0 _ _ _ X4.out
  have HE := Lib.hid (show stU 0 (stU 1 (stU 2 (stU 3 b))) = S4 by rw [E1.out, E2.out, E3.out, E4.out])
  have hsz : (S4.map (Value.int .i64)).toArray.size = 16 := by simp [hfs]
  have H1 := Lib.hid (ints_one S4)
  have HB4 := Lib.hid (show V4.heap[w.heap.size + 1]? = some (.cells (S4.map (Value.int .i64)).toArray 74 (0, 0)) from B4.out)
  obtain ⟨xs, hxs⟩ : ∃ xs, (S4.map (Value.int .i64)).toArray = xs := ⟨_, rfl⟩
  rw [hxs] at hsz H1 HB4
  have HF := Lib.hid (show (Tryz.prog.info? 74).map (·.size) = some xs.size by rw [hsz]; exact inf_block)
  have HEx := Lib.hid hxs
  have Hsz := Lib.hid (show (16 : Nat) = xs.size from hsz.symm)
  clear hsz hxs hfs
  go_wp2_with (first | (refine wpList_load_row_w rfl 74 (.tmp 3) rfl (w.heap.size + 1) rfl _ xs _ _ HB4.out Tryz.underlying74 rfl HF.out ?_) | (refine wpList_store_row_w rfl 74 (.tmp 4) (.tmp 38) rfl (w.heap.size + 1 + 1) rfl _ _ xs rfl Z4.out HF.out (by exact Hsz.out) H1.out ?_))
  have o3 := fun k (hk : k ≠ w.heap.size + 1 + 1) => setRow_other V4 (w.heap.size + 1 + 1) k xs hk
  refine leaves_four ((o3 D3 (by omega)).trans M3.out) ((o3 D2 (by omega)).trans M2.out) ((o3 D1 (by omega)).trans M1.out) ((o3 D0 (by omega)).trans M0.out) (by omega) (by omega) (by omega) ?_
  refine ⟨.agg xs, results_cell_row Tryz.results59 _ _ (w.heap.size + 1 + 1) 74 xs (0, 0) _ rfl ((World.putObj_heap_other (by omega)).trans ((World.putObj_heap_other (by omega)).trans ((World.putObj_heap_other (by omega)).trans ((World.putObj_heap_other (by omega)).trans (setRow_at V4 _ _ _ xs Z4.out))))) Tryz.underlying74 rfl HF.out, ?_⟩
  exact ⟨by rw [HE.out, HEx.out], put_below (put_below (put_below (put_below (setRow_below L4.out _ (by omega) _) (by omega) _) (by omega) _) (by omega) _) (by omega) _⟩
end Go.Proofs.YtbgkoopfdfnmcaaGreat
