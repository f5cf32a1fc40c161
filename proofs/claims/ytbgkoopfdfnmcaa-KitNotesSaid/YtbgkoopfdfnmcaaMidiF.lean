/- Contract of the note of layer 38's law; conditions: as each theorem states. -/
import Derived.Test.YtbgkoopfdfnmcaaMidiE
import Derived.Test.YtbgkoopfdfnmcaaKitC
namespace Go.Proofs.Ytbgkoopfdfnmcaa
open Go.RowKit

set_option maxRecDepth 100000 in
set_option maxHeartbeats 16000000 in
theorem lawnote38_any (zs : List ZoneV) (A : Option Addr) (cap : Nat) (s : SpanV) (w : World) (hl : zs.length ≤ 1000) (hk4 : Row w w.heap.size A (zoneCells zs)) (hok : ∀ z ∈ zs, z.ok = true) (hs : (0 ≤ s.key ∧ s.key ≤ 127) ∧ (0 ≤ s.hard ∧ s.hard ≤ 127) ∧ (0 ≤ s.from_ ∧ s.from_ ≤ 268435455) ∧ 0 ≤ s.to_ ∧ s.to_ ≤ 268435455) :
    Calls Try.prog 11 #[.slice A zs.length cap, .agg s.cells.toArray] w fun e w' => e = .returned (.tuple #[.agg (noteZ zs s).1.cells.toArray, .bool (noteZ zs s).2]) ∧ Below w.heap.size w w' := by
  obtain ⟨sc, sk, sf, st, sh⟩ := s
  have HN := Lib.hid (show noteZ zs ⟨sc, sk, sf, st, sh⟩ = if findZ sk sh zs < 0 then (zeroNote, false) else match zs[(findZ sk sh zs).toNat]? with | some z => if (noteOf z ⟨sc, sk, sf, st, sh⟩).check = 0 then (noteOf z ⟨sc, sk, sf, st, sh⟩, true) else (zeroNote, false) | none => (zeroNote, false) from rfl)
  have HFi := Lib.hid (fun W (hW : Below w.heap.size w W) => ((lawfind_any zs A cap sk sh W (by omega) (hk4.later hW)).mono fun e w' h => (show e = .returned (.int .i64 (findZ sk sh zs)) ∧ Below W.heap.size W w' from ⟨h.1, by rw [← h.2]; exact Below.refl _ _⟩)))
  simp only at hs
  show Calls Try.prog 11 #[.slice A zs.length cap, .agg #[.int .i64 sc, .int .i64 sk, .int .i64 sf, .int .i64 st, .int .i64 sh]] w _
  have HFn := Lib.hid (show (Try.prog.info? 38).map (·.size) = some 9 by kernel_rfl)
  by_cases hneg : findZ sk sh zs < 0
  · have t1 : decide (findZ sk sh zs < 0) = true := decide_eq_true hneg
    have HN2 := Lib.hid (show noteZ zs ⟨sc, sk, sf, st, sh⟩ = (zeroNote, false) by rw [HN.out, if_pos hneg])
    generalize findZ sk sh zs = fz at *
    clear hneg HN hk4
    go_enter Try.func11, Try.ntmps11
    go_wp2_with (go_at_call 30; fail)
    refine (HFi.out _ (bnext (bnew w _) (bnew _ _))).mono ?_
    rintro e w3 ⟨rfl, hb3⟩
    have HR := Lib.hid (show Blk w3 (w.heap.size + 1) 38 zeroNote.cells from (show Blk _ (w.heap.size + 1) 38 zeroNote.cells from by
      have h := Blk.new (w.alloc (.cells #[.int .i64 sc, .int .i64 sk, .int .i64 sf, .int .i64 st, .int .i64 sh] 42)) 38 zeroNote.cells
      rwa [World.size_alloc] at h).below hb3 (by simp))
    have E3 := Lib.hid (bnext (bnext (bnew w (.cells #[.int .i64 sc, .int .i64 sk, .int .i64 sf, .int .i64 st, .int .i64 sh] 42)) (bnew _ (.cells zeroNote.cells.toArray 38))) hb3)
    clear hb3
    have x4 : ∀ i, w3.cell? ⟨w.heap.size + 1, i, none⟩ = ([.int .i64 0, .string ⟨#[]⟩, .int .i64 0, .int .i64 0, .int .i64 0, .int .i64 0, .int .i64 0, .int .i64 0, .int .i64 0] : List Value)[i]? := blk_cells HR.out
    have y4 := blk_free HR.out
    obtain ⟨w9, hw9⟩ : ∃ w9, (((((((((w3.setCell ⟨w.heap.size + 1, 0, none⟩ (.int .i64 0)).setCell ⟨w.heap.size + 1, 1, none⟩ (.string ⟨#[]⟩)).setCell ⟨w.heap.size + 1, 2, none⟩ (.int .i64 0)).setCell ⟨w.heap.size + 1, 3, none⟩ (.int .i64 0)).setCell ⟨w.heap.size + 1, 4, none⟩ (.int .i64 0)).setCell ⟨w.heap.size + 1, 5, none⟩ (.int .i64 0)).setCell ⟨w.heap.size + 1, 6, none⟩ (.int .i64 0)).setCell ⟨w.heap.size + 1, 7, none⟩ (.int .i64 0)).setCell ⟨w.heap.size + 1, 8, none⟩ (.int .i64 0)) = w9 := ⟨_, rfl⟩
    have H9 := Lib.hid (show Blk w9 (w.heap.size + 1) 38 zeroNote.cells by rw [← hw9]; exact (((((((((HR.out.set_ 0 _).set_ 1 _).set_ 2 _).set_ 3 _).set_ 4 _).set_ 5 _).set_ 6 _).set_ 7 _).set_ 8 _))
    have E9 := Lib.hid (show Below w.heap.size w w9 by
      rw [← hw9]
      repeat (refine Below.setCell ?_ (by show w.heap.size ≤ w.heap.size + 1; omega) _)
      exact E3.out)
    go_wp2
    refine bodyPost_ret (v := .tuple #[.agg zeroNote.cells.toArray, .bool false]) (results_cell_tmp2 Try.results11 _ _ (w.heap.size + 1) 38 zeroNote.cells.toArray (0, 0) _ _ rfl rfl H9.out Try.underlying38 rfl HFn.out) rfl ?_
    exact ⟨by rw [HN2.out], E9.out⟩
  · obtain ⟨i, hfi, hil⟩ := findZ_lt hneg
    obtain ⟨z, hz⟩ := list_get (k := i) rfl hil
    have hzk := hok z (List.mem_of_getElem? hz)
    have HN2 := Lib.hid (show noteZ zs ⟨sc, sk, sf, st, sh⟩ = if (noteOf z ⟨sc, sk, sf, st, sh⟩).check = 0 then (noteOf z ⟨sc, sk, sf, st, sh⟩, true) else (zeroNote, false) by
      rw [HN.out, if_neg hneg, hfi, Int.toNat_natCast, hz])
    have t1 : decide (findZ sk sh zs < 0) = false := decide_eq_false hneg
    obtain ⟨b, off, rfl, hb, hc⟩ := zone_at hk4 hz
    obtain ⟨low, high, soft, hd, znm, root, loud, sa, sd, ss, sr⟩ := z
    have hzb : (0 ≤ root ∧ root ≤ 127) ∧ 0 ≤ loud ∧ loud ≤ 256 := by
      unfold ZoneV.ok sevenB at hzk
      simp only [Bool.and_eq_true, decide_eq_true_eq] at hzk
      omega
    obtain ⟨⟨hr1, hr2⟩, hv1, hv2⟩ := hzb
    obtain ⟨⟨hs1, hs2⟩, ⟨hs3, hs4⟩, ⟨hs5, hs6⟩, hs7, hs8⟩ := hs
    have hprod : 0 ≤ loud * sh ∧ loud * sh ≤ 256 * 127 := ⟨Int.mul_nonneg hv1 hs3, Int.le_trans (Int.mul_le_mul_of_nonneg_right hv2 hs3) (by omega)⟩
    obtain ⟨hp1, hp2⟩ := hprod
    have hwm : IntKind.i64.wrap (loud * sh) = loud * sh := IntWalk.i64_in _ (by omega)
    obtain ⟨stp, hstp⟩ : ∃ stp, sk - root = stp := ⟨_, rfl⟩
    obtain ⟨ln, hln⟩ : ∃ ln, st - sf = ln := ⟨_, rfl⟩
    obtain ⟨vol, hvol⟩ : ∃ vol, loud * sh / 127 = vol := ⟨_, rfl⟩
    have hw1' : IntKind.i64.wrap (sk - root) = stp := by rw [IntWalk.i64_in _ (by omega)]; exact hstp
    have hw2' : IntKind.i64.wrap (st - sf) = ln := by rw [IntWalk.i64_in _ (by omega)]; exact hln
    have hno : noteOf ⟨low, high, soft, hd, znm, root, loud, sa, sd, ss, sr⟩ ⟨sc, sk, sf, st, sh⟩ = ⟨sf, znm, stp, ln, vol, sa, sd, ss, sr⟩ := by
      unfold noteOf
      simp only [hstp, hln, hvol]
    rw [hno] at HN2
    have HCk := Lib.hid (fun W => tuneCheck_any ⟨sf, znm, stp, ln, vol, sa, sd, ss, sr⟩ W)
    generalize NoteV.check ⟨sf, znm, stp, ln, vol, sa, sd, ss, sr⟩ = C at *
    rw [hfi] at HFi t1
    have HFs := Lib.hid (show (Try.prog.info? 67).map (·.size) = some 11 by kernel_rfl)
    have t2 : (i : Int) < (zs.length : Int) := by omega
    have t3 : (0 : Int) ≤ (i : Int) := by omega
    generalize zs.length = nz at *
    clear hneg HN hz hzk hno hfi
    go_enter Try.func11, Try.ntmps11
    go_wp2_with (go_at_call 30; fail)
    refine (HFi.out _ (bnext (bnew w _) (bnew _ _))).mono ?_
    rintro e w3 ⟨rfl, hb3⟩
    have HR := Lib.hid (show Blk w3 (w.heap.size + 1) 38 zeroNote.cells from (show Blk _ (w.heap.size + 1) 38 zeroNote.cells from by
      have h := Blk.new (w.alloc (.cells #[.int .i64 sc, .int .i64 sk, .int .i64 sf, .int .i64 st, .int .i64 sh] 42)) 38 zeroNote.cells
      rwa [World.size_alloc] at h).below hb3 (by simp))
    have HSb := Lib.hid (show Blk w3 w.heap.size 42 [.int .i64 sc, .int .i64 sk, .int .i64 sf, .int .i64 st, .int .i64 sh] from (show Blk _ w.heap.size 42 [.int .i64 sc, .int .i64 sk, .int .i64 sf, .int .i64 st, .int .i64 sh] from
      (Blk.new w 42 [.int .i64 sc, .int .i64 sk, .int .i64 sf, .int .i64 st, .int .i64 sh]).alloc (.cells zeroNote.cells.toArray 38)).below hb3 (by simp; omega))
    have E3 := Lib.hid (bnext (bnext (bnew w (.cells #[.int .i64 sc, .int .i64 sk, .int .i64 sf, .int .i64 st, .int .i64 sh] 42)) (bnew _ (.cells zeroNote.cells.toArray 38))) hb3)
    have HZc := Lib.hid (fun j v (hv : ([.int .i64 low, .int .i64 high, .int .i64 soft, .int .i64 hd, .string znm, .int .i64 root, .int .i64 loud, .int .i64 sa, .int .i64 sd, .int .i64 ss, .int .i64 sr] : List Value)[j]? = some v) => (show w3.cell? ⟨b, off + i * 11 + j, none⟩ = some v from (E3.out.cell (p := ⟨b, off + i * 11 + j, none⟩) hb).trans (hc j v hv)))
    obtain ⟨w4, hw4⟩ : ∃ w4, w3.alloc (.cells #[.int .i64 low, .int .i64 high, .int .i64 soft, .int .i64 hd, .string znm, .int .i64 root, .int .i64 loud, .int .i64 sa, .int .i64 sd, .int .i64 ss, .int .i64 sr] 67) = w4 := ⟨_, rfl⟩
    have HZb := Lib.hid (show Blk w4 w3.heap.size 67 [.int .i64 low, .int .i64 high, .int .i64 soft, .int .i64 hd, .string znm, .int .i64 root, .int .i64 loud, .int .i64 sa, .int .i64 sd, .int .i64 ss, .int .i64 sr] by rw [← hw4]; exact Blk.new w3 _ [.int .i64 low, .int .i64 high, .int .i64 soft, .int .i64 hd, .string znm, .int .i64 root, .int .i64 loud, .int .i64 sa, .int .i64 sd, .int .i64 ss, .int .i64 sr])
    have E34 := Lib.hid (show Below w3.heap.size w3 w4 by rw [← hw4]; exact bnew w3 _)
    have xz : ∀ j, w4.cell? ⟨w3.heap.size, j, none⟩ = ([.int .i64 low, .int .i64 high, .int .i64 soft, .int .i64 hd, .string znm, .int .i64 root, .int .i64 loud, .int .i64 sa, .int .i64 sd, .int .i64 ss, .int .i64 sr] : List Value)[j]? := blk_cells HZb.out
    have xs : ∀ j, w4.cell? ⟨w.heap.size, j, none⟩ = ([.int .i64 sc, .int .i64 sk, .int .i64 sf, .int .i64 st, .int .i64 sh] : List Value)[j]? := blk_cells (HSb.out.below E34.out HSb.out.lt)
    obtain ⟨w5, hw5⟩ : ∃ w5, w4.alloc (.cells #[.int .i64 sf, .string znm, .int .i64 stp, .int .i64 ln, .int .i64 vol, .int .i64 sa, .int .i64 sd, .int .i64 ss, .int .i64 sr] 38) = w5 := ⟨_, rfl⟩
    have HNb := Lib.hid (show Blk w5 w4.heap.size 38 [.int .i64 sf, .string znm, .int .i64 stp, .int .i64 ln, .int .i64 vol, .int .i64 sa, .int .i64 sd, .int .i64 ss, .int .i64 sr] by rw [← hw5]; exact Blk.new w4 _ [.int .i64 sf, .string znm, .int .i64 stp, .int .i64 ln, .int .i64 vol, .int .i64 sa, .int .i64 sd, .int .i64 ss, .int .i64 sr])
    have E45 := Lib.hid (show Below w4.heap.size w4 w5 by rw [← hw5]; exact bnew w4 _)
    have xn : ∀ j, w5.cell? ⟨w4.heap.size, j, none⟩ = ([.int .i64 sf, .string znm, .int .i64 stp, .int .i64 ln, .int .i64 vol, .int .i64 sa, .int .i64 sd, .int .i64 ss, .int .i64 sr] : List Value)[j]? := blk_cells HNb.out
    have E5 := Lib.hid (bnext (bnext E3.out E34.out) E45.out)
    have HR5 := Lib.hid ((HR.out.below E34.out HR.out.lt).below E45.out (Nat.lt_of_lt_of_le HR.out.lt E34.out.size))
    clear hb3 hc hb
    go_wp2_with (first | (refine wpList_load_part_w rfl 67 (.tmp 20) rfl b (off + i * 11) rfl [.int .i64 low, .int .i64 high, .int .i64 soft, .int .i64 hd, .string znm, .int .i64 root, .int .i64 loud, .int .i64 sa, .int .i64 sd, .int .i64 ss, .int .i64 sr] _ HZc.out Try.underlying67 rfl HFs.out ?_) | (go_at_call 13; fail))
    refine (HCk.out w5).mono ?_
    rintro e w7 ⟨rfl, hb7⟩
    have HR7 := Lib.hid (HR5.out.below hb7 HR5.out.lt)
    have E7 := Lib.hid (bnext E5.out hb7)
    have xn7 : ∀ j, w7.cell? ⟨w4.heap.size, j, none⟩ = ([.int .i64 sf, .string znm, .int .i64 stp, .int .i64 ln, .int .i64 vol, .int .i64 sa, .int .i64 sd, .int .i64 ss, .int .i64 sr] : List Value)[j]? := blk_cells (HNb.out.below hb7 HNb.out.lt)
    clear hb7 hw4 hw5 xz xs xn
    by_cases hC : C = 0
    · have t6 : (C != 0) = false := by rw [hC]; rfl
      have HN3 := Lib.hid (show noteZ zs ⟨sc, sk, sf, st, sh⟩ = (⟨sf, znm, stp, ln, vol, sa, sd, ss, sr⟩, true) by rw [HN2.out, if_pos hC])
      clear hC HN2
      have x8 : ∀ i, w7.cell? ⟨w.heap.size + 1, i, none⟩ = ([.int .i64 0, .string ⟨#[]⟩, .int .i64 0, .int .i64 0, .int .i64 0, .int .i64 0, .int .i64 0, .int .i64 0, .int .i64 0] : List Value)[i]? := blk_cells HR7.out
      have y8 := blk_free HR7.out
      obtain ⟨w9, hw9⟩ : ∃ w9, (((((((((w7.setCell ⟨w.heap.size + 1, 0, none⟩ (.int .i64 sf)).setCell ⟨w.heap.size + 1, 1, none⟩ (.string znm)).setCell ⟨w.heap.size + 1, 2, none⟩ (.int .i64 stp)).setCell ⟨w.heap.size + 1, 3, none⟩ (.int .i64 ln)).setCell ⟨w.heap.size + 1, 4, none⟩ (.int .i64 vol)).setCell ⟨w.heap.size + 1, 5, none⟩ (.int .i64 sa)).setCell ⟨w.heap.size + 1, 6, none⟩ (.int .i64 sd)).setCell ⟨w.heap.size + 1, 7, none⟩ (.int .i64 ss)).setCell ⟨w.heap.size + 1, 8, none⟩ (.int .i64 sr)) = w9 := ⟨_, rfl⟩
      have H9 := Lib.hid (show Blk w9 (w.heap.size + 1) 38 (NoteV.cells ⟨sf, znm, stp, ln, vol, sa, sd, ss, sr⟩) by rw [← hw9]; exact (((((((((HR7.out.set_ 0 _).set_ 1 _).set_ 2 _).set_ 3 _).set_ 4 _).set_ 5 _).set_ 6 _).set_ 7 _).set_ 8 _))
      have E9 := Lib.hid (show Below w.heap.size w w9 by
        rw [← hw9]
        repeat (refine Below.setCell ?_ (by show w.heap.size ≤ w.heap.size + 1; omega) _)
        exact E7.out)
      go_wp2
      refine bodyPost_ret (v := .tuple #[.agg (List.toArray (NoteV.cells ⟨sf, znm, stp, ln, vol, sa, sd, ss, sr⟩)), .bool true]) (results_cell_tmp2 Try.results11 _ _ (w.heap.size + 1) 38 (List.toArray (NoteV.cells ⟨sf, znm, stp, ln, vol, sa, sd, ss, sr⟩)) (0, 0) _ _ rfl rfl H9.out Try.underlying38 rfl HFn.out) rfl ?_
      exact ⟨by rw [HN3.out], E9.out⟩
    · have t6 : (C != 0) = true := by rw [bne_iff_ne]; exact hC
      have HN3 := Lib.hid (show noteZ zs ⟨sc, sk, sf, st, sh⟩ = (zeroNote, false) by rw [HN2.out, if_neg hC])
      clear hC HN2
      have x8 : ∀ i, w7.cell? ⟨w.heap.size + 1, i, none⟩ = ([.int .i64 0, .string ⟨#[]⟩, .int .i64 0, .int .i64 0, .int .i64 0, .int .i64 0, .int .i64 0, .int .i64 0, .int .i64 0] : List Value)[i]? := blk_cells HR7.out
      have y8 := blk_free HR7.out
      obtain ⟨w9, hw9⟩ : ∃ w9, (((((((((w7.setCell ⟨w.heap.size + 1, 0, none⟩ (.int .i64 0)).setCell ⟨w.heap.size + 1, 1, none⟩ (.string ⟨#[]⟩)).setCell ⟨w.heap.size + 1, 2, none⟩ (.int .i64 0)).setCell ⟨w.heap.size + 1, 3, none⟩ (.int .i64 0)).setCell ⟨w.heap.size + 1, 4, none⟩ (.int .i64 0)).setCell ⟨w.heap.size + 1, 5, none⟩ (.int .i64 0)).setCell ⟨w.heap.size + 1, 6, none⟩ (.int .i64 0)).setCell ⟨w.heap.size + 1, 7, none⟩ (.int .i64 0)).setCell ⟨w.heap.size + 1, 8, none⟩ (.int .i64 0)) = w9 := ⟨_, rfl⟩
      have H9 := Lib.hid (show Blk w9 (w.heap.size + 1) 38 zeroNote.cells by rw [← hw9]; exact (((((((((HR7.out.set_ 0 _).set_ 1 _).set_ 2 _).set_ 3 _).set_ 4 _).set_ 5 _).set_ 6 _).set_ 7 _).set_ 8 _))
      have E9 := Lib.hid (show Below w.heap.size w w9 by
        rw [← hw9]
        repeat (refine Below.setCell ?_ (by show w.heap.size ≤ w.heap.size + 1; omega) _)
        exact E7.out)
      go_wp2
      refine bodyPost_ret (v := .tuple #[.agg (List.toArray zeroNote.cells), .bool false]) (results_cell_tmp2 Try.results11 _ _ (w.heap.size + 1) 38 (List.toArray zeroNote.cells) (0, 0) _ _ rfl rfl H9.out Try.underlying38 rfl HFn.out) rfl ?_
      exact ⟨by rw [HN3.out], E9.out⟩
end Go.Proofs.Ytbgkoopfdfnmcaa
