/- Contract of layer 38's Note; conditions: as each theorem states. -/
import Derived.Test.YtbgkoopfdfnmcaaMidiD
import Derived.Test.YtbgkoopfdfnmcaaTuneB
import Derived.Test.YtbgkoopfdfnmcaaKitD
namespace Go.Proofs.Ytbgkoopfdfnmcaa
open Go.RowKit

def noteOf (z : ZoneV) (s : SpanV) : NoteV := ⟨s.from_, z.name, s.key - z.root, s.to_ - s.from_, z.loud * s.hard / 127, z.sa, z.sd, z.ss, z.sr⟩
def zeroNote : NoteV := ⟨0, ⟨#[]⟩, 0, 0, 0, 0, 0, 0, 0⟩
def noteZ (zs : List ZoneV) (s : SpanV) : NoteV × Bool :=
  if findZ s.key s.hard zs < 0 then (zeroNote, false) else
    match zs[(findZ s.key s.hard zs).toNat]? with
    | some z => if (noteOf z s).check = 0 then (noteOf z s, true) else (zeroNote, false)
    | none => (zeroNote, false)
theorem check_pitch {x : NoteV} (h : pitchZ x.step = 0) : x.check ≠ 0 := by
  unfold NoteV.check
  split
  · omega
  · split
    · omega
    · first | (rw [if_pos h]; omega) | omega
theorem findZ_lt {key hard : Int} {zs : List ZoneV} (h : ¬ (findZ key hard zs < 0)) : ∃ i : Nat, findZ key hard zs = (i : Int) ∧ i < zs.length := by
  unfold findZ at h ⊢
  cases hf : zs.findIdx? (ZoneV.fits key hard) with
  | none => rw [hf] at h; simp at h
  | some i =>
    refine ⟨i, rfl, ?_⟩
    have := List.findIdx?_eq_some_iff_getElem.1 hf
    exact this.1
theorem results_cell_tmp2 {P : Program} {fn : Func} {p q : Tmp} {ty : TypeId} (h : fn.results = #[.cell p ty, .tmp q]) (tmps : Array Value) (w : World) (g : Nat) (t : TypeId) (cs : Array Value) (fr : Nat × Nat) (d : TypeDesc) (v : Value)
    (hp : tmps.getD p undef = .pointer (some ⟨g, 0, none⟩)) (hq : tmps.getD q undef = v) (hg : w.heap[g]? = some (.cells cs t fr))
    (hu : P.underlying ty = some d) (hd : (match d with | .struct _ | .array _ _ => true | _ => false) = true) (hi : (P.info? ty).map (·.size) = some cs.size) :
    (results fn tmps).run P w = .ok (.tuple #[.agg cs, v]) w := by
  have hp' : tmps[p]?.getD undef = .pointer (some ⟨g, 0, none⟩) := by simpa using hp
  have hq' : tmps[q]?.getD undef = v := by simpa using hq
  simp [results, h, hp', hq', asAddr, run_loadVar_row w g t ty cs fr d hg hu hd hi]
set_option maxRecDepth 100000 in
set_option maxHeartbeats 16000000 in
theorem kitNote_any (zs : List ZoneV) (g : Nat) (s : SpanV) (w : World) (hl : zs.length ≤ 1000) (hk : KitAt w g zs) (hok : ∀ z ∈ zs, z.ok = true) (hs : (0 ≤ s.key ∧ s.key ≤ 127) ∧ (0 ≤ s.hard ∧ s.hard ≤ 127) ∧ (0 ≤ s.from_ ∧ s.from_ ≤ 268435455) ∧ 0 ≤ s.to_ ∧ s.to_ ≤ 268435455) :
    Calls Try.prog 12 #[.pointer (some ⟨g, 0, none⟩), .agg s.cells.toArray] w fun e w' => e = .returned (.tuple #[.agg (noteZ zs s).1.cells.toArray, .bool (noteZ zs s).2]) ∧ Below w.heap.size w w' := by
  obtain ⟨sc, sk, sf, st, sh⟩ := s
  have HN := Lib.hid (show noteZ zs ⟨sc, sk, sf, st, sh⟩ = if findZ sk sh zs < 0 then (zeroNote, false) else match zs[(findZ sk sh zs).toNat]? with | some z => if (noteOf z ⟨sc, sk, sf, st, sh⟩).check = 0 then (noteOf z ⟨sc, sk, sf, st, sh⟩, true) else (zeroNote, false) | none => (zeroNote, false) from rfl)
  have HFi := Lib.hid (fun W (hW : Below w.heap.size w W) => kitFind_any zs g sk sh W (by omega) (hk.later hW))
  obtain ⟨A, cap, hk1, hk2, hk3, hk4⟩ := hk
  simp only at hs
  show Calls Try.prog 12 #[.pointer (some ⟨g, 0, none⟩), .agg #[.int .i64 sc, .int .i64 sk, .int .i64 sf, .int .i64 st, .int .i64 sh]] w _
  have HFn := Lib.hid (show (Try.prog.info? 38).map (·.size) = some 9 by kernel_rfl)
  by_cases hneg : findZ sk sh zs < 0
  · have t1 : decide (findZ sk sh zs < 0) = true := decide_eq_true hneg
    have HN2 := Lib.hid (show noteZ zs ⟨sc, sk, sf, st, sh⟩ = (zeroNote, false) by rw [HN.out, if_pos hneg])
    generalize findZ sk sh zs = fz at *
    clear hneg HN hk1 hk4
    go_enter Try.func12, Try.ntmps12
    go_wp2_with (go_at_call 31; fail)
    refine (HFi.out _ (bnext (bnew w _) (bnew _ _))).mono ?_
    rintro e w3 ⟨rfl, hb3⟩
    have HR := Lib.hid (show Blk w3 (w.heap.size + 1) 38 zeroNote.cells from (show Blk _ (w.heap.size + 1) 38 zeroNote.cells from by
      have h := Blk.new (w.alloc (.cells #[.int .i64 sc, .int .i64 sk, .int .i64 sf, .int .i64 st, .int .i64 sh] 42)) 38 zeroNote.cells
      rwa [World.size_alloc] at h).below hb3 (by simp))
    have E3 := Lib.hid (bnext (bnext (bnew w (.cells #[.int .i64 sc, .int .i64 sk, .int .i64 sf, .int .i64 st, .int .i64 sh] 42)) (bnew _ (.cells zeroNote.cells.toArray 38))) hb3)
    clear hb3
    have x4 : ∀ i, w3.cell? ⟨w.heap.size + 1, i, none⟩ = ([.int .i64 0, .string ⟨#[]⟩, .int .i64 0, .int .i64 0, .int .i64 0, .int .i64 0, .int .i64 0, .int .i64 0, .int .i64 0] : List Value)[i]? := blk_cells HR.out
    have y4 := blk_free HR.out
    obtain ⟨w9, hw9⟩ : ∃ w9, (((((((((w3.setCell ⟨w.heap.size + 1, 0, none⟩ (.int .i64 0)).setCell ⟨w.heap.size + 1, 1, none⟩ (.string ⟨#[]⟩)).setCell ⟨w.heap.size + 1, 2, none⟩ (.int .i64 0)).setCell ⟨w.heap.size + 1, 3, none⟩ (.int .i64 0)).setCell ⟨w.heap.size + 1, 4, none⟩ (.int .i64 0)).setCell ⟨w.heap.size + 1, 5, none⟩ (.int .i64 0)).setCell ⟨w.heap.size + 1, 6, none⟩ (.int .i64 0)).setCell ⟨w.heap.size + 1, 7, none⟩ (.int .i64 0)).setCell ⟨w.heap.size + 1, 8, none⟩ (.int .i64 0)) = w9 := ⟨_, rfl⟩
    have H9 := Lib.hid (show Blk w9 (w.heap.size + 1) 38 zeroNote.cells by rw [← hw9]; exact (((((((((HR.out.set_ 0 _).set_ 1 _).set_ 2 _).set_ 3 _).set_ 4 _).set_ 5 _).set_ 6 _).set_ 7 _).set_ 8 _))
    have E9 := Lib.hid (show Below w.heap.size w w9 by
      rw [← hw9]
      repeat (refine Below.setCell ?_ (by show w.heap.size ≤ w.heap.size + 1; omega) _)
      exact E3.out)
    go_wp2
    refine bodyPost_ret (v := .tuple #[.agg zeroNote.cells.toArray, .bool false]) (results_cell_tmp2 Try.results12 _ _ (w.heap.size + 1) 38 zeroNote.cells.toArray (0, 0) _ _ rfl rfl H9.out Try.underlying38 rfl HFn.out) rfl ?_
    exact ⟨by rw [HN2.out], E9.out⟩
  · obtain ⟨i, hfi, hil⟩ := findZ_lt hneg
    obtain ⟨z, hz⟩ := list_get (k := i) rfl hil
    have hzk := hok z (List.mem_of_getElem? hz)
    have HN2 := Lib.hid (show noteZ zs ⟨sc, sk, sf, st, sh⟩ = if (noteOf z ⟨sc, sk, sf, st, sh⟩).check = 0 then (noteOf z ⟨sc, sk, sf, st, sh⟩, true) else (zeroNote, false) by
      rw [HN.out, if_neg hneg, hfi, Int.toNat_natCast, hz])
    have t1 : decide (findZ sk sh zs < 0) = false := decide_eq_false hneg
    obtain ⟨b, off, rfl, hb, hc⟩ := zone_at hk4 hz
    obtain ⟨low, high, soft, hd, znm, root, loud, sa, sd, ss, sr⟩ := z
    have hzb : (0 ≤ root ∧ root ≤ 127) ∧ 0 ≤ loud ∧ loud ≤ 256 := by
      unfold ZoneV.ok sevenB at hzk
      simp only [Bool.and_eq_true, decide_eq_true_eq] at hzk
      omega
    obtain ⟨⟨hr1, hr2⟩, hv1, hv2⟩ := hzb
    obtain ⟨⟨hs1, hs2⟩, ⟨hs3, hs4⟩, ⟨hs5, hs6⟩, hs7, hs8⟩ := hs
    have hprod : 0 ≤ loud * sh ∧ loud * sh ≤ 256 * 127 := ⟨Int.mul_nonneg hv1 hs3, Int.le_trans (Int.mul_le_mul_of_nonneg_right hv2 hs3) (by omega)⟩
    obtain ⟨hp1, hp2⟩ := hprod
    have hwm : IntKind.i64.wrap (loud * sh) = loud * sh := IntWalk.i64_in _ (by omega)
    obtain ⟨stp, hstp⟩ : ∃ stp, sk - root = stp := ⟨_, rfl⟩
    obtain ⟨ln, hln⟩ : ∃ ln, st - sf = ln := ⟨_, rfl⟩
    obtain ⟨vol, hvol⟩ : ∃ vol, loud * sh / 127 = vol := ⟨_, rfl⟩
    have hw1' : IntKind.i64.wrap (sk - root) = stp := by rw [IntWalk.i64_in _ (by omega)]; exact hstp
    have hw2' : IntKind.i64.wrap (st - sf) = ln := by rw [IntWalk.i64_in _ (by omega)]; exact hln
    have hno : noteOf ⟨low, high, soft, hd, znm, root, loud, sa, sd, ss, sr⟩ ⟨sc, sk, sf, st, sh⟩ = ⟨sf, znm, stp, ln, vol, sa, sd, ss, sr⟩ := by
      unfold noteOf
      simp only [hstp, hln, hvol]
    rw [hno] at HN2
    have HPi := Lib.hid (fun W => pitch_any stp W)
    have HCk := Lib.hid (fun W => tuneCheck_any ⟨sf, znm, stp, ln, vol, sa, sd, ss, sr⟩ W)
    have hcp := check_pitch (x := ⟨sf, znm, stp, ln, vol, sa, sd, ss, sr⟩)
    simp only at hcp
    generalize NoteV.check ⟨sf, znm, stp, ln, vol, sa, sd, ss, sr⟩ = C at *
    generalize pitchZ stp = P at *
    rw [hfi] at HFi t1
    have HFs := Lib.hid (show (Try.prog.info? 67).map (·.size) = some 11 by kernel_rfl)
    have t2 : (i : Int) < (zs.length : Int) := by omega
    have t3 : (0 : Int) ≤ (i : Int) := by omega
    generalize zs.length = nz at *
    clear hneg HN hz hzk hno hfi
    go_enter Try.func12, Try.ntmps12
    go_wp2_with (go_at_call 31; fail)
    refine (HFi.out _ (bnext (bnew w _) (bnew _ _))).mono ?_
    rintro e w3 ⟨rfl, hb3⟩
    have HR := Lib.hid (show Blk w3 (w.heap.size + 1) 38 zeroNote.cells from (show Blk _ (w.heap.size + 1) 38 zeroNote.cells from by
      have h := Blk.new (w.alloc (.cells #[.int .i64 sc, .int .i64 sk, .int .i64 sf, .int .i64 st, .int .i64 sh] 42)) 38 zeroNote.cells
      rwa [World.size_alloc] at h).below hb3 (by simp))
    have HSb := Lib.hid (show Blk w3 w.heap.size 42 [.int .i64 sc, .int .i64 sk, .int .i64 sf, .int .i64 st, .int .i64 sh] from (show Blk _ w.heap.size 42 [.int .i64 sc, .int .i64 sk, .int .i64 sf, .int .i64 st, .int .i64 sh] from
      (Blk.new w 42 [.int .i64 sc, .int .i64 sk, .int .i64 sf, .int .i64 st, .int .i64 sh]).alloc (.cells zeroNote.cells.toArray 38)).below hb3 (by simp; omega))
    have E3 := Lib.hid (bnext (bnext (bnew w (.cells #[.int .i64 sc, .int .i64 sk, .int .i64 sf, .int .i64 st, .int .i64 sh] 42)) (bnew _ (.cells zeroNote.cells.toArray 38))) hb3)
    have xg := (E3.out.cell (p := ⟨g, 0, none⟩) (cell_lt hk1)).trans hk1
    have HZc := Lib.hid (fun j v (hv : ([.int .i64 low, .int .i64 high, .int .i64 soft, .int .i64 hd, .string znm, .int .i64 root, .int .i64 loud, .int .i64 sa, .int .i64 sd, .int .i64 ss, .int .i64 sr] : List Value)[j]? = some v) => (show w3.cell? ⟨b, off + i * 11 + j, none⟩ = some v from (E3.out.cell (p := ⟨b, off + i * 11 + j, none⟩) hb).trans (hc j v hv)))
    obtain ⟨w4, hw4⟩ : ∃ w4, w3.alloc (.cells #[.int .i64 low, .int .i64 high, .int .i64 soft, .int .i64 hd, .string znm, .int .i64 root, .int .i64 loud, .int .i64 sa, .int .i64 sd, .int .i64 ss, .int .i64 sr] 67) = w4 := ⟨_, rfl⟩
    have HZb := Lib.hid (show Blk w4 w3.heap.size 67 [.int .i64 low, .int .i64 high, .int .i64 soft, .int .i64 hd, .string znm, .int .i64 root, .int .i64 loud, .int .i64 sa, .int .i64 sd, .int .i64 ss, .int .i64 sr] by rw [← hw4]; exact Blk.new w3 _ [.int .i64 low, .int .i64 high, .int .i64 soft, .int .i64 hd, .string znm, .int .i64 root, .int .i64 loud, .int .i64 sa, .int .i64 sd, .int .i64 ss, .int .i64 sr])
    have E34 := Lib.hid (show Below w3.heap.size w3 w4 by rw [← hw4]; exact bnew w3 _)
    have xz : ∀ j, w4.cell? ⟨w3.heap.size, j, none⟩ = ([.int .i64 low, .int .i64 high, .int .i64 soft, .int .i64 hd, .string znm, .int .i64 root, .int .i64 loud, .int .i64 sa, .int .i64 sd, .int .i64 ss, .int .i64 sr] : List Value)[j]? := blk_cells HZb.out
    have xs : ∀ j, w4.cell? ⟨w.heap.size, j, none⟩ = ([.int .i64 sc, .int .i64 sk, .int .i64 sf, .int .i64 st, .int .i64 sh] : List Value)[j]? := blk_cells (HSb.out.below E34.out HSb.out.lt)
    obtain ⟨w5, hw5⟩ : ∃ w5, w4.alloc (.cells #[.int .i64 sf, .string znm, .int .i64 stp, .int .i64 ln, .int .i64 vol, .int .i64 sa, .int .i64 sd, .int .i64 ss, .int .i64 sr] 38) = w5 := ⟨_, rfl⟩
    have HNb := Lib.hid (show Blk w5 w4.heap.size 38 [.int .i64 sf, .string znm, .int .i64 stp, .int .i64 ln, .int .i64 vol, .int .i64 sa, .int .i64 sd, .int .i64 ss, .int .i64 sr] by rw [← hw5]; exact Blk.new w4 _ [.int .i64 sf, .string znm, .int .i64 stp, .int .i64 ln, .int .i64 vol, .int .i64 sa, .int .i64 sd, .int .i64 ss, .int .i64 sr])
    have E45 := Lib.hid (show Below w4.heap.size w4 w5 by rw [← hw5]; exact bnew w4 _)
    have xn : ∀ j, w5.cell? ⟨w4.heap.size, j, none⟩ = ([.int .i64 sf, .string znm, .int .i64 stp, .int .i64 ln, .int .i64 vol, .int .i64 sa, .int .i64 sd, .int .i64 ss, .int .i64 sr] : List Value)[j]? := blk_cells HNb.out
    have E5 := Lib.hid (bnext (bnext E3.out E34.out) E45.out)
    have HR5 := Lib.hid ((HR.out.below E34.out HR.out.lt).below E45.out (Nat.lt_of_lt_of_le HR.out.lt E34.out.size))
    clear hb3 hc hb
    go_wp2_with (first | (refine wpList_load_part_w rfl 67 (.tmp 23) rfl b (off + i * 11) rfl [.int .i64 low, .int .i64 high, .int .i64 soft, .int .i64 hd, .string znm, .int .i64 root, .int .i64 loud, .int .i64 sa, .int .i64 sd, .int .i64 ss, .int .i64 sr] _ HZc.out Try.underlying67 rfl HFs.out ?_) | (go_at_call 32; fail))
    refine (HPi.out w5).mono ?_
    rintro e w6 ⟨rfl, hb6⟩
    have HR6 := Lib.hid (HR5.out.below hb6 HR5.out.lt)
    have E6 := Lib.hid (bnext E5.out hb6)
    have HSz6 := Lib.hid hb6.size
    have xn6 : ∀ j, w6.cell? ⟨w4.heap.size, j, none⟩ = ([.int .i64 sf, .string znm, .int .i64 stp, .int .i64 ln, .int .i64 vol, .int .i64 sa, .int .i64 sd, .int .i64 ss, .int .i64 sr] : List Value)[j]? := blk_cells (HNb.out.below hb6 HNb.out.lt)
    clear hb6 hw4 hw5 xz xs xn xg
    by_cases hP : P = 0
    · have t5 : (P == 0) = true := by rw [hP]; rfl
      have HN3 := Lib.hid (show noteZ zs ⟨sc, sk, sf, st, sh⟩ = (zeroNote, false) by rw [HN2.out, if_neg (hcp hP)])
      clear hP hcp HN2
      have x8 : ∀ i, w6.cell? ⟨w.heap.size + 1, i, none⟩ = ([.int .i64 0, .string ⟨#[]⟩, .int .i64 0, .int .i64 0, .int .i64 0, .int .i64 0, .int .i64 0, .int .i64 0, .int .i64 0] : List Value)[i]? := blk_cells HR6.out
      have y8 := blk_free HR6.out
      obtain ⟨w9, hw9⟩ : ∃ w9, (((((((((w6.setCell ⟨w.heap.size + 1, 0, none⟩ (.int .i64 0)).setCell ⟨w.heap.size + 1, 1, none⟩ (.string ⟨#[]⟩)).setCell ⟨w.heap.size + 1, 2, none⟩ (.int .i64 0)).setCell ⟨w.heap.size + 1, 3, none⟩ (.int .i64 0)).setCell ⟨w.heap.size + 1, 4, none⟩ (.int .i64 0)).setCell ⟨w.heap.size + 1, 5, none⟩ (.int .i64 0)).setCell ⟨w.heap.size + 1, 6, none⟩ (.int .i64 0)).setCell ⟨w.heap.size + 1, 7, none⟩ (.int .i64 0)).setCell ⟨w.heap.size + 1, 8, none⟩ (.int .i64 0)) = w9 := ⟨_, rfl⟩
      have H9 := Lib.hid (show Blk w9 (w.heap.size + 1) 38 zeroNote.cells by rw [← hw9]; exact (((((((((HR6.out.set_ 0 _).set_ 1 _).set_ 2 _).set_ 3 _).set_ 4 _).set_ 5 _).set_ 6 _).set_ 7 _).set_ 8 _))
      have E9 := Lib.hid (show Below w.heap.size w w9 by
        rw [← hw9]
        repeat (refine Below.setCell ?_ (by show w.heap.size ≤ w.heap.size + 1; omega) _)
        exact E6.out)
      go_wp2
      refine bodyPost_ret (v := .tuple #[.agg (List.toArray zeroNote.cells), .bool false]) (results_cell_tmp2 Try.results12 _ _ (w.heap.size + 1) 38 (List.toArray zeroNote.cells) (0, 0) _ _ rfl rfl H9.out Try.underlying38 rfl HFn.out) rfl ?_
      exact ⟨by rw [HN3.out], E9.out⟩
    · have t5 : (P == 0) = false := beq_eq_false_iff_ne.2 hP
      clear hP hcp
      by_cases hC : C = 0
      · have t6 : (C != 0) = false := by rw [hC]; rfl
        have HN3 := Lib.hid (show noteZ zs ⟨sc, sk, sf, st, sh⟩ = (⟨sf, znm, stp, ln, vol, sa, sd, ss, sr⟩, true) by rw [HN2.out, if_pos hC])
        clear hC HN2
        go_wp2_with (go_at_call 13; fail)
        refine (HCk.out w6).mono ?_
        rintro e w7 ⟨rfl, hb7⟩
        have HR7 := Lib.hid (HR6.out.below hb7 HR6.out.lt)
        have E7 := Lib.hid (bnext E6.out hb7)
        have xn7 : ∀ j, w7.cell? ⟨w4.heap.size, j, none⟩ = ([.int .i64 sf, .string znm, .int .i64 stp, .int .i64 ln, .int .i64 vol, .int .i64 sa, .int .i64 sd, .int .i64 ss, .int .i64 sr] : List Value)[j]? := fun j => (hb7.cell (p := ⟨w4.heap.size, j, none⟩) (Nat.lt_of_lt_of_le HNb.out.lt (by have := E6.out; exact HSz6.out))).trans (xn6 j)
        clear hb7 xn6
        have x8 : ∀ i, w7.cell? ⟨w.heap.size + 1, i, none⟩ = ([.int .i64 0, .string ⟨#[]⟩, .int .i64 0, .int .i64 0, .int .i64 0, .int .i64 0, .int .i64 0, .int .i64 0, .int .i64 0] : List Value)[i]? := blk_cells HR7.out
        have y8 := blk_free HR7.out
        obtain ⟨w9, hw9⟩ : ∃ w9, (((((((((w7.setCell ⟨w.heap.size + 1, 0, none⟩ (.int .i64 sf)).setCell ⟨w.heap.size + 1, 1, none⟩ (.string znm)).setCell ⟨w.heap.size + 1, 2, none⟩ (.int .i64 stp)).setCell ⟨w.heap.size + 1, 3, none⟩ (.int .i64 ln)).setCell ⟨w.heap.size + 1, 4, none⟩ (.int .i64 vol)).setCell ⟨w.heap.size + 1, 5, none⟩ (.int .i64 sa)).setCell ⟨w.heap.size + 1, 6, none⟩ (.int .i64 sd)).setCell ⟨w.heap.size + 1, 7, none⟩ (.int .i64 ss)).setCell ⟨w.heap.size + 1, 8, none⟩ (.int .i64 sr)) = w9 := ⟨_, rfl⟩
        have H9 := Lib.hid (show Blk w9 (w.heap.size + 1) 38 (NoteV.cells ⟨sf, znm, stp, ln, vol, sa, sd, ss, sr⟩) by rw [← hw9]; exact (((((((((HR7.out.set_ 0 _).set_ 1 _).set_ 2 _).set_ 3 _).set_ 4 _).set_ 5 _).set_ 6 _).set_ 7 _).set_ 8 _))
        have E9 := Lib.hid (show Below w.heap.size w w9 by
          rw [← hw9]
          repeat (refine Below.setCell ?_ (by show w.heap.size ≤ w.heap.size + 1; omega) _)
          exact E7.out)
        go_wp2
        refine bodyPost_ret (v := .tuple #[.agg (List.toArray (NoteV.cells ⟨sf, znm, stp, ln, vol, sa, sd, ss, sr⟩)), .bool true]) (results_cell_tmp2 Try.results12 _ _ (w.heap.size + 1) 38 (List.toArray (NoteV.cells ⟨sf, znm, stp, ln, vol, sa, sd, ss, sr⟩)) (0, 0) _ _ rfl rfl H9.out Try.underlying38 rfl HFn.out) rfl ?_
        exact ⟨by rw [HN3.out], E9.out⟩
      · have t6 : (C != 0) = true := by rw [bne_iff_ne]; exact hC
        have HN3 := Lib.hid (show noteZ zs ⟨sc, sk, sf, st, sh⟩ = (zeroNote, false) by rw [HN2.out, if_neg hC])
        clear hC HN2
        go_wp2_with (go_at_call 13; fail)
        refine (HCk.out w6).mono ?_
        rintro e w7 ⟨rfl, hb7⟩
        have HR7 := Lib.hid (HR6.out.below hb7 HR6.out.lt)
        have E7 := Lib.hid (bnext E6.out hb7)
        clear hb7 xn6
        have x8 : ∀ i, w7.cell? ⟨w.heap.size + 1, i, none⟩ = ([.int .i64 0, .string ⟨#[]⟩, .int .i64 0, .int .i64 0, .int .i64 0, .int .i64 0, .int .i64 0, .int .i64 0, .int .i64 0] : List Value)[i]? := blk_cells HR7.out
        have y8 := blk_free HR7.out
        obtain ⟨w9, hw9⟩ : ∃ w9, (((((((((w7.setCell ⟨w.heap.size + 1, 0, none⟩ (.int .i64 0)).setCell ⟨w.heap.size + 1, 1, none⟩ (.string ⟨#[]⟩)).setCell ⟨w.heap.size + 1, 2, none⟩ (.int .i64 0)).setCell ⟨w.heap.size + 1, 3, none⟩ (.int .i64 0)).setCell ⟨w.heap.size + 1, 4, none⟩ (.int .i64 0)).setCell ⟨w.heap.size + 1, 5, none⟩ (.int .i64 0)).setCell ⟨w.heap.size + 1, 6, none⟩ (.int .i64 0)).setCell ⟨w.heap.size + 1, 7, none⟩ (.int .i64 0)).setCell ⟨w.heap.size + 1, 8, none⟩ (.int .i64 0)) = w9 := ⟨_, rfl⟩
        have H9 := Lib.hid (show Blk w9 (w.heap.size + 1) 38 zeroNote.cells by rw [← hw9]; exact (((((((((HR7.out.set_ 0 _).set_ 1 _).set_ 2 _).set_ 3 _).set_ 4 _).set_ 5 _).set_ 6 _).set_ 7 _).set_ 8 _))
        have E9 := Lib.hid (show Below w.heap.size w w9 by
          rw [← hw9]
          repeat (refine Below.setCell ?_ (by show w.heap.size ≤ w.heap.size + 1; omega) _)
          exact E7.out)
        go_wp2
        refine bodyPost_ret (v := .tuple #[.agg (List.toArray zeroNote.cells), .bool false]) (results_cell_tmp2 Try.results12 _ _ (w.heap.size + 1) 38 (List.toArray zeroNote.cells) (0, 0) _ _ rfl rfl H9.out Try.underlying38 rfl HFn.out) rfl ?_
        exact ⟨by rw [HN3.out], E9.out⟩
end Go.Proofs.Ytbgkoopfdfnmcaa
