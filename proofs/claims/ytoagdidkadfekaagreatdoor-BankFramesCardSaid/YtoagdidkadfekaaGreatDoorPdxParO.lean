/- ParO. Conditions: as each theorem states. -/
import Derived.Test.YtoagdidkadfekaaGreatDoorPdxParN

namespace Go.Proofs.YtoagdidkadfekaaGreatDoor
open Go.RowKit Go.Lib

/-- what Bytes leaves -/
def BytesP (w : World) (D : List MetaV) (bs : List Nat) (size : Nat) (i c b : Int) (e : Ending) (w' : World) : Prop :=
  Below w.heap.size w w' ∧ ((whereE D i c b ≠ 0 ∧ e = .returned (.tuple #[.slice none 0 0, .int .i64 (whereE D i c b)])) ∨
    (whereE D i c b = 0 ∧ ∃ A c', e = .returned (.tuple #[.slice A size c', .int .i64 0]) ∧ size ≤ c' ∧ c' ≤ 9223372036854775807 ∧ (A = none → c' = 0) ∧ Row w' w'.heap.size A (u8s (subB bs (whereAt D size i c b).toNat size))))
set_option maxRecDepth 100000 in
set_option maxHeartbeats 16000000 in
theorem Bytes_any (g size : Nat) (bs : List Nat) (D : List MetaV) (i c b : Int) (w : World) (h : BankAt w g bs size D) (hf : FitB bs size D) :
    Calls Tryz.prog 26 #[.pointer (some ⟨g, 0, none⟩), .int .i64 i, .int .i64 c, .int .i64 b] w (BytesP w D bs size i c b) := by
  have HW := Lib.hid (Where_any g size bs D i c b w h hf)
  unfold BytesP
  unfold WherePost at HW
  by_cases hE : whereE D i c b = 0
  rotate_left
  · have hA : whereAt D size i c b = 0 := if_neg hE
    have hS : whereSum D bs i c b = 0 := if_neg hE
    rw [hA, hS] at HW
    generalize whereE D i c b = E at *
    have t1 : (E != 0) = true := by rw [bne_iff_ne]; exact hE
    have t2 : (E == 0) = false := beq_eq_false_iff_ne.2 hE
    have HE := Lib.hid hE
    clear hE hA hS h hf
    go_enter Tryz.func26, Tryz.ntmps26
    go_wp2_with (go_at_call 27; fail)
    refine HW.out.mono ?_
    rintro e w2 ⟨rfl, hb2⟩
    go_wp2
    refine bodyPost_ret (results_tmp2 Tryz.results26 _ _ _) rfl ?_
    exact ⟨hb2, .inl ⟨HE.out, rfl⟩⟩
  · obtain ⟨x, hxD, hxe, chN, cn, bn, S, F, q, P, e1, rfl, rfl, e2, e3, hm1, hq, hP, hm2, l1, l2, _, b0, b1, hbc⟩ := where_lies hf hE
    have hA : whereAt D size i cn bn = ((F + P : Nat) : Int) := by
      unfold whereAt frameNo
      rw [if_pos hE, hxe, e1, e3, hm1, ← Int.natCast_add, hq, hm2]
      push_cast; rfl
    have hVb : whereSum D bs i cn bn < 4294967296 := by
      rw [show whereSum D bs i cn bn = readTo bs ((metaI D i).sums + 4 * frameNo D i cn bn).toNat 4 from if_pos hE]
      exact readTo_lt hf.byt _ 4
    rw [hA, hE] at HW
    obtain ⟨V, hV⟩ : ∃ V, whereSum D bs i cn bn = V := ⟨_, rfl⟩
    rw [hV] at HW hVb
    have HEn := Lib.hid hE
    obtain ⟨AT, hAT⟩ : ∃ AT, F + P = AT := ⟨_, rfl⟩
    rw [hAT] at HW hA l2
    have HAn := Lib.hid (show (whereAt D size i cn bn).toNat = AT by rw [hA]; rfl)
    rw [HAn.out, hE]
    have hln := hf.long
    have hlo := hf.lo
    have hhi := hf.hi
    obtain ⟨Ai, ci, Ad, cd, h1, h2, _, h4, h5, _, _, _, _⟩ := h.at_
    obtain ⟨y0, hy0⟩ : ∃ y0, bs[0]? = some y0 := ⟨_, List.getElem?_eq_getElem (by omega)⟩
    obtain ⟨gi, off, rfl, _, _⟩ := h2 0 _ (u8s_get hy0)
    have HXc := Lib.hid (fun W (hW : Below w.heap.size w W) j v (hv : ([.slice (some ⟨gi, off, none⟩) bs.length ci, .int .i64 size, .slice Ad D.length cd] : List Value)[j]? = some v) => (show W.cell? ⟨g, j, none⟩ = some v from by
      have hB : Blk w g 79 [.slice (some ⟨gi, off, none⟩) bs.length ci, .int .i64 size, .slice Ad D.length cd] := h1
      rw [blk_cells (hB.below hW hB.lt) j]; exact hv))
    have HCl := Lib.hid (fun W (hW : Below w.heap.size w W) => (show Calls Tryz.prog 54 #[.slice (some ⟨gi, off + AT, none⟩) size (ci - AT)] W (CopyP W 5 1 size (u8s (subB bs AT size))) from by
      have hr := (((h2.later hW).drop_ AT).take size)
      rw [u8s_drop, u8s_take, subB_drop (by omega)] at hr
      exact cloneB_any (subB bs AT size) (some ⟨gi, off + AT, none⟩) size (ci - AT) W (subB_len _ _ _) (by omega) nofun hr))
    clear hE hxe hf h h1 h2 hxD hV hA e1 e2 e3 hm1 hq hP hm2 hAT hy0 b1 b0 HAn hbc l1
    generalize whereE D i cn bn = E at *
    generalize bs.length = n at *
    generalize D.length = dn at *
    have k1 : AT + size ≤ n := by omega
    have k2 : n ≤ ci := by omega
    have hati : (AT : Int) + (size : Int) = ((AT + size : Nat) : Int) := by push_cast; rfl
    have Hati := Lib.hid hati
    clear hati l2
    go_enter Tryz.func26, Tryz.ntmps26
    go_wp2_with (go_at_call 27; fail)
    refine HW.out.mono ?_
    rintro e w2 ⟨rfl, hb2⟩
    have B2 := Lib.hid hb2
    clear hb2
    go_wp2_with fail
    have x0 := fun (z : GW w2) => HXc.out z.1 (bnext B2.out z.2) 0 _ rfl
    have x1 := fun (z : GW w2) => HXc.out z.1 (bnext B2.out z.2) 1 _ rfl
    refine wp_region_calm_tail 12 (by kernel_rfl) (by kernel_rfl) ?_
    simp only [List.take_succ_cons, List.take_zero, List.drop_succ_cons, List.drop_zero]
    repeat (go_big_quiet_step (fail))
    refine wpQuiet_nil ?_
    intro w5 hw'
    have B5 := Lib.hid (gw_below hw')
    clear hw' x0 x1
    have HC5 := Lib.hid (HCl.out w5 (bnext B2.out B5.out))
    go_wp2_with (go_at_call 54; fail)
    refine HC5.out.mono ?_
    rintro e w6 ⟨A6, c6, rfl, h6c, h6m, h6n, hown, hb6⟩
    have R6 := Lib.hid (Row.of_own hown)
    clear hown
    go_wp2
    refine bodyPost_ret (results_tmp2 Tryz.results26 _ _ _) rfl ?_
    exact ⟨bnext (bnext B2.out B5.out) hb6, .inr ⟨trivial, A6, c6, rfl, h6c, h6m, h6n, R6.out⟩⟩
end Go.Proofs.YtoagdidkadfekaaGreatDoor
