/- LawEA. Conditions: as each theorem states. -/
import Derived.Test.YtgcfkblmnpnogaaGreatDoorPnxEdV
import Derived.Test.YtgcfkblmnpnogaaGreatDoorPnxEdX
namespace Go.Proofs.YtgcfkblmnpnogaaGreatDoor
open Go.RowKit Go.Lib
theorem BankAt.box {w : World} {g b0 : Nat} {bs : List Nat} {size : Nat} {D : List MetaV} {cs : Array Value} {t : TypeId} (h : BankAt w g bs size D) (hx : w.heap[b0]? = some (.cells cs t (0, 0))) (h6 : cs.size = 6) (h8 : ∀ (j : Nat) (x : Int), cs[j]? ≠ some (.int .u8 x)) (cs' : Array Value) : BankAt (w.setRow b0 cs') g bs size D := by
 obtain ⟨Ai, ci, Ad, cd, h1, h2, h3, h4, h5, h6', h7, h8', h9⟩ := h.at_
 have hg := grown_row2 (World.grownBy.refl w (some b0)) cs'
 have hne : g ≠ b0 := fun e => by
  subst e
  rw [h1] at hx
  injection hx with hx
  injection hx with hx
  rw [← hx] at h6
  simp at h6
 refine ⟨Ai, ci, Ad, cd, (hg.block g (hlt h1) (fun e => hne (Option.some.inj e))).trans h1, fun i v hv => ?_, fun i v hv => ?_, h4, h5, h6', h7, h8', h9⟩
 ·obtain ⟨b, off, ha, hb, hc⟩ := h2 i v hv
  refine ⟨b, off, ha, Nat.lt_of_lt_of_le hb hg.size, hg.cell hc (fun e => ?_)⟩
  have e : b = b0 := Option.some.inj e
  subst e
  rw [cell_of_row _ _ _ _ _ _ hx] at hc
  have hi := (List.getElem?_eq_some_iff.1 hv).1
  unfold u8s at hv hi
  rw [List.getElem?_map] at hv
  cases hq : bs[i]? with
  | none => rw [hq] at hv; cases hv
  | some y =>
   rw [hq] at hv
   have hv : Value.int .u8 (y : Int) = v := Option.some.inj hv
   subst hv
   exact h8 _ _ hc
 ·obtain ⟨b, off, ha, hb, hc⟩ := h3 i v hv
  refine ⟨b, off, ha, Nat.lt_of_lt_of_le hb hg.size, hg.cell hc (fun e => ?_)⟩
  have e : b = b0 := Option.some.inj e
  subst e
  have hi := (List.getElem?_eq_some_iff.1 hv).1
  obtain ⟨x, hx9⟩ : ∃ x, D[i / 9]? = some x := by
   have hl : (metaCells D).length = D.length * 9 := metaCells_len D
   exact ⟨_, List.getElem?_eq_getElem (by omega)⟩
  have h10 := metaCells_get D hx9 8 (by omega)
  obtain ⟨b', off', ha', _, hc'⟩ := h3 (i / 9 * 9 + 8) _ (h10.trans (show x.cells[8]? = some (.int .i64 x.first) from rfl))
  rw [ha] at ha'
  injection ha' with ha'
  injection ha' with e1 e2
  subst e1 e2
  rw [cell_of_row _ _ _ _ _ _ hx, Array.getElem?_eq_none (by omega)] at hc'
  cases hc'
set_option maxRecDepth 100000 in
set_option maxHeartbeats 16000000 in
theorem EditAdds_walk (L : List (HSamp × SampV)) (A0 : Option Addr) (cap0 : Nat) (nm0 : ByteArray) (rate : Int) (lp : Bool) (f t : Int) (a0 : Option Addr) (c0 : Nat) (vs0 : List Value) (rows0 : List (List Int)) (w : World) (hs : SampsAt w w.heap.size A0 L) (hnm : ∀ p ∈ L, NameFits p)
  (hn0 : nm0.size ≤ 9223372036854775807) (hr0 : Row w w.heap.size a0 vs0) (hm0 : RowsAt w w.heap.size vs0 rows0) :
  Calls Tryz.prog 12 #[.slice A0 L.length cap0, .agg #[.string nm0, .int .i64 rate, .bool lp, .int .i64 f, .int .i64 t, .slice a0 rows0.length c0]] w fun e w' => e = .returned (.bool true) ∧ Below w.heap.size w w' := by
 have HM := hid (fun W (hW : Below w.heap.size w W) => made29_small L A0 cap0 W (hs.later hW) hnm)
 have HFw := hid (fun W (hW : Below w.heap.size w W) => Few_any nm0 rate lp f t a0 c0 vs0 rows0 W hn0 w.heap.size hW.size (hr0.below hW) (hm0.below hW))
 have HAw := hid (fun W => awake29_any W)
 unfold MadeS at HM
 unfold FewPost at HFw
 generalize L.length = nL at *
 generalize rows0.length = R0 at *
 have HFs := hid (fun (n1 : ByteArray) (a1 : Option Addr) (r1 c1 : Nat) => (show (Tryz.prog.info? 92).map (·.size) = some (#[.string n1, .int .i64 rate, .bool lp, .int .i64 f, .int .i64 t, .slice a1 r1 c1] : Array Value).size by kernel_rfl))
 obtain ⟨w0, hw0⟩ : ∃ w0, w.alloc (.cells #[.string nm0, .int .i64 rate, .bool lp, .int .i64 f, .int .i64 t, .slice a0 R0 c0] 92) = w0 := ⟨_, rfl⟩
 have B0 := hid (show Below w.heap.size w w0 by rw [← hw0]; exact bnew w _)
 have X0 := hid (show w0.heap[w.heap.size]? = some (.cells #[.string nm0, .int .i64 rate, .bool lp, .int .i64 f, .int .i64 t, .slice a0 R0 c0] 92 (0, 0)) by rw [← hw0]; exact heap_alloc_new w _)
 have hz0 : w0.heap.size = w.heap.size + 1 := by rw [← hw0]; simp
 have Hz0 := hid hz0
 have HM0 := hid (HM.out w0 B0.out)
 clear hs hnm hn0 hr0 hm0 HM hz0
 go_enter Tryz.func12, Tryz.ntmps12
 go_wp2_with (go_at_call 30; fail)
 clear hw0
 refine HM0.out.mono ?_
 rintro e w1 ⟨hb1, rfl | ⟨D, FR, g, hC, hD8, hF160, rfl, hB, -⟩⟩
 ·have E1 := hid (bnext B0.out hb1)
  clear hb1 HM0 HFw
  go_wp2_with (go_at_call 31; fail)
  refine (HAw.out _).mono ?_
  rintro e w2 ⟨rfl, hb2⟩
  go_wp2
  go_ret
  exact ⟨rfl, bnext E1.out hb2⟩
 ·have E1 := hid (bnext B0.out hb1)
  have X1 := hid (hkeep X0.out hb1)
  have HF1 := hid (HFw.out w1 E1.out)
  have HC := hid hC
  have HB := hid hB
  have hs1 : w.heap.size < w1.heap.size := by have := hb1.size; have := Hz0.out; omega
  clear hb1 HM0 HFw hC hB X0 Hz0
  go_wp2_with (first | (refine wpList_load_row_w rfl 92 (.tmp 3) rfl w.heap.size rfl _ #[.string nm0, .int .i64 rate, .bool lp, .int .i64 f, .int .i64 t, .slice a0 R0 c0] _ _ X1.out Tryz.underlying92 rfl (HFs.out _ _ _ _) ?_) | (go_at_call 59; fail))
  refine HF1.out.mono ?_
  rintro e w2 ⟨nm, a, cap, vs, rows, rfl, q1, q2, q3, q4, q5, hrow, hfar, hrows, hb2⟩
  have X2 := hid (hkeep X1.out hb2)
  have E2 := hid (bnext E1.out hb2)
  obtain ⟨R, hR⟩ : ∃ R, rows.length = R := ⟨_, rfl⟩
  obtain ⟨w3, hw3⟩ : ∃ w3, w2.setRow w.heap.size #[.string nm, .int .i64 rate, .bool lp, .int .i64 f, .int .i64 t, .slice a R cap] = w3 := ⟨_, rfl⟩
  have G3 : w2.grownBy w3 (some w.heap.size) := by rw [← hw3]; exact grown_row2 (World.grownBy.refl _ _) _
  have X3 := hid (show w3.heap[w.heap.size]? = some (.cells #[.string nm, .int .i64 rate, .bool lp, .int .i64 f, .int .i64 t, .slice a R cap] 92 (0, 0)) by rw [← hw3]; exact setRow_at w2 _ _ _ _ X2.out)
  have E3 := hid (show Below w.heap.size w w3 by rw [← hw3]; exact setRow_below E2.out _ (Nat.le_refl _) _)
  have hrow3 : Row w3 w3.heap.size a vs := (hrow.aside (Nat.le_refl _) G3 (fun ad had e => by
   have h1 := hfar ad had
   have h2 := Option.some.inj e
   omega)).more G3.size
  have hrows3 : RowsAt w3 w3.heap.size vs rows := (hrows.aside E2.out.size G3 (fun j hj => Nat.le_of_eq (Option.some.inj hj))).more (Nat.le_trans E2.out.size G3.size)
  have hC := HC.out
  have hB3 : BankAt w3 g (bldZ 24 D FR) 24 (bldDir 24 D) := by
   rw [← hw3]
   refine (HB.out.later hb2).box X2.out rfl (fun j x hx => ?_) _
   have hj := (Array.getElem?_eq_some_iff.1 hx).1
   have hj : j < 6 := hj
   have hj2 : j = 0 ∨ j = 1 ∨ j = 2 ∨ j = 3 ∨ j = 4 ∨ j = 5 := by omega
   rcases hj2 with rfl | rfl | rfl | rfl | rfl | rfl <;> cases hx
  have hsm : (SampV.mk nm rate lp f t rows).small := ⟨q1, q2, q5⟩
  have HAdd := hid (Add29_any hC (by omega) (by omega) g nm rate lp f t a cap vs rows w3 hB3 hrow3 hrows3 q3 q4 hsm)
  obtain ⟨S, hS⟩ : ∃ S : SampV, S = ⟨nm, rate, lp, f, t, rows⟩ := ⟨_, rfl⟩
  have HCk := hid (fun W (hW : Below w3.heap.size w3 W) => (show Calls Tryz.prog 61 #[.agg #[.string nm, .int .i64 rate, .bool lp, .int .i64 f, .int .i64 t, .slice a rows.length cap]] W (fun e w' => e = .returned (.int .i64 S.check) ∧ Below W.heap.size W w') from by
   rw [hS]
   exact Check_any nm rate lp f t a cap vs rows W (hrow3.later hW) (hrows3.later hW) (by omega)))
  have HMt := hid (fun W (hW : Below w3.heap.size w3 W) => (show Calls Tryz.prog 53 #[.agg #[.string nm, .int .i64 rate, .bool lp, .int .i64 f, .int .i64 t, .slice a rows.length cap]] W (fun e w' => e = .returned (.agg (metaOf S).cells.toArray) ∧ Below W.heap.size W w') from by
   rw [hS]
   exact Meta_any nm rate lp f t a cap vs rows W rows.length rfl (hrow3.later hW) (hrows3.later hW)))
  have HMd := hid (fun W gg (hW : Below w3.heap.size w3 W) (hb : Blk W gg 92 [.string nm, .int .i64 rate, .bool lp, .int .i64 f, .int .i64 t, .slice a rows.length cap]) => (show Calls Tryz.prog 30 #[.slice (some ⟨gg, 0, none⟩) 1 1] W (MadeP W [S]) from by
   rw [hS]
   exact made29_ex [(⟨nm, rate, lp, f, t, a, rows.length, cap⟩, ⟨nm, rate, lp, f, t, rows⟩)] (some ⟨gg, 0, none⟩) 1 W (samps_one (h := ⟨nm, rate, lp, f, t, a, rows.length, cap⟩) (s := ⟨nm, rate, lp, f, t, rows⟩) hb ⟨⟨rfl, rfl, rfl, rfl, rfl, rfl⟩, q3, q4⟩ (hrow3.later hW) (hrows3.later hW)) (by show (1 : Nat) ≤ 8; omega) (fun p hp => by rw [List.mem_singleton] at hp; rw [hp]; exact hsm)))
  have HSn := hid (show S.name = nm by rw [hS])
  have HSm := hid (show S.small by rw [hS]; exact hsm)
  rw [← hS] at HAdd
  rw [hR] at HAdd HCk HMt HMd
  have HBk := hid (bankOf_built hC hB3)
  have HRs := hid (hC.raws (by omega))
  have hfo := fOf_all_len hC
  have hzl := allZ_len 24 D FR D.length (Nat.le_refl _)
  generalize allZ 24 D FR D.length = Z at *
  generalize bldZ 24 D FR = bs at *
  have Hfo := hid (show (fOf Z).length ≤ 160 by omega)
  have Hzl := hid (show Z.length ≤ 8 by omega)
  have HFi := hid (fun W (hW : Below w3.heap.size w3 W) => (show Calls Tryz.prog 33 #[.pointer (some ⟨g, 0, none⟩), .string nm] W (fun e w' => (∃ k : Nat, e = .returned (.tuple #[.int .i64 k, .bool (atB Z nm)])) ∧ Below W.heap.size W w') from by
   refine (Find_any g 24 bs (dOf Z) nm W (HBk.out.at_.later hW) (by omega) HBk.out.fit.many (ascN_of HBk.out.asc)).mono ?_
   rintro e w' ⟨rfl, hb⟩
   rw [(at_find HBk.out.asc nm).1]
   exact ⟨⟨_, rfl⟩, hb⟩))
  have Hw3 := hid hw3
  have H1c := hid (show (#[.string nm, .int .i64 rate, .bool lp, .int .i64 f, .int .i64 t, .slice a R cap] : Array Value).all (·.oneCell') = true by simp [Value.oneCell'])
  rw [hR]
  clear HC HB hC hB3 hrow hfar hrows hb2 q1 q2 q3 q4 q5 G3 hrow3 hrows3 hsm hS hw3 hR hfo hzl HF1 X1 hF160 hD8
  go_wp2_with (first | (refine wpList_store_row_w rfl 92 (.tmp 3) (.tmp 25) rfl w.heap.size rfl _ _ #[.string nm, .int .i64 rate, .bool lp, .int .i64 f, .int .i64 t, .slice a R cap] rfl X2.out (HFs.out _ _ _ _) (by rfl) H1c.out ?_; rw [Hw3.out]) | (refine wpList_load_row_w rfl 92 (.tmp 3) rfl w.heap.size rfl _ #[.string nm, .int .i64 rate, .bool lp, .int .i64 f, .int .i64 t, .slice a R cap] _ _ X3.out Tryz.underlying92 rfl (HFs.out _ _ _ _) ?_) | (go_at_call 60; fail))
  refine HAdd.out.mono ?_
  rintro e w4 ⟨hbad, htw, hyes⟩
  clear HAdd X2 Hw3 H1c
  rw [HSn.out] at htw hyes
  by_cases hck : S.check = 0
  rotate_left
  ·obtain ⟨rfl, hb4⟩ := hbad hck
   have B4 := hid hb4
   have X4 := hid (hkeep X3.out hb4)
   have HC4 := hid (HCk.out w4 hb4)
   obtain ⟨ck, hckv⟩ : ∃ ck, S.check = ck := ⟨_, rfl⟩
   rw [hckv] at hck HC4 HCk ⊢
   have u1 : (ck != 0) = true := bne_iff_ne.2 hck
   clear hbad htw hyes hb4 hck hckv
   go_wp2_with (first | (refine wpList_load_row_w rfl 92 (.tmp 3) rfl w.heap.size rfl _ #[.string nm, .int .i64 rate, .bool lp, .int .i64 f, .int .i64 t, .slice a R cap] _ _ X4.out Tryz.underlying92 rfl (HFs.out _ _ _ _) ?_) | (go_at_call 61; fail))
   refine HC4.out.mono ?_
   rintro e w5 ⟨rfl, hb5⟩
   have B5 := hid (bnext B4.out hb5)
   have X5 := hid (hkeep X4.out hb5)
   have HC5 := hid (HCk.out w5 B5.out)
   clear hb5 HC4 HCk X4
   go_wp2_with (first | (refine wpList_load_row_w rfl 92 (.tmp 3) rfl w.heap.size rfl _ #[.string nm, .int .i64 rate, .bool lp, .int .i64 f, .int .i64 t, .slice a R cap] _ _ X5.out Tryz.underlying92 rfl (HFs.out _ _ _ _) ?_) | (go_at_call 61; fail))
   refine HC5.out.mono ?_
   rintro e w6 ⟨rfl, hb6⟩
   have B6 := hid (bnext B5.out hb6)
   clear hb6 HC5
   go_wp2_with (go_at_call 31; fail)
   refine (HAw.out _).mono ?_
   rintro e w7 ⟨rfl, hb7⟩
   go_wp2
   go_ret
   exact ⟨rfl, bnext (bnext E3.out B6.out) hb7⟩
  ·rw [hck] at HCk
   cases hat : atB Z nm with
   | true =>
    obtain ⟨rfl, hb4⟩ := htw hck hat
    have B4 := hid hb4
    have X4 := hid (hkeep X3.out hb4)
    have HC4 := hid (HCk.out w4 hb4)
    rw [hat] at HFi
    clear hbad htw hyes hb4 hck hat
    go_wp2_with (first | (refine wpList_load_row_w rfl 92 (.tmp 3) rfl w.heap.size rfl _ #[.string nm, .int .i64 rate, .bool lp, .int .i64 f, .int .i64 t, .slice a R cap] _ _ X4.out Tryz.underlying92 rfl (HFs.out _ _ _ _) ?_) | (go_at_call 61; fail))
    refine HC4.out.mono ?_
    rintro e w5 ⟨rfl, hb5⟩
    have B5 := hid (bnext B4.out hb5)
    have X5 := hid (hkeep X4.out hb5)
    have x0 : w5.cell? ⟨w.heap.size, 0, none⟩ = some (.string nm) := (cell_of_row _ _ _ _ _ _ X5.out).trans rfl
    have HF5 := hid (HFi.out w5 B5.out)
    clear hb5 HC4 HCk X4 HFi
    go_wp2_with (go_at_call 33; fail)
    refine HF5.out.mono ?_
    rintro e w6 ⟨⟨k, rfl⟩, hb6⟩
    have B6 := hid (bnext B5.out hb6)
    clear hb6 HF5 x0
    go_wp2_with (go_at_call 31; fail)
    refine (HAw.out _).mono ?_
    rintro e w7 ⟨rfl, hb7⟩
    go_wp2
    go_ret
    exact ⟨rfl, bnext (bnext E3.out B6.out) hb7⟩
   | false =>
    have hP := canP_one (size := 24) (by omega) (by omega) HSm.out hck
    obtain ⟨r1, hr1, hr2, hr3, hr4, hr5⟩ := one_raw hP
    obtain ⟨hY, g2, rfl, hg2, hby, hb4⟩ := hyes r1 hr1 hck hat
    have hle := atZ_le Z nm
    obtain ⟨kk, hkk⟩ : ∃ k, atZ Z nm = k := ⟨_, rfl⟩
    rw [hkk] at hY hby hle ⊢
    obtain ⟨Y, hYe⟩ : ∃ Y, Z.insertIdx kk r1 = Y := ⟨_, rfl⟩
    have hyi : Y[kk]? = some r1 := by rw [← hYe]; exact ins_self hle _
    have hyl : Y.length = Z.length + 1 := by rw [← hYe, List.length_insertIdx, if_pos hle]
    have hym : ∀ r ∈ Z, r ∈ Y := fun r hr => by rw [← hYe]; exact (mem_ins hle).2 (.inr hr)
    rw [hYe] at hY hby ⊢
    have hon := others_none HRs.out
    have B4 := hid hb4
    have X4 := hid (hkeep X3.out hb4)
    have HC4 := hid (HCk.out w4 hb4)
    have hrn : r1.m.name = nm := hr3.trans HSn.out
    have HK := hid (fun W (hW : Below w4.heap.size w4 W) => kept_of (HBk.out.later (bnext B4.out hW)) hY g2 (hkeep hby hW) ⟨#[]⟩ 1 (fun r hr _ => hym r hr) (by rw [hon]; omega))
    have HPa := hid (fun W (hW : Below w4.heap.size w4 W) => Parse_built hY.can g2 W (hkeep hby hW))
    have hgt := hY.get hyi
    have hyfew : (fOf Y).length ≤ 30000 := hY.few
    have hdl : (dOf Y).length = Y.length := dOf_len Y
    have hyn : (plcR (24 : Nat) (dOf Y) kk r1).m.name = nm := hrn
    have hasc : AscZ (allZ 24 (dOf Y) (fOf Y) (dOf Y).length) := (hY.can.raws hyfew).asc
    have hatY := at_name hasc hgt
    rw [hyn] at hatY
    have HRm := hid (fun W x (hB : BankAt W x (bldZ 24 (dOf Y) (fOf Y)) 24 (bldDir 24 (dOf Y))) => (show Calls Tryz.prog 45 #[.pointer (some ⟨x, 0, none⟩), .string nm] W (ImageP W 24 ((allZ 24 (dOf Y) (fOf Y) (dOf Y).length).eraseIdx kk)) from by
     refine (Remove_any hY.can hyfew x nm W hB).mono ?_
     rintro e w' ⟨-, h⟩
     have h := h hatY.2
     rw [hatY.1] at h
     exact h))
    have HKz := hid (fun W g3 (hW : Below w4.heap.size w4 W) (hV : RawsOk 24 ((allZ 24 (dOf Y) (fOf Y) (dOf Y).length).eraseIdx kk)) (hb : BytesAt W g3 (bldZ 24 (dOf ((allZ 24 (dOf Y) (fOf Y) (dOf Y).length).eraseIdx kk)) (fOf ((allZ 24 (dOf Y) (fOf Y) (dOf Y).length).eraseIdx kk)))) => (show Calls Tryz.prog 35 #[.pointer (some ⟨g, 0, none⟩), .slice (some ⟨g3, 0, none⟩) (bldN 24 (dOf ((allZ 24 (dOf Y) (fOf Y) (dOf Y).length).eraseIdx kk))) (bldN 24 (dOf ((allZ 24 (dOf Y) (fOf Y) (dOf Y).length).eraseIdx kk))), .string ⟨#[]⟩, .int .i64 0] W (fun e w' => e = .returned (.bool true) ∧ Below W.heap.size W w') from by
     refine kept_any (more := 0) (HBk.out.later (bnext B4.out hW)) hV.can g3 hb ⟨#[]⟩ (fun i r hr _ => ?_) ?_
     ·have hrY := hym r (List.mem_of_getElem? hr)
      obtain ⟨j, hj⟩ := List.getElem?_of_mem hrY
      have hgj := hY.get hj
      have hjk : j ≠ kk := fun e => by
       subst e
       rw [hyi] at hj
       injection hj with hj
       have h1 : atB Z nm = true := (at_true HBk.out.asc).2 ⟨r, List.mem_of_getElem? hr, by rw [← hj]; exact hrn⟩
       rw [hat] at h1
       cases h1
      have hmem : plcR (24 : Nat) (dOf Y) j r ∈ (allZ 24 (dOf Y) (fOf Y) (dOf Y).length).eraseIdx kk := List.mem_eraseIdx_iff_getElem?.2 ⟨j, hjk, hgj⟩
      obtain ⟨k2, s2, h1, h2, h3⟩ := stays hV hmem
      exact ⟨k2, s2, h1, h2, h3⟩
     ·rw [hon, dOf_len, List.length_eraseIdx, allZ_len 24 (dOf Y) (fOf Y) _ (Nat.le_refl _), hdl, if_pos (by omega)]
      omega))
    have HFx := hid (fun W x (hx : BankOf W x 24 (allZ 24 (dOf Y) (fOf Y) (dOf Y).length) (bldZ 24 (dOf Y) (fOf Y))) => (show Calls Tryz.prog 33 #[.pointer (some ⟨x, 0, none⟩), .string nm] W (fun e w' => e = .returned (.tuple #[.int .i64 (kk : Nat), .bool true]) ∧ Below W.heap.size W w') from by
     have h := Find_any x 24 _ _ nm W hx.at_ (by omega) hx.fit.many (ascN_of hx.asc)
     have h2 := find_name (ascN_of hx.asc) (dOf_get hgt)
     rw [hyn] at h2
     rwa [h2.1, h2.2] at h))
    have HMx := hid (fun W x (hx : BankOf W x 24 (allZ 24 (dOf Y) (fOf Y) (dOf Y).length) (bldZ 24 (dOf Y) (fOf Y))) => (show Calls Tryz.prog 36 #[.pointer (some ⟨x, 0, none⟩), .int .i64 (kk : Nat)] W (fun e w' => e = .returned (.tuple #[.agg (plcR (24 : Nat) (dOf Y) kk r1).m.cells.toArray, .int .i64 0]) ∧ Below W.heap.size W w') from by
     have h := BMeta_any x 24 _ _ kk W hx.at_ (by omega) (by have := hx.fit.many; omega)
     rwa [(meta_i (dOf_get hgt)).1, (meta_i (dOf_get hgt)).2] at h))
    have HMo := hid (fun W gg (hW : Below w3.heap.size w3 W) (hb : Blk W gg 92 [.string nm, .int .i64 rate, .bool lp, .int .i64 f, .int .i64 t, .slice a R cap]) => (show Calls Tryz.prog 30 #[.slice (some ⟨gg, 0, none⟩) 1 1] W (fun e w' => ∃ go, e = .returned (.pointer (some ⟨go, 0, none⟩)) ∧ (∃ bo, BankOf w' go 24 [r1] bo) ∧ Below W.heap.size W w') from by
     refine (HMd.out W gg hW hb).mono ?_
     rintro e w' ⟨hbl, ⟨hE, _⟩ | ⟨_, hC1, go, he, hBo, _⟩⟩
     ·exfalso
      refine hE ?_
      unfold packE
      rw [if_neg (by omega)]
      exact checkAll_one hck
     ·rw [sort_one] at hC1 hBo
      rw [hC1.bld_eq, ← bldDir_pack] at hBo
      have hbo := bankOf_built hC1.can hBo
      rw [show allZ 24 ([S].map metaOf) (frTo 24 [S] [S].length) ([S].map metaOf).length = [r1] from hr1] at hbo
      exact ⟨go, he, ⟨_, hbo⟩, hbl⟩))
    have HSx := hid (fun W go bo x (ho : BankOf W go 24 [r1] bo) (hx : BankOf W x 24 (allZ 24 (dOf Y) (fOf Y) (dOf Y).length) (bldZ 24 (dOf Y) (fOf Y))) => (show Calls Tryz.prog 38 #[.pointer (some ⟨go, 0, none⟩), .int .i64 0, .pointer (some ⟨x, 0, none⟩), .int .i64 (kk : Nat)] W (fun e w' => e = .returned (.bool true) ∧ Below W.heap.size W w') from
     same_any (i := 0) ho hx (show ([r1] : List RawV)[0]? = some r1 from rfl) hgt (show r1.m.length = r1.m.length from rfl) (show r1.m.channels = r1.m.channels from rfl) rfl))
    have hpm : plainM (plcR (24 : Nat) (dOf Y) kk r1).m = metaOf S := (show plainM (plcR (24 : Nat) (dOf Y) kk r1).m = plainM r1.m from rfl).trans (hr2.trans rfl)
    have HEq := hid (eq_meta (metaOf S))
    have hk64 : kk ≤ 64 := by have := Hzl.out; omega
    have HY := hid hY
    obtain ⟨N, hN⟩ : ∃ N, bldN 24 (dOf Y) = N := ⟨_, rfl⟩
    rw [hN] at HK HPa ⊢
    obtain ⟨V, hV⟩ : ∃ V, (allZ 24 (dOf Y) (fOf Y) (dOf Y).length).eraseIdx kk = V := ⟨_, rfl⟩
    rw [hV] at HRm HKz
    obtain ⟨pm, hpme⟩ : ∃ pm, (plcR (24 : Nat) (dOf Y) kk r1).m = pm := ⟨_, rfl⟩
    rw [hpme] at HMx hpm
    obtain ⟨mo, hmo⟩ : ∃ mo, metaOf S = mo := ⟨_, rfl⟩
    rw [hmo] at hpm HEq HMt
    obtain ⟨qn, ql, qr, qc, qp, qf, qt, rs, ro⟩ := pm
    simp only [plainM] at hpm
    subst hpm
    simp only [MetaV.cells] at HMx HEq HMt
    have HP1 := hid (fun W => plain29_any qn ql qr qc qp qf qt rs ro W)
    rw [hat] at HFi
    clear hbad htw hyes hb4 hck hat hP hr1 hr2 hr3 hr4 hr5 hY hg2 hby hle hkk hYe hyi hyl hym hon hrn hgt hyfew hdl hyn hasc hatY hN hV hpme hmo HMd HSm HRs
    go_wp2_with (first | (refine wpList_load_row_w rfl 92 (.tmp 3) rfl w.heap.size rfl _ #[.string nm, .int .i64 rate, .bool lp, .int .i64 f, .int .i64 t, .slice a R cap] _ _ X4.out Tryz.underlying92 rfl (HFs.out _ _ _ _) ?_) | (go_at_call 61; fail))
    refine HC4.out.mono ?_
    rintro e w5 ⟨rfl, hb5⟩
    have B5 := hid (bnext B4.out hb5)
    have D5 := hid hb5
    have X5 := hid (hkeep X4.out hb5)
    have x0 : w5.cell? ⟨w.heap.size, 0, none⟩ = some (.string nm) := (cell_of_row _ _ _ _ _ _ X5.out).trans rfl
    have HF5 := hid (HFi.out w5 B5.out)
    clear hb5 HC4 HCk X4 HFi
    go_wp2_with (go_at_call 33; fail)
    refine HF5.out.mono ?_
    rintro e w6 ⟨⟨k6, rfl⟩, hb6⟩
    have B6 := hid (bnext B5.out hb6)
    have D6 := hid (bnext D5.out hb6)
    have X6 := hid (hkeep X5.out hb6)
    have D7 := hid (bnext D6.out (bnew w6 (.cells #[.string nm, .int .i64 rate, .bool lp, .int .i64 f, .int .i64 t, .slice a R cap] 92)))
    have HM6 := hid (HMo.out (w6.alloc (.cells #[.string nm, .int .i64 rate, .bool lp, .int .i64 f, .int .i64 t, .slice a R cap] 92)) w6.heap.size (bnext B6.out (bnew w6 _)) (Blk.new w6 _ _))
    obtain ⟨i0, hi, hz0, hi1, hi2⟩ := info_parts inf_samp
    clear hb6 HF5 x0 X5 HMo
    go_wp2_with (first | (refine wpList_load_row_w rfl 92 (.tmp 3) rfl w.heap.size rfl _ #[.string nm, .int .i64 rate, .bool lp, .int .i64 f, .int .i64 t, .slice a R cap] _ _ X6.out Tryz.underlying92 rfl (HFs.out _ _ _ _) ?_) | (refine wpList_build_one rfl 39 92 (.tmp 65) rfl i0 _ 6 Tryz.underlying39 hi hz0 hi1 (by omega) (by omega) #[.string nm, .int .i64 rate, .bool lp, .int .i64 f, .int .i64 t, .slice a R cap] rfl rfl ?_) | (go_at_call 30; fail))
    refine HM6.out.mono ?_
    rintro e w7 ⟨go, rfl, ⟨bo, hbo⟩, hb7⟩
    have D8 := hid (bnext D7.out hb7)
    have X7 := hid (hkeep (hkeep X6.out (bnew w6 _)) hb7)
    have HO := hid hbo
    have HP7 := hid (HPa.out w7 D8.out)
    clear hbo hb7 HM6 X6 HPa hi hz0 hi1 hi2
    go_wp2_with (go_at_call 19; fail)
    refine HP7.out.mono ?_
    rintro e w8 ⟨x, rfl, -, hBx, hb8⟩
    have D9 := hid (bnext D8.out hb8)
    have F8 := hid hb8
    have X8 := hid (hkeep X7.out hb8)
    have HBx := hid hBx
    have HX := hid (bankOf_built HY.out.can hBx)
    have HK8 := hid (HK.out w8 D9.out)
    clear hBx hb8 HP7 HK X7
    go_wp2_with (go_at_call 35; fail)
    refine HK8.out.mono ?_
    rintro e w9 ⟨rfl, hb9⟩
    have G9 := hid hb9
    have X9 := hid (hkeep X8.out hb9)
    have x9 : w9.cell? ⟨w.heap.size, 0, none⟩ = some (.string nm) := (cell_of_row _ _ _ _ _ _ X9.out).trans rfl
    have HF9 := hid (HFx.out w9 x (HX.out.later hb9))
    clear hb9 HK8 HFx X8
    go_wp2_with (go_at_call 33; fail)
    refine HF9.out.mono ?_
    rintro e w10 ⟨rfl, hb10⟩
    have G10 := hid (bnext G9.out hb10)
    have X10 := hid (hkeep X9.out hb10)
    have HM10 := hid (HMx.out w10 x (HX.out.later G10.out))
    clear hb10 HF9 HMx X9 x9
    go_wp2_with (go_at_call 36; fail)
    refine HM10.out.mono ?_
    rintro e w11 ⟨rfl, hb11⟩
    obtain ⟨w12, hw12⟩ : ∃ w12, w11.alloc (.cells #[.string qn, .int .i64 ql, .int .i64 qr, .int .i64 qc, .bool qp, .int .i64 qf, .int .i64 qt, .int .i64 rs, .int .i64 ro] 27) = w12 := ⟨_, rfl⟩
    have G12 := hid (show Below w8.heap.size w8 w12 by rw [← hw12]; exact bnext (bnext G10.out hb11) (bnew w11 _))
    have Y12 := hid (show w12.heap[w11.heap.size]? = some (.cells #[.string qn, .int .i64 ql, .int .i64 qr, .int .i64 qc, .bool qp, .int .i64 qf, .int .i64 qt, .int .i64 rs, .int .i64 ro] 27 (0, 0)) by rw [← hw12]; exact heap_alloc_new w11 _)
    have X12 := hid (show w12.heap[w.heap.size]? = some (.cells #[.string nm, .int .i64 rate, .bool lp, .int .i64 f, .int .i64 t, .slice a R cap] 92 (0, 0)) by rw [← hw12]; exact hkeep (hkeep X10.out hb11) (bnew w11 _))
    have x12 : w12.cell? ⟨w.heap.size, 0, none⟩ = some (.string nm) := (cell_of_row _ _ _ _ _ _ X12.out).trans rfl
    have HR12 := hid (HRm.out w12 x (HBx.out.later G12.out))
    clear hb11 HM10 X10 HRm
    go_wp2_with (go_at_call 45; fail)
    refine HR12.out.mono ?_
    rintro e w13 ⟨hV, g3, rfl, hg3, hbz, hb13⟩
    have G13 := hid (bnext G12.out hb13)
    have X13 := hid (hkeep X12.out hb13)
    have Y13 := hid (hkeep Y12.out hb13)
    have HK13 := hid (fun (z : GW w13) => HKz.out z.1 g3 (bnext (bnext D9.out G13.out) z.2) hV (hkeep hbz z.2))
    have HS13 := hid (fun (z : GW w13) => HSx.out z.1 go bo x (HO.out.later (bnext (bnext F8.out G13.out) z.2)) (HX.out.later (bnext G13.out z.2)))
    have HT13 := hid (fun (z : GW w13) => HMt.out z.1 (bnext (bnext (bnext B4.out D9.out) G13.out) z.2))
    have xm : ∀ (z : GW w13), z.1.heap[w11.heap.size]? = some (.cells #[.string qn, .int .i64 ql, .int .i64 qr, .int .i64 qc, .bool qp, .int .i64 qf, .int .i64 qt, .int .i64 rs, .int .i64 ro] 27 (0, 0)) := fun z => hkeep Y13.out z.2
    have xs : ∀ (z : GW w13), z.1.heap[w.heap.size]? = some (.cells #[.string nm, .int .i64 rate, .bool lp, .int .i64 f, .int .i64 t, .slice a R cap] 92 (0, 0)) := fun z => hkeep X13.out z.2
    obtain ⟨NV, hNV⟩ : ∃ NV, bldN 24 (dOf V) = NV := ⟨_, rfl⟩
    rw [hNV] at HK13 ⊢
    have HFm := hid (show (Tryz.prog.info? 27).map (·.size) = some 9 by kernel_rfl)
    have HFq := hid (show (Tryz.prog.info? 92).map (·.size) = some 6 by kernel_rfl)
    clear hV hg3 hbz hb13 HR12 HKz HSx HMt hNV x12 X12 Y12
    go_wp2_with fail
    refine wp_region_calm (by kernel_rfl) (by kernel_rfl) ?_
    repeat (first | (go_big_quiet_want; refine quiet_load_row 27 (.tmp 15) rfl w11.heap.size rfl _ #[.string qn, .int .i64 ql, .int .i64 qr, .int .i64 qc, .bool qp, .int .i64 qf, .int .i64 qt, .int .i64 rs, .int .i64 ro] _ _ (by rintro _ ⟨z, rfl⟩; exact xm z) Tryz.underlying27 rfl HFm.out ?_; go_simp; go_big_quiet_on) | (go_big_quiet_want; refine quiet_load_row 92 (.tmp 3) rfl w.heap.size rfl _ #[.string nm, .int .i64 rate, .bool lp, .int .i64 f, .int .i64 t, .slice a R cap] _ _ (by rintro _ ⟨z, rfl⟩; exact xs z) Tryz.underlying92 rfl HFq.out ?_; go_simp; go_big_quiet_on) | go_big_quiet_step ((first | (go_at_call 37; exact calm_call (HP1.out _)) | (go_at_call 53; rename_i z; exact calm_call (HT13.out z)) | (go_at_call 38; rename_i z; exact calm_call (HS13.out z)) | (go_at_call 35; rename_i z; exact calm_call (HK13.out z)) | (go_at_call 31; exact calm_call (HAw.out _)))))
    refine wpQuiet_nil ?_
    intro wz hw'
    have Ez := hid (bnext (bnext (bnext (bnext E3.out B4.out) D9.out) G13.out) (gw_below hw'))
    clear hw' xm xs
    go_wp2
    go_ret
    exact ⟨rfl, Ez.out⟩
theorem EditAdds_law (W : World) (v0 v1 : Value) (a0 : Arg W (.slice 6 sampTy) v0) (a1 : Arg W sampTy v1) :
  Calls Tryz.prog 12 #[v0, v1] W fun e w' => e = .returned (.bool true) ∧ Below W.heap.size W w' := by
 obtain ⟨L, A, cap, rfl, _, _, _, hs, hn⟩ := samps_arg a0
 obtain ⟨cs, rfl, c1, r1, rfl, ⟨nm, rfl, hs0⟩, c2, r2, rfl, ⟨rate, rfl, l1, l2⟩, c3, r3, rfl, ⟨lp, rfl⟩, c4, r4, rfl, ⟨f, rfl, l3, l4⟩, c5, r5, rfl, ⟨t, rfl, l5, l6⟩, c6, r6, rfl, hd, rfl⟩ := a1
 obtain ⟨a, c, vs, rows, rfl, h1, h2, h3, h4, h5⟩ := mat_of_shape hd
 exact EditAdds_walk L A cap nm rate lp f t a c vs rows W hs hn hs0 h3 h4
end Go.Proofs.YtgcfkblmnpnogaaGreatDoor
