/- LawEL. Conditions: as each theorem states. -/
import Derived.Test.YtgcfkblmnpnogaaGreatDoorPm46
import Derived.Test.YtgcfkblmnpnogaaGreatDoorPmxEdM
import Derived.Test.YtgcfkblmnpnogaaGreatDoorPmxEdX
namespace Go.Proofs.YtgcfkblmnpnogaaGreatDoor
open Go.RowKit Go.Lib
theorem loop_right {m : MetaV} (h : m.right = true) (a b : Int) : (loopM m a b).right = !(decide (a ≠ b) && (decide (a < 0) || decide (b < a) || decide (m.length < b))) := by
 have h0 := h
 unfold MetaV.right at h0
 simp only [Bool.and_eq_true] at h0
 obtain ⟨⟨⟨⟨⟨⟨h1, h2⟩, h3⟩, h4⟩, h5⟩, h6⟩, _⟩ := h0
 unfold MetaV.right loopM loopOk
 simp only [h1, h2, h3, h4, h5, h6, Bool.true_and]
 simp only [decide_eq_true_eq] at h2 h3
 by_cases hab : a = b
 ·simp [hab]
 ·rw [Bool.eq_iff_iff]
  simp only [hab, decide_false, Bool.not_false, if_true, if_false, Bool.and_eq_true, decide_eq_true_eq, Bool.not_eq_true', Bool.and_eq_false_iff, Bool.or_eq_false_iff, decide_eq_false_iff_not, ne_eq, not_false_eq_true, decide_true, Bool.true_eq_false, false_or, Int.not_lt]
  omega
theorem mem_set_ne {Z : List RawV} {i : Nat} {r s r' : RawV} (hs : Z[i]? = some s) (hr : r ∈ Z) (hne : (r.m.name.toList == s.m.name.toList) = false) : r ∈ Z.set i r' := by
 obtain ⟨j, hj⟩ := List.getElem?_of_mem hr
 have hij : i ≠ j := fun e => by
  subst e
  rw [hs] at hj
  injection hj with hj
  subst hj
  rw [beq_self_eq_true] at hne
  cases hne
 refine List.mem_of_getElem? (i := j) ?_
 rw [List.getElem?_set_ne hij]
 exact hj
theorem others_set {Z : List RawV} (h : AscZ Z) {i : Nat} {r : RawV} (hr : Z[i]? = some r) (r' : RawV) : 1 + others r.m.name Z = (Z.set i r').length := by
 have hi := (List.getElem?_eq_some_iff.1 hr).1
 rw [others_at h hr, List.length_eraseIdx, if_pos hi, List.length_set]
 omega
set_option maxRecDepth 100000 in
set_option maxHeartbeats 16000000 in
theorem EditLoops_walk (L : List (HSamp × SampV)) (A : Option Addr) (cap : Nat) (name : ByteArray) (a b : Int) (w : World) (hs : SampsAt w w.heap.size A L) (hnm : ∀ p ∈ L, NameFits p) :
  Calls Tryz.prog 9 #[.slice A L.length cap, .string name, .int .i64 a, .int .i64 b] w fun e w' => e = .returned (.bool true) ∧ Below w.heap.size w w' := by
 have HM := Lib.hid (made29_law L A cap w hs hnm)
 have HAw := Lib.hid (fun W => awake29_any W)
 clear hs hnm
 unfold MadeB at HM
 go_enter Tryz.func9, Tryz.ntmps9
 go_wp2_with (go_at_call 30; fail)
 refine HM.out.mono ?_
 rintro e w1 ⟨hb1, rfl | ⟨D, FR, g, hC, hFR, rfl, hB, hg⟩⟩
 ·have E1 := Lib.hid hb1
  clear hb1 HM
  go_wp2_with (go_at_call 31; fail)
  refine (HAw.out _).mono ?_
  rintro e w2 ⟨rfl, hb2⟩
  go_wp2
  go_ret
  exact ⟨rfl, bnext E1.out hb2⟩
 ·have E1 := Lib.hid hb1
  have HLo := Lib.hid (Loop_any hC hFR g name a b w1 hB)
  have HBk := Lib.hid (bankOf_built hC hB)
  have HRs := Lib.hid (hC.raws hFR)
  generalize allZ 24 D FR D.length = Z at *
  generalize bldZ 24 D FR = bs at *
  have HFi := Lib.hid (fun W (hW : Below w1.heap.size w1 W) => (show Calls Tryz.prog 33 #[.pointer (some ⟨g, 0, none⟩), .string name] W (fun e w' => e = .returned (.tuple #[.int .i64 (findN (dOf Z) name : Nat), .bool (atB Z name)]) ∧ Below W.heap.size W w') from by
   refine (Find_any g 24 bs (dOf Z) name W (HBk.out.at_.later hW) (by omega) HBk.out.fit.many (ascN_of HBk.out.asc)).mono ?_
   rintro e w' ⟨rfl, hb⟩
   rw [(at_find HBk.out.asc name).1]
   exact ⟨rfl, hb⟩))
  clear hb1 HM hC hFR hB hg
  go_wp2_with (go_at_call 47; fail)
  refine HLo.out.mono ?_
  rintro e w2 ⟨hno, hyes⟩
  cases hat : atB Z name with
  | false =>
   obtain ⟨rfl, hb2⟩ := hno hat
   have E2 := Lib.hid (bnext E1.out hb2)
   have HF2 := Lib.hid (HFi.out w2 hb2)
   rw [hat] at HF2
   clear hno hyes hb2 HFi HLo
   go_wp2_with (go_at_call 33; fail)
   refine HF2.out.mono ?_
   rintro e w3 ⟨rfl, hb3⟩
   have E3 := Lib.hid (bnext E2.out hb3)
   clear hb3 HF2
   go_wp2_with (go_at_call 31; fail)
   refine (HAw.out _).mono ?_
   rintro e w4 ⟨rfl, hb4⟩
   go_wp2
   go_ret
   exact ⟨rfl, bnext E3.out hb4⟩
  | true =>
   obtain ⟨r, hr, hrn⟩ := at_of hat
   have hat2 := at_find HBk.out.asc name
   have hy := hyes r hat hr
   obtain ⟨i, hi⟩ : ∃ i, atZ Z name = i := ⟨_, rfl⟩
   have hin := (List.getElem?_eq_some_iff.1 hr).1
   have hfn : findN (dOf Z) name = i := by rw [← hat2.2 hat, hi]
   rw [hi] at hr hy hin
   rw [hfn, hat] at HFi
   have hrz := HRs.out.each r (List.mem_of_getElem? hr)
   have hlr := loop_right hrz.right a b
   have HMe := Lib.hid (fun W (hW : Below w1.heap.size w1 W) => (show Calls Tryz.prog 36 #[.pointer (some ⟨g, 0, none⟩), .int .i64 (i : Nat)] W (fun e w' => e = .returned (.tuple #[.agg r.m.cells.toArray, .int .i64 0]) ∧ Below W.heap.size W w') from by
    have h := BMeta_any g 24 bs (dOf Z) i W (HBk.out.at_.later hW) (by omega) (by have := HBk.out.fit.many; omega)
    rwa [(meta_i (dOf_get hr)).1, (meta_i (dOf_get hr)).2] at h))
   have hi64 : i ≤ 64 := by have := HRs.out.many; omega
   have hb2 : Below w1.heap.size w1 w2 := by
    by_cases h : (loopM r.m a b).right = true
    ·rw [if_pos h] at hy
     obtain ⟨_, _, _, _, _, h⟩ := hy
     exact h
    ·rw [if_neg h] at hy
     exact hy.2
   have E2 := Lib.hid (bnext E1.out hb2)
   have B2 := Lib.hid hb2
   have HF2 := Lib.hid (HFi.out w2 hb2)
   have Hr := Lib.hid hr
   have Hy := Lib.hid hy
   have Hrz := Lib.hid hrz
   have Hrn := Lib.hid hrn
   have HEq := Lib.hid (eq_meta (plainM (loopM r.m a b)))
   have Hlr := Lib.hid hlr
   clear hno hyes hat2 hr hrz hb2 hrn hlr HLo HFi hfn hin hat hi
   cases hk : (decide (a ≠ b) && (decide (a < 0) || decide (b < a) || decide (r.m.length < b))) with
   | true =>
    rw [hk, Bool.not_true] at Hlr
    have hy2 := Hy.out
    rw [if_neg (by rw [Hlr.out]; exact Bool.false_ne_true)] at hy2
    obtain ⟨rfl, -⟩ := hy2
    simp only [Bool.and_eq_true, Bool.or_eq_true, decide_eq_true_eq] at hk
    obtain ⟨⟨nm, len, rate, ch, lp, f, t, s0, f0⟩, fs⟩ := r
    simp only [MetaV.cells] at HMe
    simp only at hk
    clear Hy HEq Hlr
    obtain ⟨hab, hk⟩ := hk
    have v1 : (a != b) = true := by simp [hab]
    clear hab
    by_cases q1 : a < 0
    ·have v2 : decide (a < 0) = true := decide_eq_true q1
     go_wp2_with (go_at_call 33; fail)
     refine HF2.out.mono ?_
     rintro e w3 ⟨rfl, hb3⟩
     have E3 := Lib.hid (bnext E2.out hb3)
     have B3 := Lib.hid (bnext B2.out hb3)
     have C3 := Lib.hid hb3
     have HM3 := Lib.hid (HMe.out w3 B3.out)
     clear hb3 HF2 HMe
     go_wp2_with (go_at_call 36; fail)
     refine HM3.out.mono ?_
     rintro e w4 ⟨rfl, hb4⟩
     have E4 := Lib.hid (bnext E3.out hb4)
     have B4 := Lib.hid (bnext B3.out hb4)
     have C4 := Lib.hid (bnext C3.out hb4)
     clear hb4 HM3
     obtain ⟨w5, hw5⟩ : ∃ w5, w4.alloc (.cells #[.string nm, .int .i64 len, .int .i64 rate, .int .i64 ch, .bool lp, .int .i64 f, .int .i64 t, .int .i64 s0, .int .i64 f0] 27) = w5 := ⟨_, rfl⟩
     have E5 := Lib.hid (show Below w.heap.size w w5 by rw [← hw5]; exact bnext E4.out (bnew w4 _))
     have x1 : w5.cell? ⟨w4.heap.size, 1, none⟩ = some (.int .i64 len) := by rw [← hw5]; exact (Blk.new w4 27 [.string nm, .int .i64 len, .int .i64 rate, .int .i64 ch, .bool lp, .int .i64 f, .int .i64 t, .int .i64 s0, .int .i64 f0]).cell 1
     go_wp2_with (go_at_call 31; fail)
     refine (HAw.out _).mono ?_
     rintro e w6 ⟨rfl, hb6⟩
     go_wp2
     go_ret
     exact ⟨rfl, bnext E5.out hb6⟩
    ·have v2 : decide (a < 0) = false := decide_eq_false q1
     by_cases q2 : b < a
     ·have v3 : decide (b < a) = true := decide_eq_true q2
      go_wp2_with (go_at_call 33; fail)
      refine HF2.out.mono ?_
      rintro e w3 ⟨rfl, hb3⟩
      have E3 := Lib.hid (bnext E2.out hb3)
      have B3 := Lib.hid (bnext B2.out hb3)
      have C3 := Lib.hid hb3
      have HM3 := Lib.hid (HMe.out w3 B3.out)
      clear hb3 HF2 HMe
      go_wp2_with (go_at_call 36; fail)
      refine HM3.out.mono ?_
      rintro e w4 ⟨rfl, hb4⟩
      have E4 := Lib.hid (bnext E3.out hb4)
      have B4 := Lib.hid (bnext B3.out hb4)
      have C4 := Lib.hid (bnext C3.out hb4)
      clear hb4 HM3
      obtain ⟨w5, hw5⟩ : ∃ w5, w4.alloc (.cells #[.string nm, .int .i64 len, .int .i64 rate, .int .i64 ch, .bool lp, .int .i64 f, .int .i64 t, .int .i64 s0, .int .i64 f0] 27) = w5 := ⟨_, rfl⟩
      have E5 := Lib.hid (show Below w.heap.size w w5 by rw [← hw5]; exact bnext E4.out (bnew w4 _))
      have x1 : w5.cell? ⟨w4.heap.size, 1, none⟩ = some (.int .i64 len) := by rw [← hw5]; exact (Blk.new w4 27 [.string nm, .int .i64 len, .int .i64 rate, .int .i64 ch, .bool lp, .int .i64 f, .int .i64 t, .int .i64 s0, .int .i64 f0]).cell 1
      go_wp2_with (go_at_call 31; fail)
      refine (HAw.out _).mono ?_
      rintro e w6 ⟨rfl, hb6⟩
      go_wp2
      go_ret
      exact ⟨rfl, bnext E5.out hb6⟩
     ·have v3 : decide (b < a) = false := decide_eq_false q2
      have v4 : decide (len < b) = true := decide_eq_true (by omega)
      have v5 : len < b := by omega
      go_wp2_with (go_at_call 33; fail)
      refine HF2.out.mono ?_
      rintro e w3 ⟨rfl, hb3⟩
      have E3 := Lib.hid (bnext E2.out hb3)
      have B3 := Lib.hid (bnext B2.out hb3)
      have C3 := Lib.hid hb3
      have HM3 := Lib.hid (HMe.out w3 B3.out)
      clear hb3 HF2 HMe
      go_wp2_with (go_at_call 36; fail)
      refine HM3.out.mono ?_
      rintro e w4 ⟨rfl, hb4⟩
      have E4 := Lib.hid (bnext E3.out hb4)
      have B4 := Lib.hid (bnext B3.out hb4)
      have C4 := Lib.hid (bnext C3.out hb4)
      clear hb4 HM3
      obtain ⟨w5, hw5⟩ : ∃ w5, w4.alloc (.cells #[.string nm, .int .i64 len, .int .i64 rate, .int .i64 ch, .bool lp, .int .i64 f, .int .i64 t, .int .i64 s0, .int .i64 f0] 27) = w5 := ⟨_, rfl⟩
      have E5 := Lib.hid (show Below w.heap.size w w5 by rw [← hw5]; exact bnext E4.out (bnew w4 _))
      have x1 : w5.cell? ⟨w4.heap.size, 1, none⟩ = some (.int .i64 len) := by rw [← hw5]; exact (Blk.new w4 27 [.string nm, .int .i64 len, .int .i64 rate, .int .i64 ch, .bool lp, .int .i64 f, .int .i64 t, .int .i64 s0, .int .i64 f0]).cell 1
      go_wp2_with (go_at_call 31; fail)
      refine (HAw.out _).mono ?_
      rintro e w6 ⟨rfl, hb6⟩
      go_wp2
      go_ret
      exact ⟨rfl, bnext E5.out hb6⟩
   | false =>
    rw [hk, Bool.not_false] at Hlr
    have hy2 := Hy.out
    rw [if_pos Hlr.out] at hy2
    obtain ⟨hY, g2, rfl, hg2, hby, hb2⟩ := hy2
    obtain ⟨Y, hYe⟩ : ∃ Y, Z.set i ⟨loopM r.m a b, r.fs⟩ = Y := ⟨_, rfl⟩
    have hyi : Y[i]? = some ⟨loopM r.m a b, r.fs⟩ := by
     rw [← hYe, List.getElem?_set, if_pos rfl, if_pos (List.getElem?_eq_some_iff.1 Hr.out).1]
    have HK := Lib.hid (fun W (hW : Below w2.heap.size w2 W) => kept_of (HBk.out.later (bnext B2.out hW)) hY g2 (hkeep hby hW) name 1 (fun q hq hne => mem_set_ne Hr.out hq (by rw [Hrn.out]; exact hne)) (by
     have h := others_set HBk.out.asc Hr.out ⟨loopM r.m a b, r.fs⟩
     rw [Hrn.out] at h
     exact h))
    rw [hYe] at hY hby HK ⊢
    have HPa := Lib.hid (fun W (hW : Below w2.heap.size w2 W) => Parse_built hY.can g2 W (hkeep hby hW))
    have hgt := hY.get hyi
    have HFx := Lib.hid (fun W x (hx : BankOf W x 24 (allZ 24 (dOf Y) (fOf Y) (dOf Y).length) (bldZ 24 (dOf Y) (fOf Y))) => (show Calls Tryz.prog 33 #[.pointer (some ⟨x, 0, none⟩), .string name] W (fun e w' => e = .returned (.tuple #[.int .i64 (i : Nat), .bool true]) ∧ Below W.heap.size W w') from by
     have h := Find_any x 24 _ _ name W hx.at_ (by omega) hx.fit.many (ascN_of hx.asc)
     have h2 := find_name (ascN_of hx.asc) (dOf_get hgt)
     have h3 : (plcR (24 : Nat) (dOf Y) i ⟨loopM r.m a b, r.fs⟩).m.name = name := Hrn.out
     rw [h3] at h2
     rwa [h2.1, h2.2] at h))
    have HMx := Lib.hid (fun W x (hx : BankOf W x 24 (allZ 24 (dOf Y) (fOf Y) (dOf Y).length) (bldZ 24 (dOf Y) (fOf Y))) => (show Calls Tryz.prog 36 #[.pointer (some ⟨x, 0, none⟩), .int .i64 (i : Nat)] W (fun e w' => e = .returned (.tuple #[.agg (plcR (24 : Nat) (dOf Y) i ⟨loopM r.m a b, r.fs⟩).m.cells.toArray, .int .i64 0]) ∧ Below W.heap.size W w') from by
     have h := BMeta_any x 24 _ _ i W hx.at_ (by omega) (by have := hx.fit.many; omega)
     rwa [(meta_i (dOf_get hgt)).1, (meta_i (dOf_get hgt)).2] at h))
    have HSx := Lib.hid (fun W x (hW : Below w1.heap.size w1 W) (hx : BankOf W x 24 (allZ 24 (dOf Y) (fOf Y) (dOf Y).length) (bldZ 24 (dOf Y) (fOf Y))) => same_any (HBk.out.later hW) hx Hr.out hgt (show (loopM r.m a b).length = r.m.length from rfl) (show (loopM r.m a b).channels = r.m.channels from rfl) rfl)
    have HY := Lib.hid hY
    obtain ⟨N, hN⟩ : ∃ N, bldN 24 (dOf Y) = N := ⟨_, rfl⟩
    rw [hN] at HK HPa ⊢
    simp only [Bool.and_eq_false_iff, Bool.or_eq_false_iff, decide_eq_false_iff_not] at hk
    obtain ⟨⟨nm, len, rate, ch, lp, f, t, s0, f0⟩, fs⟩ := r
    simp only [MetaV.cells] at HMe
    simp only at hk
    clear Hy Hlr hY hYe hyi hgt hN hg2 hby hb2
    by_cases hft : a = b
    ·have v1 : (a != b) = false := by simp [hft]
     have v2 : (a == b) = true := by simp [hft]
     have Hft := Lib.hid hft
     clear hft hk
     have HLM := Lib.hid (show loopM ⟨nm, len, rate, ch, lp, f, t, s0, f0⟩ a b = ⟨nm, len, rate, ch, false, 0, 0, s0, f0⟩ from by unfold loopM; simp [Hft.out])
     rw [HLM.out] at HMx HEq
     simp only [MetaV.cells, plcR, plc] at HMx
     simp only [plainM, MetaV.cells] at HEq
     obtain ⟨s1, hs1⟩ : ∃ s1, atTo ((24 : Nat) : Int) (dOf Y) i = s1 := ⟨_, rfl⟩
     obtain ⟨f1, hf1⟩ : ∃ f1, upZ (atTo ((24 : Nat) : Int) (dOf Y) i + 4 * framesN ⟨nm, len, rate, ch, false, 0, 0, s0, f0⟩) 16 = f1 := ⟨_, rfl⟩
     rw [hf1, hs1] at HMx
     have HP0 := Lib.hid (fun W => plain29_any nm len rate ch false 0 0 s0 f0 W)
     have HP1 := Lib.hid (fun W => plain29_any nm len rate ch false 0 0 s1 f1 W)
     clear hs1 hf1
     go_wp2_with (go_at_call 33; fail)
     refine HF2.out.mono ?_
     rintro e w3 ⟨rfl, hb3⟩
     have E3 := Lib.hid (bnext E2.out hb3)
     have B3 := Lib.hid (bnext B2.out hb3)
     have C3 := Lib.hid hb3
     have HM3 := Lib.hid (HMe.out w3 B3.out)
     clear hb3 HF2 HMe
     go_wp2_with (go_at_call 36; fail)
     refine HM3.out.mono ?_
     rintro e w4 ⟨rfl, hb4⟩
     have E4 := Lib.hid (bnext E3.out hb4)
     have B4 := Lib.hid (bnext B3.out hb4)
     have C4 := Lib.hid (bnext C3.out hb4)
     clear hb4 HM3
     obtain ⟨w5, hw5⟩ : ∃ w5, w4.alloc (.cells #[.string nm, .int .i64 len, .int .i64 rate, .int .i64 ch, .bool lp, .int .i64 f, .int .i64 t, .int .i64 s0, .int .i64 f0] 27) = w5 := ⟨_, rfl⟩
     obtain ⟨w6, hw6⟩ : ∃ w6, w4.alloc (.cells #[.string nm, .int .i64 len, .int .i64 rate, .int .i64 ch, .bool false, .int .i64 0, .int .i64 0, .int .i64 s0, .int .i64 f0] 27) = w6 := ⟨_, rfl⟩
     have x1 : (w4.alloc (.cells #[.string nm, .int .i64 len, .int .i64 rate, .int .i64 ch, .bool lp, .int .i64 f, .int .i64 t, .int .i64 s0, .int .i64 f0] 27)).cell? ⟨w4.heap.size, 1, none⟩ = some (.int .i64 len) := (Blk.new w4 27 [.string nm, .int .i64 len, .int .i64 rate, .int .i64 ch, .bool lp, .int .i64 f, .int .i64 t, .int .i64 s0, .int .i64 f0]).cell 1
     have E6 := Lib.hid (show Below w.heap.size w w6 by rw [← hw6]; exact bnext E4.out (bnew w4 _))
     have B6 := Lib.hid (show Below w1.heap.size w1 w6 by rw [← hw6]; exact bnext B4.out (bnew w4 _))
     have C6 := Lib.hid (show Below w2.heap.size w2 w6 by rw [← hw6]; exact bnext C4.out (bnew w4 _))
     have X6 := Lib.hid (show w6.heap[w4.heap.size]? = some (.cells #[.string nm, .int .i64 len, .int .i64 rate, .int .i64 ch, .bool false, .int .i64 0, .int .i64 0, .int .i64 s0, .int .i64 f0] 27 (0, 0)) by rw [← hw6]; exact heap_alloc_new w4 _)
     have Hw6 := Lib.hid hw6
     clear hw5 hw6
     go_wp2_with (go_at_call 19; fail)
     rw [Hw6.out]
     refine (HPa.out w6 C6.out).mono ?_
     rintro e w7 ⟨x, rfl, -, hBx, hb7⟩
     have HX := Lib.hid (bankOf_built HY.out.can hBx)
     have E7 := Lib.hid (bnext E6.out hb7)
     have B7 := Lib.hid (bnext B6.out hb7)
     have X7 := Lib.hid (hkeep X6.out hb7)
     have HK7 := Lib.hid (HK.out w7 (bnext C6.out hb7))
     clear hBx hb7 HPa HK x1 X6 Hw6
     go_wp2_with (go_at_call 35; fail)
     refine HK7.out.mono ?_
     rintro e w8 ⟨rfl, hb8⟩
     have D8 := Lib.hid hb8
     have HF8 := Lib.hid (HFx.out w8 x (HX.out.later hb8))
     clear hb8 HK7 HFx
     go_wp2_with (go_at_call 33; fail)
     refine HF8.out.mono ?_
     rintro e w9 ⟨rfl, hb9⟩
     have D9 := Lib.hid (bnext D8.out hb9)
     have HM9 := Lib.hid (HMx.out w9 x (HX.out.later D9.out))
     clear hb9 HF8 HMx
     go_wp2_with (go_at_call 36; fail)
     refine HM9.out.mono ?_
     rintro e w10 ⟨rfl, hb10⟩
     obtain ⟨w11, hw11⟩ : ∃ w11, w10.alloc (.cells #[.string nm, .int .i64 len, .int .i64 rate, .int .i64 ch, .bool false, .int .i64 0, .int .i64 0, .int .i64 s1, .int .i64 f1] 27) = w11 := ⟨_, rfl⟩
     have D11 := Lib.hid (show Below w7.heap.size w7 w11 by rw [← hw11]; exact bnext (bnext D9.out hb10) (bnew w10 _))
     have X11 := Lib.hid (show w11.heap[w10.heap.size]? = some (.cells #[.string nm, .int .i64 len, .int .i64 rate, .int .i64 ch, .bool false, .int .i64 0, .int .i64 0, .int .i64 s1, .int .i64 f1] 27 (0, 0)) by rw [← hw11]; exact heap_alloc_new w10 _)
     have x5 : ∀ (z : GW w11), z.1.heap[w10.heap.size]? = some (.cells #[.string nm, .int .i64 len, .int .i64 rate, .int .i64 ch, .bool false, .int .i64 0, .int .i64 0, .int .i64 s1, .int .i64 f1] 27 (0, 0)) := fun z => hkeep X11.out z.2
     have y5 : ∀ (z : GW w11), z.1.heap[w4.heap.size]? = some (.cells #[.string nm, .int .i64 len, .int .i64 rate, .int .i64 ch, .bool false, .int .i64 0, .int .i64 0, .int .i64 s0, .int .i64 f0] 27 (0, 0)) := fun z => hkeep X7.out (bnext D11.out z.2)
     have HS11 := Lib.hid (fun (z : GW w11) => HSx.out z.1 x (bnext B7.out (bnext D11.out z.2)) (HX.out.later (bnext D11.out z.2)))
     have HFm := Lib.hid (show (Tryz.prog.info? 27).map (·.size) = some 9 by kernel_rfl)
     clear hb10 HM9 HSx X11 X7
     go_wp2_with fail
     refine wp_region_calm (by kernel_rfl) (by kernel_rfl) ?_
     repeat (first | (go_big_quiet_want; refine quiet_load_row 27 (.tmp 20) rfl w10.heap.size rfl _ #[.string nm, .int .i64 len, .int .i64 rate, .int .i64 ch, .bool false, .int .i64 0, .int .i64 0, .int .i64 s1, .int .i64 f1] _ _ (by rintro _ ⟨z, rfl⟩; exact x5 z) Tryz.underlying27 rfl HFm.out ?_; go_simp; go_big_quiet_on) | (go_big_quiet_want; refine quiet_load_row 27 (.tmp 14) rfl w4.heap.size rfl _ #[.string nm, .int .i64 len, .int .i64 rate, .int .i64 ch, .bool false, .int .i64 0, .int .i64 0, .int .i64 s0, .int .i64 f0] _ _ (by rintro _ ⟨z, rfl⟩; exact y5 z) Tryz.underlying27 rfl HFm.out ?_; go_simp; go_big_quiet_on) | go_big_quiet_step ((first | (go_at_call 37; first | exact calm_call (HP1.out _) | exact calm_call (HP0.out _)) | (go_at_call 38; rename_i z; exact calm_call (HS11.out z)) | (go_at_call 31; exact calm_call (HAw.out _)))))
     refine wpQuiet_nil ?_
     intro w12 hw'
     have E12 := Lib.hid (bnext (bnext E7.out D11.out) (gw_below hw'))
     clear hw' x5 y5
     go_wp2
     go_ret
     exact ⟨rfl, E12.out⟩
    ·have v1 : (a != b) = true := by simp [hft]
     have v2 : (a == b) = false := by simp [hft]
     have Hft := Lib.hid hft
     have hk2 : (0 ≤ a ∧ a ≤ b) ∧ b ≤ len := by
      rcases hk with hk | hk
      ·exact absurd hft hk
      ·omega
     have v3 : decide (a < 0) = false := decide_eq_false (by omega)
     have v4 : decide (b < a) = false := decide_eq_false (by omega)
     have v5 : decide (len < b) = false := decide_eq_false (by omega)
     clear hft hk
     have HLM := Lib.hid (show loopM ⟨nm, len, rate, ch, lp, f, t, s0, f0⟩ a b = ⟨nm, len, rate, ch, true, a, b, s0, f0⟩ from by unfold loopM; simp [Hft.out])
     rw [HLM.out] at HMx HEq
     simp only [MetaV.cells, plcR, plc] at HMx
     simp only [plainM, MetaV.cells] at HEq
     obtain ⟨s1, hs1⟩ : ∃ s1, atTo ((24 : Nat) : Int) (dOf Y) i = s1 := ⟨_, rfl⟩
     obtain ⟨f1, hf1⟩ : ∃ f1, upZ (atTo ((24 : Nat) : Int) (dOf Y) i + 4 * framesN ⟨nm, len, rate, ch, true, a, b, s0, f0⟩) 16 = f1 := ⟨_, rfl⟩
     rw [hf1, hs1] at HMx
     have HP0 := Lib.hid (fun W => plain29_any nm len rate ch true a b s0 f0 W)
     have HP1 := Lib.hid (fun W => plain29_any nm len rate ch true a b s1 f1 W)
     clear hs1 hf1
     go_wp2_with (go_at_call 33; fail)
     refine HF2.out.mono ?_
     rintro e w3 ⟨rfl, hb3⟩
     have E3 := Lib.hid (bnext E2.out hb3)
     have B3 := Lib.hid (bnext B2.out hb3)
     have C3 := Lib.hid hb3
     have HM3 := Lib.hid (HMe.out w3 B3.out)
     clear hb3 HF2 HMe
     go_wp2_with (go_at_call 36; fail)
     refine HM3.out.mono ?_
     rintro e w4 ⟨rfl, hb4⟩
     have E4 := Lib.hid (bnext E3.out hb4)
     have B4 := Lib.hid (bnext B3.out hb4)
     have C4 := Lib.hid (bnext C3.out hb4)
     clear hb4 HM3
     obtain ⟨w5, hw5⟩ : ∃ w5, w4.alloc (.cells #[.string nm, .int .i64 len, .int .i64 rate, .int .i64 ch, .bool lp, .int .i64 f, .int .i64 t, .int .i64 s0, .int .i64 f0] 27) = w5 := ⟨_, rfl⟩
     obtain ⟨w6, hw6⟩ : ∃ w6, w4.alloc (.cells #[.string nm, .int .i64 len, .int .i64 rate, .int .i64 ch, .bool true, .int .i64 a, .int .i64 b, .int .i64 s0, .int .i64 f0] 27) = w6 := ⟨_, rfl⟩
     have x1 : (w4.alloc (.cells #[.string nm, .int .i64 len, .int .i64 rate, .int .i64 ch, .bool lp, .int .i64 f, .int .i64 t, .int .i64 s0, .int .i64 f0] 27)).cell? ⟨w4.heap.size, 1, none⟩ = some (.int .i64 len) := (Blk.new w4 27 [.string nm, .int .i64 len, .int .i64 rate, .int .i64 ch, .bool lp, .int .i64 f, .int .i64 t, .int .i64 s0, .int .i64 f0]).cell 1
     have E6 := Lib.hid (show Below w.heap.size w w6 by rw [← hw6]; exact bnext E4.out (bnew w4 _))
     have B6 := Lib.hid (show Below w1.heap.size w1 w6 by rw [← hw6]; exact bnext B4.out (bnew w4 _))
     have C6 := Lib.hid (show Below w2.heap.size w2 w6 by rw [← hw6]; exact bnext C4.out (bnew w4 _))
     have X6 := Lib.hid (show w6.heap[w4.heap.size]? = some (.cells #[.string nm, .int .i64 len, .int .i64 rate, .int .i64 ch, .bool true, .int .i64 a, .int .i64 b, .int .i64 s0, .int .i64 f0] 27 (0, 0)) by rw [← hw6]; exact heap_alloc_new w4 _)
     have Hw6 := Lib.hid hw6
     clear hw5 hw6
     go_wp2_with (go_at_call 19; fail)
     rw [Hw6.out]
     refine (HPa.out w6 C6.out).mono ?_
     rintro e w7 ⟨x, rfl, -, hBx, hb7⟩
     have HX := Lib.hid (bankOf_built HY.out.can hBx)
     have E7 := Lib.hid (bnext E6.out hb7)
     have B7 := Lib.hid (bnext B6.out hb7)
     have X7 := Lib.hid (hkeep X6.out hb7)
     have HK7 := Lib.hid (HK.out w7 (bnext C6.out hb7))
     clear hBx hb7 HPa HK x1 X6 Hw6
     go_wp2_with (go_at_call 35; fail)
     refine HK7.out.mono ?_
     rintro e w8 ⟨rfl, hb8⟩
     have D8 := Lib.hid hb8
     have HF8 := Lib.hid (HFx.out w8 x (HX.out.later hb8))
     clear hb8 HK7 HFx
     go_wp2_with (go_at_call 33; fail)
     refine HF8.out.mono ?_
     rintro e w9 ⟨rfl, hb9⟩
     have D9 := Lib.hid (bnext D8.out hb9)
     have HM9 := Lib.hid (HMx.out w9 x (HX.out.later D9.out))
     clear hb9 HF8 HMx
     go_wp2_with (go_at_call 36; fail)
     refine HM9.out.mono ?_
     rintro e w10 ⟨rfl, hb10⟩
     obtain ⟨w11, hw11⟩ : ∃ w11, w10.alloc (.cells #[.string nm, .int .i64 len, .int .i64 rate, .int .i64 ch, .bool true, .int .i64 a, .int .i64 b, .int .i64 s1, .int .i64 f1] 27) = w11 := ⟨_, rfl⟩
     have D11 := Lib.hid (show Below w7.heap.size w7 w11 by rw [← hw11]; exact bnext (bnext D9.out hb10) (bnew w10 _))
     have X11 := Lib.hid (show w11.heap[w10.heap.size]? = some (.cells #[.string nm, .int .i64 len, .int .i64 rate, .int .i64 ch, .bool true, .int .i64 a, .int .i64 b, .int .i64 s1, .int .i64 f1] 27 (0, 0)) by rw [← hw11]; exact heap_alloc_new w10 _)
     have x5 : ∀ (z : GW w11), z.1.heap[w10.heap.size]? = some (.cells #[.string nm, .int .i64 len, .int .i64 rate, .int .i64 ch, .bool true, .int .i64 a, .int .i64 b, .int .i64 s1, .int .i64 f1] 27 (0, 0)) := fun z => hkeep X11.out z.2
     have y5 : ∀ (z : GW w11), z.1.heap[w4.heap.size]? = some (.cells #[.string nm, .int .i64 len, .int .i64 rate, .int .i64 ch, .bool true, .int .i64 a, .int .i64 b, .int .i64 s0, .int .i64 f0] 27 (0, 0)) := fun z => hkeep X7.out (bnext D11.out z.2)
     have HS11 := Lib.hid (fun (z : GW w11) => HSx.out z.1 x (bnext B7.out (bnext D11.out z.2)) (HX.out.later (bnext D11.out z.2)))
     have HFm := Lib.hid (show (Tryz.prog.info? 27).map (·.size) = some 9 by kernel_rfl)
     clear hb10 HM9 HSx X11 X7
     go_wp2_with fail
     refine wp_region_calm (by kernel_rfl) (by kernel_rfl) ?_
     repeat (first | (go_big_quiet_want; refine quiet_load_row 27 (.tmp 20) rfl w10.heap.size rfl _ #[.string nm, .int .i64 len, .int .i64 rate, .int .i64 ch, .bool true, .int .i64 a, .int .i64 b, .int .i64 s1, .int .i64 f1] _ _ (by rintro _ ⟨z, rfl⟩; exact x5 z) Tryz.underlying27 rfl HFm.out ?_; go_simp; go_big_quiet_on) | (go_big_quiet_want; refine quiet_load_row 27 (.tmp 14) rfl w4.heap.size rfl _ #[.string nm, .int .i64 len, .int .i64 rate, .int .i64 ch, .bool true, .int .i64 a, .int .i64 b, .int .i64 s0, .int .i64 f0] _ _ (by rintro _ ⟨z, rfl⟩; exact y5 z) Tryz.underlying27 rfl HFm.out ?_; go_simp; go_big_quiet_on) | go_big_quiet_step ((first | (go_at_call 37; first | exact calm_call (HP1.out _) | exact calm_call (HP0.out _)) | (go_at_call 38; rename_i z; exact calm_call (HS11.out z)) | (go_at_call 31; exact calm_call (HAw.out _)))))
     refine wpQuiet_nil ?_
     intro w12 hw'
     have E12 := Lib.hid (bnext (bnext E7.out D11.out) (gw_below hw'))
     clear hw' x5 y5
     go_wp2
     go_ret
     exact ⟨rfl, E12.out⟩
theorem EditLoops_law (W : World) (v0 v1 v2 v3 : Value) (a0 : Arg W (.slice 6 sampTy) v0) (a1 : Arg W (.str) v1) (a2 : Arg W (.int .i64) v2) (a3 : Arg W (.int .i64) v3) :
  Calls Tryz.prog 9 #[v0, v1, v2, v3] W fun e w' => e = .returned (.bool true) ∧ Below W.heap.size W w' := by
 obtain ⟨L, A, cap, rfl, _, _, _, hs, hn⟩ := samps_arg a0
 obtain ⟨nm, h1, _⟩ := a1
 obtain rfl : v1 = .string nm := by simpa using h1
 obtain ⟨x, h2, _, _⟩ := a2
 obtain rfl : v2 = .int .i64 x := by simpa using h2
 obtain ⟨y, h3, _, _⟩ := a3
 obtain rfl : v3 = .int .i64 y := by simpa using h3
 exact EditLoops_walk L A cap nm x y W hs hn
end Go.Proofs.YtgcfkblmnpnogaaGreatDoor
