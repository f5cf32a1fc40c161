/- LawRn. Conditions: as each theorem states. -/
import Derived.Test.YtgcfkblmnpnogaaGreatDoorPo46
import Derived.Test.YtgcfkblmnpnogaaGreatDoorPoxEdR
import Derived.Test.YtgcfkblmnpnogaaGreatDoorPoxEdX
namespace Go.Proofs.YtgcfkblmnpnogaaGreatDoor
open Go.RowKit Go.Lib
theorem at_erase {Z : List RawV} (h : AscZ Z) {i : Nat} {r : RawV} (hr : Z[i]? = some r) (other : ByteArray) : atB (Z.eraseIdx i) other = (atB Z other && !(other.toList == r.m.name.toList)) := by
 have hE : AscZ (Z.eraseIdx i) := List.Pairwise.sublist (List.eraseIdx_sublist _ _) h
 cases hne : other.toList == r.m.name.toList with
 | true =>
  have he := toList_inj (eq_of_beq hne)
  subst he
  rw [Bool.not_true, Bool.and_false]
  cases hb : atB (Z.eraseIdx i) r.m.name with
  | false => rfl
  | true =>
   exfalso
   obtain ⟨s, hs, hsn⟩ := at_of hb
   obtain ⟨j, hji, hj⟩ := List.mem_eraseIdx_iff_getElem?.1 (List.mem_of_getElem? hs)
   rcases Nat.lt_or_gt_of_ne hji with hl | hl
   ·have := asc_next h hl hj hr
    rw [hsn, nameLt_irr] at this
    cases this
   ·have := asc_next h hl hr hj
    rw [hsn, nameLt_irr] at this
    cases this
 | false =>
  rw [Bool.not_false, Bool.and_true]
  cases hb : atB Z other with
  | true =>
   obtain ⟨s, hs, rfl⟩ := at_of hb
   have hm := mem_erase hr (List.mem_of_getElem? hs) hne
   obtain ⟨k, hk⟩ := List.getElem?_of_mem hm
   exact (at_name hE hk).2
  | false =>
   cases hb2 : atB (Z.eraseIdx i) other with
   | false => rfl
   | true =>
    obtain ⟨s, hs, rfl⟩ := at_of hb2
    obtain ⟨k, hk⟩ := List.getElem?_of_mem (List.eraseIdx_subset (List.mem_of_getElem? hs))
    rw [(at_name h hk).2] at hb
    cases hb
set_option maxRecDepth 100000 in
set_option maxHeartbeats 16000000 in
theorem EditRenames_walk (L : List (HSamp × SampV)) (A : Option Addr) (cap : Nat) (name other : ByteArray) (w : World) (hs : SampsAt w w.heap.size A L) (hnm : ∀ p ∈ L, NameFits p) :
  Calls Tryz.prog 5 #[.slice A L.length cap, .string name, .string other] w fun e w' => e = .returned (.bool true) ∧ Below w.heap.size w w' := by
 have HM := hid (made29_law L A cap w hs hnm)
 have HAw := hid (fun W => awake29_any W)
 have HIs := hid (fun W => IsName_any other W)
 obtain ⟨ion, hion⟩ : ∃ b, isName other = b := ⟨_, rfl⟩
 rw [hion] at HIs
 have Hion := hid hion
 clear hs hnm hion
 unfold MadeB at HM
 go_enter Tryz.func5, Tryz.ntmps5
 go_wp2_with (go_at_call 30; fail)
 refine HM.out.mono ?_
 rintro e w1 ⟨hb1, rfl | ⟨D, FR, g, hC, hFR, rfl, hB, hg⟩⟩
 ·have E1 := hid hb1
  clear hb1 HM
  go_wp2_with (go_at_call 31; fail)
  refine (HAw.out _).mono ?_
  rintro e w2 ⟨rfl, hb2⟩
  go_wp2
  go_ret
  exact ⟨rfl, bnext E1.out hb2⟩
 ·have E1 := hid hb1
  have HRn := hid (Rename_any hC hFR g name other w1 hB)
  have HBk := hid (bankOf_built hC hB)
  have HRs := hid (hC.raws hFR)
  generalize allZ 24 D FR D.length = Z at *
  generalize bldZ 24 D FR = bs at *
  have HFi := hid (fun W nm (hW : Below w1.heap.size w1 W) => (show Calls Tryz.prog 33 #[.pointer (some ⟨g, 0, none⟩), .string nm] W (fun e w' => e = .returned (.tuple #[.int .i64 (findN (dOf Z) nm : Nat), .bool (atB Z nm)]) ∧ Below W.heap.size W w') from by
   refine (Find_any g 24 bs (dOf Z) nm W (HBk.out.at_.later hW) (by omega) HBk.out.fit.many (ascN_of HBk.out.asc)).mono ?_
   rintro e w' ⟨rfl, hb⟩
   rw [(at_find HBk.out.asc nm).1]
   exact ⟨rfl, hb⟩))
  obtain ⟨k0, hk0⟩ : ∃ k, findN (dOf Z) other = k := ⟨_, rfl⟩
  have HFo := hid (fun W (hW : Below w1.heap.size w1 W) => HFi.out W other hW)
  rw [hk0] at HFo
  clear hb1 HM hC hFR hB hg hk0
  by_cases h100 : 100 < other.size
  ·have t1 : (100 : Int) < (other.size : Int) := by omega
   go_wp2_with (go_at_call 31; fail)
   refine (HAw.out _).mono ?_
   rintro e w2 ⟨rfl, hb2⟩
   go_wp2
   go_ret
   exact ⟨rfl, bnext E1.out hb2⟩
  have t1 : ¬ ((100 : Int) < (other.size : Int)) := by omega
  have t1d : decide ((100 : Int) < (other.size : Int)) = false := decide_eq_false t1
  go_wp2_with (go_at_call 32; fail)
  refine HRn.out.mono ?_
  rintro e w2 ⟨hno, hbad, htw, hyes⟩
  clear t1 t1d
  cases hat : atB Z name with
  | false =>
   obtain ⟨rfl, hb2⟩ := hno hat
   have E2 := hid (bnext E1.out hb2)
   have B2 := hid hb2
   have HF2 := hid (HFi.out w2 name hb2)
   rw [hat] at HF2
   obtain ⟨k1, hk1⟩ : ∃ k, findN (dOf Z) name = k := ⟨_, rfl⟩
   rw [hk1] at HF2
   obtain ⟨bo, hbo⟩ : ∃ b, atB Z other = b := ⟨_, rfl⟩
   rw [hbo] at HFo
   clear hno hbad htw hyes hb2 HFi HRn hk1 hbo hat
   go_wp2_with (go_at_call 33; fail)
   refine HF2.out.mono ?_
   rintro e w3 ⟨rfl, hb3⟩
   have E3 := hid (bnext E2.out hb3)
   have B3 := hid (bnext B2.out hb3)
   have C3 := hid hb3
   have HF3 := hid (HFo.out w3 B3.out)
   clear hb3 HF2
   go_wp2_with (go_at_call 33; fail)
   refine HF3.out.mono ?_
   rintro e w4 ⟨rfl, hb4⟩
   have E4 := hid (bnext E3.out hb4)
   have B4 := hid (bnext B3.out hb4)
   have C4 := hid (bnext C3.out hb4)
   clear hb4 HF3 HFo
   go_wp2_with (go_at_call 31; fail)
   refine (HAw.out _).mono ?_
   rintro e w5 ⟨rfl, hb5⟩
   go_wp2
   go_ret
   exact ⟨rfl, bnext E4.out hb5⟩
  | true =>
   obtain ⟨r, hr, hrn⟩ := at_of hat
   have hat2 := at_find HBk.out.asc name
   obtain ⟨i, hi⟩ : ∃ i, atZ Z name = i := ⟨_, rfl⟩
   have hfn : findN (dOf Z) name = i := by rw [← hat2.2 hat, hi]
   have hae := at_erase HBk.out.asc (show Z[i]? = some r by rw [← hi]; exact hr) other
   rw [hrn] at hae
   cases ion with
   | false =>
    obtain ⟨rfl, hb2⟩ := hbad hat Hion.out
    have E2 := hid (bnext E1.out hb2)
    have B2 := hid hb2
    have HF2 := hid (HFi.out w2 name hb2)
    rw [hat, hfn] at HF2
    obtain ⟨bo, hbo⟩ : ∃ b, atB Z other = b := ⟨_, rfl⟩
    rw [hbo] at HFo
    clear hno hbad htw hyes hb2 HFi HRn hbo hat hr hrn hat2 hi hfn hae
    go_wp2_with (go_at_call 33; fail)
    refine HF2.out.mono ?_
    rintro e w3 ⟨rfl, hb3⟩
    have E3 := hid (bnext E2.out hb3)
    have B3 := hid (bnext B2.out hb3)
    have C3 := hid hb3
    have HF3 := hid (HFo.out w3 B3.out)
    clear hb3 HF2
    go_wp2_with (go_at_call 33; fail)
    refine HF3.out.mono ?_
    rintro e w4 ⟨rfl, hb4⟩
    have E4 := hid (bnext E3.out hb4)
    have B4 := hid (bnext B3.out hb4)
    have C4 := hid (bnext C3.out hb4)
    clear hb4 HF3 HFo
    go_wp2_with (first | (go_at_call 34; refine (HIs.out _).mono ?_; rintro e w' ⟨rfl, rfl⟩) | (go_at_call 31; fail))
    refine (HAw.out _).mono ?_
    rintro e w5 ⟨rfl, hb5⟩
    go_wp2
    go_ret
    exact ⟨rfl, bnext E4.out hb5⟩
   | true =>
    cases hx : (atB Z other && !(other.toList == name.toList)) with
    | true =>
     rw [hx] at hae
     rw [Bool.and_eq_true, Bool.not_eq_true'] at hx
     obtain ⟨rfl, hb2⟩ := htw hat Hion.out (by rw [hi]; exact hae)
     have E2 := hid (bnext E1.out hb2)
     have B2 := hid hb2
     have HF2 := hid (HFi.out w2 name hb2)
     rw [hat, hfn] at HF2
     rw [hx.1] at HFo
     have hne := hx.2
     clear hno hbad htw hyes hb2 HFi HRn hx hat hr hrn hat2 hi hfn hae
     go_wp2_with (go_at_call 33; fail)
     refine HF2.out.mono ?_
     rintro e w3 ⟨rfl, hb3⟩
     have E3 := hid (bnext E2.out hb3)
     have B3 := hid (bnext B2.out hb3)
     have C3 := hid hb3
     have HF3 := hid (HFo.out w3 B3.out)
     clear hb3 HF2
     go_wp2_with (go_at_call 33; fail)
     refine HF3.out.mono ?_
     rintro e w4 ⟨rfl, hb4⟩
     have E4 := hid (bnext E3.out hb4)
     have B4 := hid (bnext B3.out hb4)
     have C4 := hid (bnext C3.out hb4)
     clear hb4 HF3 HFo
     go_wp2_with (first | (go_at_call 34; refine (HIs.out _).mono ?_; rintro e w' ⟨rfl, rfl⟩) | (go_at_call 31; fail))
     refine (HAw.out _).mono ?_
     rintro e w5 ⟨rfl, hb5⟩
     go_wp2
     go_ret
     exact ⟨rfl, bnext E4.out hb5⟩
    | false =>
     rw [hx] at hae
     have hI := hyes r hat hr Hion.out (by rw [hi]; exact hae)
     rw [hi] at hr hI
     obtain ⟨hY, g2, rfl, hg2, hby, hb2⟩ := hI
     have hin := (List.getElem?_eq_some_iff.1 hr).1
     have hle := atZ_le (Z.eraseIdx i) other
     obtain ⟨kk, hkk⟩ : ∃ k, atZ (Z.eraseIdx i) other = k := ⟨_, rfl⟩
     rw [hkk] at hY hby hle ⊢
     obtain ⟨Y, hYe⟩ : ∃ Y, (Z.eraseIdx i).insertIdx kk ⟨nameM r.m other, r.fs⟩ = Y := ⟨_, rfl⟩
     have hyi : Y[kk]? = some ⟨nameM r.m other, r.fs⟩ := by rw [← hYe]; exact ins_self hle _
     have E2 := hid (bnext E1.out hb2)
     have B2 := hid hb2
     have HF2 := hid (HFi.out w2 name hb2)
     rw [hat, hfn] at HF2
     have HK := hid (fun W (hW : Below w2.heap.size w2 W) => kept_of (HBk.out.later (bnext B2.out hW)) hY g2 (hkeep hby hW) name 1 (fun q hq hne => (mem_ins hle).2 (.inr (mem_erase hr hq (by rw [hrn]; exact hne)))) (by
      have h := others_at HBk.out.asc hr
      rw [hrn] at h
      rw [h, List.length_insertIdx, if_pos hle]
      omega))
     rw [hYe] at hY hby HK ⊢
     have HPa := hid (fun W (hW : Below w2.heap.size w2 W) => Parse_built hY.can g2 W (hkeep hby hW))
     have hgt := hY.get hyi
     have HFx := hid (fun W x (hx : BankOf W x 24 (allZ 24 (dOf Y) (fOf Y) (dOf Y).length) (bldZ 24 (dOf Y) (fOf Y))) => (show Calls Tryz.prog 33 #[.pointer (some ⟨x, 0, none⟩), .string other] W (fun e w' => e = .returned (.tuple #[.int .i64 (kk : Nat), .bool true]) ∧ Below W.heap.size W w') from by
      have h := Find_any x 24 _ _ other W hx.at_ (by omega) hx.fit.many (ascN_of hx.asc)
      have h2 := find_name (ascN_of hx.asc) (dOf_get hgt)
      have h3 : (plcR (24 : Nat) (dOf Y) kk ⟨nameM r.m other, r.fs⟩).m.name = other := rfl
      rw [h3] at h2
      rwa [h2.1, h2.2] at h))
     have HMx := hid (fun W x (hx : BankOf W x 24 (allZ 24 (dOf Y) (fOf Y) (dOf Y).length) (bldZ 24 (dOf Y) (fOf Y))) => (show Calls Tryz.prog 36 #[.pointer (some ⟨x, 0, none⟩), .int .i64 (kk : Nat)] W (fun e w' => e = .returned (.tuple #[.agg (plcR (24 : Nat) (dOf Y) kk ⟨nameM r.m other, r.fs⟩).m.cells.toArray, .int .i64 0]) ∧ Below W.heap.size W w') from by
      have h := BMeta_any x 24 _ _ kk W hx.at_ (by omega) (by have := hx.fit.many; omega)
      rwa [(meta_i (dOf_get hgt)).1, (meta_i (dOf_get hgt)).2] at h))
     have HMe := hid (fun W (hW : Below w1.heap.size w1 W) => (show Calls Tryz.prog 36 #[.pointer (some ⟨g, 0, none⟩), .int .i64 (i : Nat)] W (fun e w' => e = .returned (.tuple #[.agg r.m.cells.toArray, .int .i64 0]) ∧ Below W.heap.size W w') from by
      have h := BMeta_any g 24 bs (dOf Z) i W (HBk.out.at_.later hW) (by omega) (by have := HBk.out.fit.many; omega)
      rwa [(meta_i (dOf_get hr)).1, (meta_i (dOf_get hr)).2] at h))
     have HSx := hid (fun W x (hW : Below w1.heap.size w1 W) (hx : BankOf W x 24 (allZ 24 (dOf Y) (fOf Y) (dOf Y).length) (bldZ 24 (dOf Y) (fOf Y))) => same_any (HBk.out.later hW) hx hr hgt (show (nameM r.m other).length = r.m.length from rfl) (show (nameM r.m other).channels = r.m.channels from rfl) rfl)
     have HEq := hid (eq_meta (plainM (nameM r.m other)))
     have HY := hid hY
     have hi64 : i ≤ 64 := by have := HRs.out.many; omega
     have hk64 : kk ≤ 64 := by have := HRs.out.many; rw [List.length_eraseIdx, if_pos hin] at hle; omega
     obtain ⟨N, hN⟩ : ∃ N, bldN 24 (dOf Y) = N := ⟨_, rfl⟩
     rw [hN] at HK HPa ⊢
     obtain ⟨bo, hbo⟩ : ∃ b, atB Z other = b := ⟨_, rfl⟩
     obtain ⟨bn, hbn⟩ : ∃ b, (other.toList == name.toList) = b := ⟨_, rfl⟩
     rw [hbo] at HFo hx
     rw [hbn] at hx
     obtain ⟨⟨nm, len, rate, ch, lp, f, t, s0, f0⟩, fs⟩ := r
     simp only [MetaV.cells] at HMe
     simp only [MetaV.cells, plcR, plc, nameM] at HMx
     simp only [plainM, MetaV.cells, nameM] at HEq
     obtain ⟨s1, hs1⟩ : ∃ s1, atTo ((24 : Nat) : Int) (dOf Y) kk = s1 := ⟨_, rfl⟩
     obtain ⟨f1, hf1⟩ : ∃ f1, upZ (atTo ((24 : Nat) : Int) (dOf Y) kk + 4 * framesN ⟨other, len, rate, ch, lp, f, t, s0, f0⟩) 16 = f1 := ⟨_, rfl⟩
     rw [hf1, hs1] at HMx
     have HP0 := hid (fun W => plain29_any other len rate ch lp f t s0 f0 W)
     have HP1 := hid (fun W => plain29_any other len rate ch lp f t s1 f1 W)
     clear hno hbad htw hyes hb2 HFi HRn hat hr hrn hat2 hi hfn hae hY hg2 hby hin hle hkk hYe hyi hgt hN hbo hs1 hf1
     go_wp2_with (go_at_call 33; fail)
     refine HF2.out.mono ?_
     rintro e w3 ⟨rfl, hb3⟩
     have E3 := hid (bnext E2.out hb3)
     have B3 := hid (bnext B2.out hb3)
     have C3 := hid hb3
     have HF3 := hid (HFo.out w3 B3.out)
     clear hb3 HF2
     go_wp2_with (go_at_call 33; fail)
     refine HF3.out.mono ?_
     rintro e w4 ⟨rfl, hb4⟩
     have E4 := hid (bnext E3.out hb4)
     have B4 := hid (bnext B3.out hb4)
     have C4 := hid (bnext C3.out hb4)
     clear hb4 HF3 HFo
     have hx2 : bo = false ∨ (bo = true ∧ bn = true) := by
      cases bo <;> cases bn <;> simp at hx <;> simp
     clear hx
     have HBn := hid hbn
     rcases hx2 with rfl | ⟨rfl, rfl⟩
     all_goals
      go_wp2_with (first | (go_at_call 34; refine (HIs.out _).mono ?_; rintro e w' ⟨rfl, rfl⟩) | (go_at_call 19; fail))
      refine (HPa.out w4 C4.out).mono ?_
      rintro e w7 ⟨x, rfl, -, hBx, hb7⟩
      have HX := hid (bankOf_built HY.out.can hBx)
      have E7 := hid (bnext E4.out hb7)
      have B7 := hid (bnext B4.out hb7)
      have HK7 := hid (HK.out w7 (bnext C4.out hb7))
      clear hBx hb7 HPa HK
      go_wp2_with (go_at_call 35; fail)
      refine HK7.out.mono ?_
      rintro e w8 ⟨rfl, hb8⟩
      have D8 := hid hb8
      have HF8 := hid (HFx.out w8 x (HX.out.later hb8))
      clear hb8 HK7 HFx
      go_wp2_with (go_at_call 33; fail)
      refine HF8.out.mono ?_
      rintro e w9 ⟨rfl, hb9⟩
      have D9 := hid (bnext D8.out hb9)
      have HM9 := hid (HMx.out w9 x (HX.out.later D9.out))
      clear hb9 HF8 HMx
      go_wp2_with (go_at_call 36; fail)
      refine HM9.out.mono ?_
      rintro e w10 ⟨rfl, hb10⟩
      have D10 := hid (bnext (bnext D9.out hb10) (bnew w10 (.cells #[.string other, .int .i64 len, .int .i64 rate, .int .i64 ch, .bool lp, .int .i64 f, .int .i64 t, .int .i64 s1, .int .i64 f1] 27)))
      have X10 := hid (heap_alloc_new w10 (.cells #[.string other, .int .i64 len, .int .i64 rate, .int .i64 ch, .bool lp, .int .i64 f, .int .i64 t, .int .i64 s1, .int .i64 f1] 27))
      have HM10 := hid (HMe.out (w10.alloc (.cells #[.string other, .int .i64 len, .int .i64 rate, .int .i64 ch, .bool lp, .int .i64 f, .int .i64 t, .int .i64 s1, .int .i64 f1] 27)) (bnext B7.out D10.out))
      clear hb10 HM9 HMe
      go_wp2_with (go_at_call 36; fail)
      refine HM10.out.mono ?_
      rintro e w11 ⟨rfl, hb11⟩
      have D11 := hid (bnext D10.out hb11)
      have X11 := hid (hkeep X10.out hb11)
      obtain ⟨w12, hw12⟩ : ∃ w12, w11.alloc (.cells #[.string other, .int .i64 len, .int .i64 rate, .int .i64 ch, .bool lp, .int .i64 f, .int .i64 t, .int .i64 s0, .int .i64 f0] 27) = w12 := ⟨_, rfl⟩
      have D12 := hid (show Below w7.heap.size w7 w12 by rw [← hw12]; exact bnext D11.out (bnew w11 _))
      have X12 := hid (show w12.heap[w11.heap.size]? = some (.cells #[.string other, .int .i64 len, .int .i64 rate, .int .i64 ch, .bool lp, .int .i64 f, .int .i64 t, .int .i64 s0, .int .i64 f0] 27 (0, 0)) by rw [← hw12]; exact heap_alloc_new w11 _)
      have Y12 := hid (show w12.heap[w10.heap.size]? = some (.cells #[.string other, .int .i64 len, .int .i64 rate, .int .i64 ch, .bool lp, .int .i64 f, .int .i64 t, .int .i64 s1, .int .i64 f1] 27 (0, 0)) by rw [← hw12]; exact hkeep X11.out (bnew w11 _))
      have x5 : ∀ (z : GW w12), z.1.heap[w10.heap.size]? = some (.cells #[.string other, .int .i64 len, .int .i64 rate, .int .i64 ch, .bool lp, .int .i64 f, .int .i64 t, .int .i64 s1, .int .i64 f1] 27 (0, 0)) := fun z => hkeep Y12.out z.2
      have y5 : ∀ (z : GW w12), z.1.heap[w11.heap.size]? = some (.cells #[.string other, .int .i64 len, .int .i64 rate, .int .i64 ch, .bool lp, .int .i64 f, .int .i64 t, .int .i64 s0, .int .i64 f0] 27 (0, 0)) := fun z => hkeep X12.out z.2
      have HS12 := hid (fun (z : GW w12) => HSx.out z.1 x (bnext B7.out (bnext D12.out z.2)) (HX.out.later (bnext D12.out z.2)))
      have HFm := hid (show (Tryz.prog.info? 27).map (·.size) = some 9 by kernel_rfl)
      clear hb11 HM10 HSx X10 X11 X12 Y12
      go_wp2_with fail
      refine wp_region_calm (by kernel_rfl) (by kernel_rfl) ?_
      repeat (first | (go_big_quiet_want; refine quiet_load_row 27 (.tmp 18) rfl w10.heap.size rfl _ #[.string other, .int .i64 len, .int .i64 rate, .int .i64 ch, .bool lp, .int .i64 f, .int .i64 t, .int .i64 s1, .int .i64 f1] _ _ (by rintro _ ⟨z, rfl⟩; exact x5 z) Tryz.underlying27 rfl HFm.out ?_; go_simp; go_big_quiet_on) | (go_big_quiet_want; refine quiet_load_row 27 (.tmp 20) rfl w11.heap.size rfl _ #[.string other, .int .i64 len, .int .i64 rate, .int .i64 ch, .bool lp, .int .i64 f, .int .i64 t, .int .i64 s0, .int .i64 f0] _ _ (by rintro _ ⟨z, rfl⟩; exact y5 z) Tryz.underlying27 rfl HFm.out ?_; go_simp; go_big_quiet_on) | go_big_quiet_step ((first | (go_at_call 37; first | exact calm_call (HP1.out _) | exact calm_call (HP0.out _)) | (go_at_call 38; rename_i z; exact calm_call (HS12.out z)) | (go_at_call 31; exact calm_call (HAw.out _)))))
      refine wpQuiet_nil ?_
      intro w13 hw'
      have E13 := hid (bnext (bnext E7.out D12.out) (gw_below hw'))
      clear hw' x5 y5
      go_wp2
      go_ret
      exact ⟨rfl, E13.out⟩
theorem EditRenames_law (W : World) (v0 v1 v2 : Value) (a0 : Arg W (.slice 6 sampTy) v0) (a1 : Arg W (.str) v1) (a2 : Arg W (.str) v2) :
  Calls Tryz.prog 5 #[v0, v1, v2] W fun e w' => e = .returned (.bool true) ∧ Below W.heap.size W w' := by
 obtain ⟨L, A, cap, rfl, _, _, _, hs, hn⟩ := samps_arg a0
 obtain ⟨nm, h1, _⟩ := a1
 obtain rfl : v1 = .string nm := by simpa using h1
 obtain ⟨ot, h2, _⟩ := a2
 obtain rfl : v2 = .string ot := by simpa using h2
 exact EditRenames_walk L A cap nm ot W hs hn
end Go.Proofs.YtgcfkblmnpnogaaGreatDoor
