/- EdT. Conditions: as each theorem states. -/
import Derived.Test.YtgcfkblmnpnogaaGreatDoorPnxEdS
namespace Go.Proofs.YtgcfkblmnpnogaaGreatDoor
open Go.RowKit Go.Lib
set_option maxRecDepth 100000 in
set_option maxHeartbeats 16000000 in
theorem Join29_any {size : Nat} {D1 D2 : List MetaV} {FR1 FR2 : List (List Nat)} (hC1 : CanB size D1 FR1) (hC2 : CanB size D2 FR2) (hd : D1.length + D2.length ≤ 64) (hf : FR1.length + FR2.length ≤ 30000) (g1 g2 : Nat) (w : World)
  (hB1 : BankAt w g1 (bldZ size D1 FR1) size (bldDir size D1)) (hB2 : BankAt w g2 (bldZ size D2 FR2) size (bldDir size D2)) :
  Calls Tryz.prog 46 #[.pointer (some ⟨g1, 0, none⟩), .pointer (some ⟨g2, 0, none⟩)] w (ImageP w size (bothTo (allZ size D1 FR1 D1.length) (allZ size D2 FR2 D2.length) (allZ size D2 FR2 D2.length).length)) := by
 obtain ⟨i0, hi, ⟨z0, hz0, hz0s⟩, hi1, hi2⟩ := raw_info
 have HS1 := hid (fun W (hW : Below w.heap.size w W) => BSize_any (hB1.later hW) (by have := hC1.lo; omega))
 have HS2 := hid (fun W (hW : Below w.heap.size w W) => BSize_any (hB2.later hW) (by have := hC2.lo; omega))
 have HAl1 := hid (all_any hC1 g1 w hB1)
 have HAl2 := hid (fun W (hW : Below w.heap.size w W) => all_any hC2 g2 W (hB2.later hW))
 have hlo := hC1.lo
 have hz1 := allZ_len size D1 FR1 D1.length (Nat.le_refl _)
 have hz2 := allZ_len size D2 FR2 D2.length (Nat.le_refl _)
 have hR1 := hC1.raws (by omega)
 have hR2 := hC2.raws (by omega)
 have hf1 := fOf_all_len hC1
 have hf2 := fOf_all_len hC2
 have HAt := hid (fun L A c (nm : ByteArray) W (hL : List.length L ≤ 1000) hr => at_any L A c nm W hL hr)
 generalize allZ size D1 FR1 D1.length = Z at *
 generalize allZ size D2 FR2 D2.length = Y at *
 have HOk := hid (bothTo_ok hR1 hR2 (by omega) (by omega))
 obtain ⟨n, hn⟩ : ∃ n, Y.length = n := ⟨_, rfl⟩
 rw [hn] at HOk hz2 ⊢
 have Hn := hid hn
 have hzn : Z.length + n ≤ 64 := by omega
 have t0 : ((size : Int) == 0) = false := beq_eq_false_iff_ne.2 (by omega)
 have t1 : ((size : Int) != (size : Int)) = false := by simp
 clear hB1 hB2 hC1 hC2 hR1 hR2 hf1 hf2 hn hz1 hz2 hf hd
 go_enter Tryz.func46, Tryz.ntmps46
 go_wp2_with (first | (go_at_call 51; refine (HS1.out _ (Below.refl _ _)).mono ?_; rintro e w2 ⟨rfl, rfl⟩) | (go_at_call 51; refine (HS2.out _ (Below.refl _ _)).mono ?_; rintro e w2 ⟨rfl, rfl⟩) | (go_at_call 89; fail))
 refine HAl1.out.mono ?_
 rintro e w1 ⟨A, c, L, rfl, hmap, hraws, hb1⟩
 have B1 := hid hb1
 have HR := hid hraws
 have Hmap := hid hmap
 have HA2 := hid (HAl2.out w1 hb1)
 clear hraws hb1 hmap HAl1 HAl2
 go_wp2_with (go_at_call 89; fail)
 refine HA2.out.mono ?_
 rintro e w2 ⟨A2, c2, L2, rfl, hmap2, hraws2, hb2⟩
 have hl2 : L2.length = n := by rw [← Hn.out, ← hmap2, List.length_map]
 have B2 := hid (bnext B1.out hb2)
 have HR2 := hid (HR.out.below hb2)
 have HOl := hid (own_row_lt HR.out.own)
 have HRw2 := hid (Row.of_own hraws2.own)
 have HEa2 := hid hraws2.each
 have HAd := hid (show ∀ ad, A2 = some ad → w1.heap.size ≤ ad.block ∧ ad.block < w2.heap.size from fun ad had => by
  rcases hraws2.own.2 with ⟨hv0, _⟩ | ⟨b', _, _, hv0, hbg, hg', _⟩
  ·injection hv0 with e1
   rw [had] at e1
   cases e1
  ·injection hv0 with e1
   rw [had] at e1
   injection e1 with e1
   rw [e1]
   exact ⟨hbg, hlt hg'⟩)
 have Hmap2 := hid hmap2
 have Hl2 := hid hl2
 have hsz12 := hb2.size
 rw [hl2]
 clear hraws2 hb2 hmap2 hl2 HA2
 go_wp2_with fail
 go_loopw [6, 31] (fun l i wr => ∃ (m : Nat) (A' : Option Addr) (c' : Nat) (M : List (HRaw × RawV)), m ≤ n ∧ i = .int .i64 m ∧ M.map Prod.snd = bothTo Z Y m ∧ l = .slice A' M.length c' ∧ RawsAt wr w.heap.size A' c' M ∧ (∀ k, (Value.slice A' M.length c').ownBlock = some k → k < w1.heap.size ∨ w2.heap.size ≤ k) ∧ Row wr w2.heap.size A2 (rawsC L2) ∧ (∀ p ∈ L2, RawAt wr p) ∧ Below w.heap.size w wr ∧ w2.heap.size ≤ wr.heap.size) (fun _ i _ => n - (intOf i).toNat)
 case atStart => exact ⟨0, A, c, L, by omega, rfl, Hmap.out, rfl, HR2.out, fun k hk => .inl (HOl.out k hk), HRw2.out, HEa2.out, B2.out, Nat.le_refl _⟩
 case round =>
  obtain ⟨m, A', c', M, hm, rfl, hmM, rfl, hrM, hoM, hrow, hea, hbel, hsz⟩ := hrel
  have HmM := hid hmM
  have HrM := hid hrM
  have HoM := hid hoM
  have Hrow := hid hrow
  have Hea := hid hea
  have Hbel := hid hbel
  obtain ⟨hok, hlen, -⟩ := HOk.out m hm
  have HokM := hid hok
  have hMl : M.length ≤ 64 := by
   have := congrArg List.length hmM
   rw [List.length_map] at this
   omega
  clear hmM hrM hoM hrow hea hbel hok hlen
  obtain ⟨wa, rfl⟩ : ∃ wa, wa = wr := ⟨_, rfl⟩
  by_cases hlt' : m < n
  ·have u1 : (m : Int) < (n : Int) := by omega
   have u2 : (0 : Int) ≤ (m : Int) := by omega
   obtain ⟨p, hp⟩ := list_get (k := m) Hl2.out hlt'
   obtain ⟨y, hyp⟩ : ∃ y, p.2 = y := ⟨_, rfl⟩
   have hy : Y[m]? = some y := by rw [← Hmap2.out, List.getElem?_map, hp, ← hyp]; rfl
   have Hjs := hid (bothTo_succ (Z := Z) hy)
   have Hp := hid hp
   obtain ⟨b, off, hAb, hbl, hcl⟩ := raw_at Hrow.out hp
   have HX := hid hcl
   have HAb := hid hAb
   have hpl := rawC_len p
   have Hp1 := hid (rawC_one p)
   have hp0 : (rawC p)[0]? = some (.string y.m.name) := by rw [← hyp]; rfl
   obtain ⟨pc, hpc⟩ : ∃ pc, rawC p = pc := ⟨_, rfl⟩
   rw [hpc] at hpl HX Hp1 hp0
   have Hpc := hid hpc
   have Hpl := hid hpl
   have Hyp := hid hyp
   have HFl := hid (show (Tryz.prog.info? 149).map (·.size) = some pc.length by rw [hpl]; exact inf_raw)
   have Hps := hid (show pc.toArray.size = 10 by rw [List.size_toArray, hpl])
   have HFz := hid (show (Tryz.prog.info? 149).map (·.size) = some pc.toArray.size by rw [Hps.out]; exact inf_raw)
   have HO1 := hid (show pc.toArray.all (·.oneCell') = true by
    rw [Array.all_eq_true_iff_forall_mem]
    intro v hv
    exact Hp1.out v (by simpa using hv))
   obtain ⟨w3, hw3⟩ : ∃ w3, wa.alloc (.cells pc.toArray 149) = w3 := ⟨_, rfl⟩
   have B3 := hid (show Below wa.heap.size wa w3 by rw [← hw3]; exact bnew wa _)
   have X3 := hid (show Blk w3 wa.heap.size 149 pc by rw [← hw3]; exact Blk.new wa _ pc)
   have x0 : w3.cell? ⟨wa.heap.size, 0, none⟩ = some (.string y.m.name) := (X3.out.cell 0).trans hp0
   have R3 := hid (HrM.out.below B3.out)
   have HA3 := hid (HAt.out M A' c' y.m.name w3 (by omega) (Row.of_own R3.out.own))
   rw [HmM.out] at HA3
   obtain ⟨nm, hnm⟩ : ∃ nm, y.m.name = nm := ⟨_, rfl⟩
   rw [hnm] at HA3 x0 Hjs
   obtain ⟨k, hk⟩ : ∃ k, atZ (bothTo Z Y m) nm = k := ⟨_, rfl⟩
   have hkle : k ≤ M.length := by
    have h1 := atZ_le (bothTo Z Y m) nm
    rw [hk, ← HmM.out, List.length_map] at h1
    exact h1
   rw [hk] at HA3 Hjs
   have Hw3 := hid hw3
   subst hAb
   clear hp hy hpc hpl hbl hcl hw3 hp0 hyp hnm hk
   go_wp2_with (first | (refine wpList_load_part_w rfl 149 (.tmp 33) rfl b (off + m * 10) rfl pc _ HX.out Tryz.underlying149 rfl HFl.out ?_) | (refine wpList_store_row_w rfl 149 (.tmp 8) (.tmp 34) rfl wa.heap.size rfl _ _ pc.toArray rfl (heap_alloc_new wa _) HFz.out (by rw [Hps.out]; rfl) HO1.out ?_; rw [World.setRow_alloc_new, Hw3.out]) | (go_at_call 90; fail))
   refine HA3.out.mono ?_
   rintro e w4 ⟨rfl, hb4⟩
   have B4 := hid (bnext B3.out hb4)
   have X4 := hid (X3.out.below hb4 X3.out.lt)
   have R4 := hid (HrM.out.below B4.out)
   have hsz4 := B4.out.size
   clear hb4 HA3 x0 X3 R3 B3
   cases hat : atB (bothTo Z Y m) nm with
   | true =>
    have hjs := Hjs.out
    rw [hat, if_pos rfl] at hjs
    have Hjs2 := hid hjs
    clear hjs hat
    go_wp2_with fail
    go_roundw
    case rel => exact ⟨m + 1, A', c', M, by omega, by go_num, by rw [HmM.out, Hjs2.out], rfl, R4.out, HoM.out, Hrow.out.keep fun q hq => B4.out.cell (by omega), fun q hq => (Hea.out q hq).below B4.out, bnext Hbel.out B4.out, by omega⟩
    case measure => first | (simp [intOf]; done) | (simp [intOf]; omega)
   | false =>
    have hjs := Hjs.out
    rw [hat, if_neg Bool.false_ne_true] at hjs
    have Hjs2 := hid hjs
    have X4h := hid (show w4.heap[wa.heap.size]? = some (.cells pc.toArray 149 (0, 0)) from X4.out)
    have hlt4 : wa.heap.size < w4.heap.size := X4.out.lt
    have B5 := hid (bnext B4.out (bnew w4 (.cells pc.toArray 149)))
    have R5 := hid (R4.out.below (bnew w4 (.cells pc.toArray 149)))
    have HP5 := hid (fun q hq => (Hea.out q hq).below B5.out)
    have HIn := hid (ins_any M A' c' k w.heap.size (w4.alloc (.cells pc.toArray 149)) hkle (by omega) (by have := Hbel.out.size; have := B5.out.size; omega) R5.out p (HP5.out p (List.mem_of_getElem? Hp.out)) w4.heap.size 1 pc.toArray (heap_alloc_new w4 _) (by rw [List.toList_toArray, List.take_of_length_le (by rw [Hpl.out]; exact Nat.le_refl _), Hpc.out]) (fun j hj => by
     have h1 := own_row_lt HrM.out.own j hj
     omega))
    clear hjs hat
    go_wp2_with (first | (refine wpList_load_row_w rfl 149 (.tmp 8) rfl wa.heap.size rfl _ pc.toArray _ _ X4h.out Tryz.underlying149 rfl HFz.out ?_) | (refine wpList_build_one rfl 145 149 (.tmp 47) rfl i0 z0 10 Tryz.underlying145 hi hz0 hi1 (by omega) (by omega) pc.toArray rfl Hps.out ?_) | (go_at_call 93; fail))
    refine HIn.out.mono ?_
    rintro e w6 ⟨A6, c6, rfl, hr6, hb6, hg6, ho6⟩
    have R6 := hid hr6
    have B6 := hid hb6
    have G6 := hid hg6
    have O6 := hid ho6
    clear hr6 hb6 hg6 ho6 HIn
    go_wp2_with fail
    go_roundw
    case rel =>
     have hil : (M.insertIdx k p).length = M.length + 1 := by rw [List.length_insertIdx, if_pos hkle]
     have hs5 := B5.out.size
     refine ⟨m + 1, A6, c6, M.insertIdx k p, by omega, by go_num, ?_, by rw [hil], R6.out, fun j hj => ?_, ?_, fun q hq => ?_, (bnext Hbel.out B5.out).trans B6.out, by have := G6.out.size; omega⟩
     ·have h1 : k ≤ (bothTo Z Y m).length := by rw [← HmM.out, List.length_map]; exact hkle
      rw [Hjs2.out, ins_eq p M k hkle, ins_eq _ _ k h1, List.map_append, List.map_cons, List.map_take, List.map_drop, HmM.out, Hyp.out]
     ·rw [hil] at hj
      rcases O6.out j hj with h1 | h1
      ·exact HoM.out j h1
      ·exact .inr (by omega)
     ·refine Row.aside (w := w4.alloc (.cells pc.toArray 149)) (Hrow.out.keep fun q hq => B5.out.cell (by omega)) (by omega) G6.out (fun ad had h => ?_)
      have h1 := HoM.out ad.block h
      have h2 := HAd.out ad had
      omega
     ·exact (HP5.out q hq).far R5.out.own (by decide) (by decide) G6.out
    case measure => first | (simp [intOf]; done) | (simp [intOf]; omega)
  ·have hmn : m = n := by omega
   subst hmn
   have u1 : ¬ ((m : Int) < (m : Int)) := by omega
   have u2 : ¬ ((M.length : Int) > 64) := by omega
   have u3 : ¬ ((64 : Int) < (M.length : Int)) := by omega
   have HBu := hid (build_ok size M A' c' w.heap.size wa (by rw [HmM.out]; exact HokM.out) HrM.out)
   rw [HmM.out] at HBu
   have Hb := hid Hbel.out
   clear HmM
   go_wp2_with (first | (go_at_call 51; refine (HS1.out _ Hb.out).mono ?_; rintro e w' ⟨rfl, rfl⟩) | (go_at_call 92; fail))
   refine HBu.out.mono ?_
   rintro e w4 hI
   have HI := hid (ImageP.later Hb.out hI)
   obtain ⟨_, g4, rfl, _, _, _⟩ := hI
   clear HBu
   go_wp2
   refine bodyPost_ret (results_tmp2 Tryz.results46 _ _ _) rfl ?_
   exact HI.out
end Go.Proofs.YtgcfkblmnpnogaaGreatDoor
