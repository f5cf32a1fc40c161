/- ParS. Conditions: as each theorem states. -/
import Derived.Test.YtoagdidkadfekaaGreatDoorPdxParR
import Derived.Test.YtoagdidkadfekaaGreatDoorPdxRdC

namespace Go.Proofs.YtoagdidkadfekaaGreatDoor
open Go.RowKit Go.Lib

noncomputable def openE (D : List MetaV) (bs : List Nat) (i c b : Int) (B : List Nat) : Int :=
  if whereE D i c b ≠ 0 then whereE D i c b else if crcZ B ≠ (whereSum D bs i c b : Nat) then 9 else if rdErr B ≠ 0 then 4 else 0
noncomputable def openF (D : List MetaV) (bs : List Nat) (i c b : Int) (B : List Nat) : FrameV := if openE D bs i c b B = 0 then rdF B else zeroFr
theorem rdF_len' (B : List Nat) : (rdF B).Len := by
  unfold rdF
  split
  · rename_i h
    have : RightF (frameR B) := by
      unfold rdErr at h
      split at h
      · rename_i h1; exact absurd h h1
      · split at h
        · assumption
        · cases h
    exact this.len
  · exact ⟨rfl, rfl, rfl, rfl⟩
theorem post_zero (w W : World) (er : Int) (hb : Below w.heap.size w W) : FitPost w zeroFr er (.returned (.tuple #[.agg zeroF, .int .i64 er])) W := ⟨none, 0, rfl, Nat.le_refl _, by omega, .inl rfl, Row.none_ _ _ _, hb⟩
set_option maxRecDepth 100000 in
set_option maxHeartbeats 16000000 in
theorem Open_any (g size : Nat) (bs : List Nat) (D : List MetaV) (i c b : Int) (B : List Nat) (A : Option Addr) (cb : Nat) (w : World) (h : BankAt w g bs size D) (hf : FitB bs size D)
    (hn : B.length ≤ 1000000) (hb : Byt B) (hr : Row w w.heap.size A (u8s B)) :
    Calls Tryz.prog 28 #[.pointer (some ⟨g, 0, none⟩), .int .i64 i, .int .i64 c, .int .i64 b, .slice A B.length cb] w (FitPost w (openF D bs i c b B) (openE D bs i c b B)) := by
  have HFz := Lib.hid (show (Tryz.prog.info? 62).map (·.size) = some zeroF.size from inf_frame)
  have Hz1 := Lib.hid (show zeroF.all (·.oneCell') = true by simp [zeroF, Value.oneCell'])
  obtain ⟨w1, hw1⟩ : ∃ w1, w.alloc (.cells zeroF 62) = w1 := ⟨_, rfl⟩
  have B1 := Lib.hid (show Below w.heap.size w w1 by rw [← hw1]; exact bnew w _)
  have S1 := Lib.hid (show w1.heap[w.heap.size]? = some (.cells zeroF 62 (0, 0)) by rw [← hw1]; exact heap_alloc_new w _)
  have HW := Lib.hid (Where_any g size bs D i c b w1 (h.later B1.out) hf)
  unfold WherePost at HW
  have HCr := Lib.hid (fun W (hW : Below w.heap.size w W) => crcSum_any B A cb W (by omega) (hr.later hW))
  have HRd := Lib.hid (fun W (hW : Below w.heap.size w W) => FRead_gen B A cb W hn hb (hr.later hW))
  have HE := Lib.hid (show openE D bs i c b B = if whereE D i c b ≠ 0 then whereE D i c b else if crcZ B ≠ (whereSum D bs i c b : Nat) then 9 else if rdErr B ≠ 0 then 4 else 0 from rfl)
  have HF := Lib.hid (show openF D bs i c b B = if openE D bs i c b B = 0 then rdF B else zeroFr from rfl)
  have HLn := Lib.hid (rdF_len' B)
  have hw1' : w.alloc (.cells #[.int .i64 0, .int .i64 0, .int .i64 0, .int .i64 0, .slice none 0 0, .int .i64 0, .int .i64 0, .int .i64 0, .int .i64 0, .int .i64 0, .int .i64 0, .int .i64 0, .int .i64 0, .int .i64 0, .int .i64 0, .int .i64 0, .int .i64 0, .int .i64 0, .int .i64 0, .int .i64 0, .int .i64 0, .int .i64 0, .int .i64 0, .int .i64 0, .int .i64 0, .int .i64 0, .int .i64 0, .int .i64 0, .int .i64 0] 62) = w1 := hw1
  clear hw1 h hf hb hr
  generalize openE D bs i c b B = OE at *
  generalize openF D bs i c b B = OF at *
  generalize whereE D i c b = E at *
  generalize whereAt D size i c b = AT at *
  generalize whereSum D bs i c b = V at *
  generalize crcZ B = C at *
  generalize rdErr B = ER at *
  generalize rdF B = RF at *
  generalize B.length = nb at *
  by_cases q1 : E = 0
  rotate_left
  · have t1 : (E != 0) = true := by rw [bne_iff_ne]; exact q1
    have h1 : OE = E := by rw [HE.out, if_pos q1]
    have h2 : OF = zeroFr := by rw [HF.out, h1, if_neg q1]
    rw [h1, h2]
    clear h1 h2 HE HF q1
    go_enter Tryz.func28, Tryz.ntmps28
    go_wp2_with (go_at_call 27; fail)
    clear hw1'
    refine HW.out.mono ?_
    rintro e w2 ⟨rfl, hb2⟩
    have S2 := Lib.hid (hkeep S1.out hb2)
    have B2 := Lib.hid (bnext B1.out hb2)
    clear hb2
    go_wp2_with (refine wpList_store_row_w rfl 62 (.tmp 10) (.tmp 28) rfl w.heap.size rfl _ _ zeroF rfl S2.out HFz.out (by rfl) Hz1.out ?_)
    refine bodyPost_ret (v := .tuple #[.agg zeroF, .int .i64 E]) (results_cell_tmp Tryz.results28 _ _ w.heap.size 62 zeroF (0, 0) _ _ rfl rfl (setRow_heap _ _ _ _ _ _ S2.out) Tryz.underlying62 rfl HFz.out) rfl ?_
    exact post_zero w _ E (setRow_below B2.out _ (Nat.le_refl _) _)
  subst q1
  by_cases q2 : C = (V : Int)
  rotate_left
  · have t2 : (C != (V : Int)) = true := by rw [bne_iff_ne]; exact q2
    have h1 : OE = 9 := by rw [HE.out, if_neg (by simp), if_pos q2]
    have h2 : OF = zeroFr := by rw [HF.out, h1]; rfl
    rw [h1, h2]
    clear h1 h2 HE HF q2
    go_enter Tryz.func28, Tryz.ntmps28
    go_wp2_with (go_at_call 27; fail)
    clear hw1'
    refine HW.out.mono ?_
    rintro e w2 ⟨rfl, hb2⟩
    have S2 := Lib.hid (hkeep S1.out hb2)
    have B2 := Lib.hid (bnext B1.out hb2)
    clear hb2
    go_wp2_with (first | (go_at_call 19; refine (HCr.out _ B2.out).mono ?_; rintro e w3 ⟨rfl, rfl⟩) | (refine wpList_store_row_w rfl 62 (.tmp 10) (.tmp 35) rfl w.heap.size rfl _ _ zeroF rfl S2.out HFz.out (by rfl) Hz1.out ?_))
    refine bodyPost_ret (v := .tuple #[.agg zeroF, .int .i64 9]) (results_cell_tmp Tryz.results28 _ _ w.heap.size 62 zeroF (0, 0) _ _ rfl rfl (setRow_heap _ _ _ _ _ _ S2.out) Tryz.underlying62 rfl HFz.out) rfl ?_
    exact post_zero w _ 9 (setRow_below B2.out _ (Nat.le_refl _) _)
  subst q2
  have t2 : ((V : Int) != (V : Int)) = false := by simp
  go_enter Tryz.func28, Tryz.ntmps28
  go_wp2_with (go_at_call 27; fail)
  clear hw1'
  refine HW.out.mono ?_
  rintro e w2 ⟨rfl, hb2⟩
  have S2 := Lib.hid (hkeep S1.out hb2)
  have B2 := Lib.hid (bnext B1.out hb2)
  clear hb2
  go_wp2_with (first | (go_at_call 19; refine (HCr.out _ B2.out).mono ?_; rintro e w3 ⟨rfl, rfl⟩) | (go_at_call 29; fail))
  refine (HRd.out _ B2.out).mono ?_
  rintro e w4 ⟨Af, cf, rfl, htl, hcf, hfr, hrow, hb4⟩
  have S4 := Lib.hid (hkeep S2.out hb4)
  have B4 := Lib.hid (bnext B2.out hb4)
  obtain ⟨p, hp⟩ : ∃ p : FrH × FrameV, (⟨⟨Af, cf⟩, RF⟩ : FrH × FrameV) = p := ⟨_, rfl⟩
  have hpf : p.2 = RF := by rw [← hp]
  have hpc : frameA RF (.slice Af RF.tones.length cf) = (frC p).toArray := by rw [← hp]; rfl
  rw [hpc]
  have HPc := Lib.hid hpc
  have hpl : (frC p).length = 29 := frC_len (by rw [hpf]; exact HLn.out)
  have Hp1 := Lib.hid (frC_one p)
  obtain ⟨fl, hfl⟩ : ∃ fl, frC p = fl := ⟨_, rfl⟩
  rw [hfl] at Hp1 hpl HPc ⊢
  have hfs : fl.toArray.size = 29 := by rw [List.size_toArray, hpl]
  have Hfs := Lib.hid hfs
  have HFf := Lib.hid (show (Tryz.prog.info? 62).map (·.size) = some fl.toArray.size by rw [hfs]; exact inf_frame)
  have Hf1 := Lib.hid (show fl.toArray.all (·.oneCell') = true by
    rw [Array.all_eq_true_iff_forall_mem]
    intro v hv
    exact Hp1.out v (by simpa using hv))
  have HZ2 := Lib.hid (show zeroF.size = fl.toArray.size by rw [hfs]; rfl)
  have B5 := Lib.hid (bnext B4.out (bnew w4 (.cells fl.toArray 62)))
  have S5 := Lib.hid (show (w4.alloc (.cells fl.toArray 62)).heap[w.heap.size]? = some (.cells zeroF 62 (0, 0)) from (heap_alloc_old _ _ (hlt S4.out)).trans S4.out)
  have F5 := Lib.hid (heap_alloc_new w4 (.cells fl.toArray 62))
  have Htl := Lib.hid htl
  have Hcf := Lib.hid hcf
  have HR5 := Lib.hid (show Row ((w4.alloc (.cells fl.toArray 62)).setRow w.heap.size fl.toArray) ((w4.alloc (.cells fl.toArray 62)).setRow w.heap.size fl.toArray).heap.size Af (toneCells RF.tones) from
    row_setRow (hfr.imp id fun ⟨g', h1, h2⟩ => ⟨g', h1, h2⟩) (hlt S2.out) fl.toArray (hrow.later (bnew w4 _)))
  have Hfr := Lib.hid (show RF.tones = [] ∨ ∃ g', Af = some ⟨g', 0, none⟩ ∧ w.heap.size ≤ g' from hfr.imp id fun ⟨g', h1, h2⟩ => ⟨g', h1, by have := B2.out.size; omega⟩)
  clear htl hcf hfr hrow hb4 hp hpf hpc hpl hfl hfs
  by_cases q3 : ER = 0
  rotate_left
  · have t3 : (ER != 0) = true := by rw [bne_iff_ne]; exact q3
    have h1 : OE = 4 := by rw [HE.out, if_neg (by simp), if_neg (by simp), if_pos q3]
    have h2 : OF = zeroFr := by rw [HF.out, h1]; rfl
    have H1 := Lib.hid h1
    have H2 := Lib.hid h2
    clear h1 h2 HE HF q3
    go_wp2_with (first | (refine wpList_store_row_w rfl 62 (.tmp 15) (.tmp 39) rfl w4.heap.size rfl _ _ fl.toArray rfl (heap_alloc_new w4 _) HFf.out (by rw [Hfs.out]; rfl) Hf1.out ?_; rw [World.setRow_alloc_new]) | (refine wpList_store_row_w rfl 62 (.tmp 10) (.tmp 43) rfl w.heap.size rfl _ _ zeroF rfl S5.out HFz.out (by rfl) Hz1.out ?_))
    refine bodyPost_ret (v := .tuple #[.agg zeroF, .int .i64 4]) (results_cell_tmp Tryz.results28 _ _ w.heap.size 62 zeroF (0, 0) _ _ rfl rfl (setRow_heap _ _ _ _ _ _ S5.out) Tryz.underlying62 rfl HFz.out) rfl ?_
    rw [H1.out, H2.out]
    exact post_zero w _ 4 (setRow_below B5.out _ (Nat.le_refl _) _)
  · subst q3
    have h1 : OE = 0 := by rw [HE.out, if_neg (by simp), if_neg (by simp), if_neg (by simp)]
    have h2 : OF = RF := by rw [HF.out, h1, if_pos rfl]
    have H1 := Lib.hid h1
    have H2 := Lib.hid h2
    clear h1 h2 HE HF
    go_wp2_with (first | (refine wpList_store_row_w rfl 62 (.tmp 15) (.tmp 39) rfl w4.heap.size rfl _ _ fl.toArray rfl (heap_alloc_new w4 _) HFf.out (by rw [Hfs.out]; rfl) Hf1.out ?_; rw [World.setRow_alloc_new]) | (refine wpList_load_row_w rfl 62 (.tmp 15) rfl w4.heap.size rfl _ fl.toArray _ _ F5.out Tryz.underlying62 rfl HFf.out ?_) | (refine wpList_store_row_w rfl 62 (.tmp 10) (.tmp 44) rfl w.heap.size rfl _ _ fl.toArray rfl S5.out HFf.out HZ2.out Hf1.out ?_))
    refine bodyPost_ret (v := .tuple #[.agg fl.toArray, .int .i64 0]) (results_cell_tmp Tryz.results28 _ _ w.heap.size 62 fl.toArray (0, 0) _ _ rfl rfl (setRow_heap _ _ _ _ _ _ S5.out) Tryz.underlying62 rfl HFf.out) rfl ?_
    rw [H1.out, H2.out]
    exact ⟨Af, cf, by rw [HPc.out], Htl.out, Hcf.out, Hfr.out, HR5.out, setRow_below B5.out _ (Nat.le_refl _) _⟩
end Go.Proofs.YtoagdidkadfekaaGreatDoor
