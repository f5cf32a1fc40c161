/- ParL. Conditions: as each theorem states. -/
import Derived.Test.YtoagdidkadfekaaGreatDoorPc42

namespace Go.Proofs.YtoagdidkadfekaaGreatDoor
open Go.RowKit Go.Lib

theorem samp_all (nm : ByteArray) (rate : Int) (lp : Bool) (f t : Int) (a : Option Addr) (len cp : Nat) : (#[.string nm, .int .i64 rate, .bool lp, .int .i64 f, .int .i64 t, .slice a len cp] : Array Value).all (·.oneCell') = true := by
  rw [Array.all_eq_true_iff_forall_mem]
  intro v hv
  have hv' : v ∈ ([.string nm, .int .i64 rate, .bool lp, .int .i64 f, .int .i64 t, .slice a len cp] : List Value) := by simpa using hv
  simp only [List.mem_cons, List.not_mem_nil, or_false] at hv'
  rcases hv' with rfl | rfl | rfl | rfl | rfl | rfl <;> rfl
theorem results_t3 {P : Program} {fn : Func} {p q r : Tmp} (h : fn.results = #[.tmp p, .tmp q, .tmp r]) (tmps : Array Value) (w : World) : (results fn tmps).run P w = .ok (.tuple #[tmps.getD p undef, tmps.getD q undef, tmps.getD r undef]) w := by
  simp [results, h]
theorem Find_no (v : Value) (nm : ByteArray) (w : World) (h : NoBank w v) : Calls Tryz.prog 31 #[v, .string nm] w fun e w' => e = .returned (.tuple #[.int .i64 0, .bool false]) ∧ w = w' := by
  have HN := Lib.hid (none_no v w h)
  clear h
  go_enter Tryz.func31, Tryz.ntmps31
  go_wp2_with (go_at_call 59; refine HN.out.mono ?_; rintro e w2 ⟨rfl, rfl⟩)
  refine bodyPost_ret (results_tmp2 Tryz.results31 _ _ _) rfl ?_
  exact ⟨rfl, rfl⟩
theorem Size_no (v : Value) (w : World) (h : NoBank w v) : Calls Tryz.prog 21 #[v] w fun e w' => e = .returned (.int .i64 0) ∧ w = w' := by
  have HN := Lib.hid (none_no v w h)
  clear h
  go_enter Tryz.func21, Tryz.ntmps21
  go_wp2_with (go_at_call 59; refine HN.out.mono ?_; rintro e w2 ⟨rfl, rfl⟩)
  go_ret
  exact ⟨rfl, rfl⟩
theorem Dir_no (v : Value) (w : World) (h : NoBank w v) : Calls Tryz.prog 20 #[v] w fun e w' => e = .returned (.slice none 0 0) ∧ w = w' := by
  have HN := Lib.hid (none_no v w h)
  clear h
  go_enter Tryz.func20, Tryz.ntmps20
  go_wp2_with (go_at_call 59; refine HN.out.mono ?_; rintro e w2 ⟨rfl, rfl⟩)
  go_ret
  exact ⟨rfl, rfl⟩
theorem Image_no (v : Value) (w : World) (h : NoBank w v) : Calls Tryz.prog 22 #[v] w fun e w' => e = .returned (.slice none 0 0) ∧ w = w' := by
  have HN := Lib.hid (none_no v w h)
  clear h
  go_enter Tryz.func22, Tryz.ntmps22
  go_wp2_with (go_at_call 59; refine HN.out.mono ?_; rintro e w2 ⟨rfl, rfl⟩)
  go_ret
  exact ⟨rfl, rfl⟩
set_option maxRecDepth 100000 in
theorem Bad_no (v : Value) (i : Int) (w : World) (h : NoBank w v) : Calls Tryz.prog 33 #[v, .int .i64 i] w fun e w' => e = .returned (.slice none 0 0) ∧ Below w.heap.size w w' := by
  have HM := Lib.hid (show Calls Tryz.prog 35 #[v, .int .i64 i] w (fun e w' => e = .returned (.tuple #[.agg #[.string ⟨#[]⟩, .int .i64 0, .int .i64 0, .int .i64 0, .bool false, .int .i64 0, .int .i64 0, .int .i64 0, .int .i64 0], .int .i64 16]) ∧ Below w.heap.size w w') from BMeta_no v i w h)
  have HMf := Lib.hid (show (Tryz.prog.info? 49).map (·.size) = some 9 by kernel_rfl)
  have HO1 := Lib.hid (meta_all zeroM)
  clear h
  go_enter Tryz.func33, Tryz.ntmps33
  go_wp2_with (go_at_call 35; fail)
  refine HM.out.mono ?_
  rintro e w2 ⟨rfl, hb2⟩
  go_wp2_with (refine wpList_store_row_w rfl 49 (.tmp 5) (.tmp 17) rfl w2.heap.size rfl _ _ #[.string ⟨#[]⟩, .int .i64 0, .int .i64 0, .int .i64 0, .bool false, .int .i64 0, .int .i64 0, .int .i64 0, .int .i64 0] rfl (heap_alloc_new w2 _) HMf.out rfl HO1.out ?_; rw [World.setRow_alloc_new])
  go_ret
  exact ⟨rfl, bnext hb2 (bnew w2 _)⟩
set_option maxRecDepth 100000 in
theorem Where_no (v : Value) (i c b : Int) (w : World) (h : NoBank w v) : Calls Tryz.prog 27 #[v, .int .i64 i, .int .i64 c, .int .i64 b] w fun e w' => e = .returned (.tuple #[.int .i64 0, .int .u32 0, .int .i64 16]) ∧ Below w.heap.size w w' := by
  have HM := Lib.hid (show Calls Tryz.prog 35 #[v, .int .i64 i] w (fun e w' => e = .returned (.tuple #[.agg #[.string ⟨#[]⟩, .int .i64 0, .int .i64 0, .int .i64 0, .bool false, .int .i64 0, .int .i64 0, .int .i64 0, .int .i64 0], .int .i64 16]) ∧ Below w.heap.size w w') from BMeta_no v i w h)
  have HMf := Lib.hid (show (Tryz.prog.info? 49).map (·.size) = some 9 by kernel_rfl)
  have HO1 := Lib.hid (meta_all zeroM)
  clear h
  go_enter Tryz.func27, Tryz.ntmps27
  go_wp2_with (go_at_call 35; fail)
  refine HM.out.mono ?_
  rintro e w2 ⟨rfl, hb2⟩
  go_wp2_with (refine wpList_store_row_w rfl 49 (.tmp 11) (.tmp 18) rfl w2.heap.size rfl _ _ #[.string ⟨#[]⟩, .int .i64 0, .int .i64 0, .int .i64 0, .bool false, .int .i64 0, .int .i64 0, .int .i64 0, .int .i64 0] rfl (heap_alloc_new w2 _) HMf.out rfl HO1.out ?_; rw [World.setRow_alloc_new])
  refine bodyPost_ret (results_t3 Tryz.results27 _ _) rfl ?_
  exact ⟨rfl, bnext hb2 (bnew w2 _)⟩
set_option maxRecDepth 100000 in
theorem Whole_no (v : Value) (i c : Int) (w : World) (h : NoBank w v) : Calls Tryz.prog 36 #[v, .int .i64 i, .int .i64 c] w fun e w' => e = .returned (.tuple #[.slice none 0 0, .int .i64 16]) ∧ Below w.heap.size w w' := by
  have HM := Lib.hid (show Calls Tryz.prog 35 #[v, .int .i64 i] w (fun e w' => e = .returned (.tuple #[.agg #[.string ⟨#[]⟩, .int .i64 0, .int .i64 0, .int .i64 0, .bool false, .int .i64 0, .int .i64 0, .int .i64 0, .int .i64 0], .int .i64 16]) ∧ Below w.heap.size w w') from BMeta_no v i w h)
  have HMf := Lib.hid (show (Tryz.prog.info? 49).map (·.size) = some 9 by kernel_rfl)
  have HO1 := Lib.hid (meta_all zeroM)
  clear h
  go_enter Tryz.func36, Tryz.ntmps36
  go_wp2_with (go_at_call 35; fail)
  refine HM.out.mono ?_
  rintro e w2 ⟨rfl, hb2⟩
  go_wp2_with (refine wpList_store_row_w rfl 49 (.tmp 8) (.tmp 21) rfl w2.heap.size rfl _ _ #[.string ⟨#[]⟩, .int .i64 0, .int .i64 0, .int .i64 0, .bool false, .int .i64 0, .int .i64 0, .int .i64 0, .int .i64 0] rfl (heap_alloc_new w2 _) HMf.out rfl HO1.out ?_; rw [World.setRow_alloc_new])
  refine bodyPost_ret (results_tmp2 Tryz.results36 _ _ _) rfl ?_
  exact ⟨rfl, bnext hb2 (bnew w2 _)⟩
set_option maxRecDepth 100000 in
theorem Unpack_no (v : Value) (i : Int) (w : World) (h : NoBank w v) : Calls Tryz.prog 34 #[v, .int .i64 i] w fun e w' => e = .returned (.tuple #[.agg #[.string ⟨#[]⟩, .int .i64 0, .bool false, .int .i64 0, .int .i64 0, .slice none 0 0], .int .i64 16]) ∧ Below w.heap.size w w' := by
  have HM := Lib.hid (fun W (hW : Below w.heap.size w W) => (show Calls Tryz.prog 35 #[v, .int .i64 i] W (fun e w' => e = .returned (.tuple #[.agg #[.string ⟨#[]⟩, .int .i64 0, .int .i64 0, .int .i64 0, .bool false, .int .i64 0, .int .i64 0, .int .i64 0, .int .i64 0], .int .i64 16]) ∧ Below W.heap.size W w') from BMeta_no v i W (h.later hW)))
  have HMf := Lib.hid (show (Tryz.prog.info? 49).map (·.size) = some 9 by kernel_rfl)
  have HSf := Lib.hid (show (Tryz.prog.info? 72).map (·.size) = some 6 by kernel_rfl)
  have HO1 := Lib.hid (meta_all zeroM)
  have HO2 := Lib.hid (samp_all ⟨#[]⟩ 0 false 0 0 none 0 0)
  obtain ⟨w1, hw1⟩ : ∃ w1, w.alloc (.cells #[.string ⟨#[]⟩, .int .i64 0, .bool false, .int .i64 0, .int .i64 0, .slice none 0 0] 72) = w1 := ⟨_, rfl⟩
  have B1 := Lib.hid (show Below w.heap.size w w1 by rw [← hw1]; exact bnew w _)
  have L1 := Lib.hid (show Blk w1 w.heap.size 72 [.string ⟨#[]⟩, .int .i64 0, .bool false, .int .i64 0, .int .i64 0, .slice none 0 0] by rw [← hw1]; exact Blk.new w _ [.string ⟨#[]⟩, .int .i64 0, .bool false, .int .i64 0, .int .i64 0, .slice none 0 0])
  clear h
  go_enter Tryz.func34, Tryz.ntmps34
  go_wp2_with (go_at_call 35; fail)
  refine (HM.out w1 B1.out).mono ?_
  rintro e w2 ⟨rfl, hb2⟩
  have B2 := Lib.hid (bnext B1.out hb2)
  have L3 := Lib.hid ((L1.out.below hb2 L1.out.lt).alloc (.cells #[.string ⟨#[]⟩, .int .i64 0, .int .i64 0, .int .i64 0, .bool false, .int .i64 0, .int .i64 0, .int .i64 0, .int .i64 0] 49))
  clear hb2 hw1
  go_wp2_with (first | (refine wpList_store_row_w rfl 49 (.tmp 6) (.tmp 16) rfl w2.heap.size rfl _ _ #[.string ⟨#[]⟩, .int .i64 0, .int .i64 0, .int .i64 0, .bool false, .int .i64 0, .int .i64 0, .int .i64 0, .int .i64 0] rfl (heap_alloc_new w2 _) HMf.out rfl HO1.out ?_; rw [World.setRow_alloc_new]) | (refine wpList_store_row_w rfl 72 (.tmp 4) (.tmp 20) rfl w.heap.size rfl _ _ #[.string ⟨#[]⟩, .int .i64 0, .bool false, .int .i64 0, .int .i64 0, .slice none 0 0] rfl L3.out HSf.out rfl HO2.out ?_))
  refine bodyPost_ret (v := .tuple #[.agg #[.string ⟨#[]⟩, .int .i64 0, .bool false, .int .i64 0, .int .i64 0, .slice none 0 0], .int .i64 16]) (results_cell_tmp Tryz.results34 _ _ w.heap.size 72 _ (0, 0) _ _ rfl rfl (setRow_at _ _ _ _ _ L3.out) Tryz.underlying72 rfl HSf.out) rfl ?_
  exact ⟨rfl, below_setRow (bnext B2.out (bnew w2 _)) (Nat.le_refl _) _⟩
set_option maxRecDepth 100000 in
set_option maxHeartbeats 4000000 in
theorem BankNobody_walk (nm : ByteArray) (i : Int) (w : World) : Calls Tryz.prog 8 #[.string nm, .int .i64 i] w fun e w' => e = .returned (.bool true) ∧ Below w.heap.size w w' := by
  have HMf := Lib.hid (show (Tryz.prog.info? 49).map (·.size) = some 9 by kernel_rfl)
  have HSf := Lib.hid (show (Tryz.prog.info? 72).map (·.size) = some 6 by kernel_rfl)
  have HO1 := Lib.hid (meta_all zeroM)
  have HO2 := Lib.hid (samp_all ⟨#[]⟩ 0 false 0 0 none 0 0)
  have HX := Lib.hid (fun W => (show NoBank W (.pointer none) from .inl rfl))
  obtain ⟨w1, hw1⟩ : ∃ w1, w.alloc (.cells #[.slice none 0 0, .int .i64 0, .slice none 0 0] 79) = w1 := ⟨_, rfl⟩
  have B1 := Lib.hid (show Below w.heap.size w w1 by rw [← hw1]; exact bnew w _)
  have HZ := Lib.hid (show NoBank w1 (.pointer (some ⟨w.heap.size, 0, none⟩)) from .inr ⟨w.heap.size, rfl, by rw [← hw1]; exact Blk.new w 79 [.slice none 0 0, .int .i64 0, .slice none 0 0]⟩)
  go_enter Tryz.func8, Tryz.ntmps8
  go_wp2_with (go_at_call 31; fail)
  clear hw1
  refine (Find_no (.pointer none) nm w1 (HX.out _)).mono ?_
  rintro e w2 ⟨rfl, rfl⟩
  go_wp2_with (go_at_call 35; fail)
  refine (show Calls Tryz.prog 35 #[.pointer (some ⟨w.heap.size, 0, none⟩), .int .i64 i] w1 (fun e w' => e = .returned (.tuple #[.agg #[.string ⟨#[]⟩, .int .i64 0, .int .i64 0, .int .i64 0, .bool false, .int .i64 0, .int .i64 0, .int .i64 0, .int .i64 0], .int .i64 16]) ∧ Below w1.heap.size w1 w') from BMeta_no _ i w1 HZ.out).mono ?_
  rintro e w2 ⟨rfl, hb2⟩
  have E2 := Lib.hid (bnext hb2 (bnew w2 (.cells #[.string ⟨#[]⟩, .int .i64 0, .int .i64 0, .int .i64 0, .bool false, .int .i64 0, .int .i64 0, .int .i64 0, .int .i64 0] 49)))
  clear hb2
  go_wp2_with (first | (refine wpList_store_row_w rfl 49 (.tmp 9) (.tmp 27) rfl w2.heap.size rfl _ _ #[.string ⟨#[]⟩, .int .i64 0, .int .i64 0, .int .i64 0, .bool false, .int .i64 0, .int .i64 0, .int .i64 0, .int .i64 0] rfl (heap_alloc_new w2 _) HMf.out rfl HO1.out ?_; rw [World.setRow_alloc_new]) | (go_at_call 27; fail))
  refine (Where_no (.pointer none) i i i _ (HX.out _)).mono ?_
  rintro e w3 ⟨rfl, hb3⟩
  have E3 := Lib.hid (bnext E2.out hb3)
  clear hb3
  go_wp2_with (go_at_call 36; fail)
  refine (Whole_no (.pointer (some ⟨w.heap.size, 0, none⟩)) i i w3 (HZ.out.later E3.out)).mono ?_
  rintro e w4 ⟨rfl, hb4⟩
  have E4 := Lib.hid (bnext E3.out hb4)
  clear hb4
  go_wp2_with (go_at_call 34; fail)
  refine (Unpack_no (.pointer none) i w4 (HX.out _)).mono ?_
  rintro e w5 ⟨rfl, hb5⟩
  have E5 := Lib.hid (bnext (bnext E4.out hb5) (bnew w5 (.cells #[.string ⟨#[]⟩, .int .i64 0, .bool false, .int .i64 0, .int .i64 0, .slice none 0 0] 72)))
  clear hb5
  go_wp2_with (first | (refine wpList_store_row_w rfl 72 (.tmp 16) (.tmp 48) rfl w5.heap.size rfl _ _ #[.string ⟨#[]⟩, .int .i64 0, .bool false, .int .i64 0, .int .i64 0, .slice none 0 0] rfl (heap_alloc_new w5 _) HSf.out rfl HO2.out ?_; rw [World.setRow_alloc_new]) | (go_at_call 21; fail))
  refine (Size_no (.pointer none) _ (HX.out _)).mono ?_
  rintro e w6 ⟨rfl, rfl⟩
  go_wp2_with (go_at_call 21; fail)
  refine (Size_no (.pointer (some ⟨w.heap.size, 0, none⟩)) _ (HZ.out.later E5.out)).mono ?_
  rintro e w6 ⟨rfl, rfl⟩
  go_wp2_with (go_at_call 20; refine (Dir_no (.pointer none) _ (HX.out _)).mono ?_; rintro e w6 ⟨rfl, rfl⟩)
  refine (Image_no (.pointer (some ⟨w.heap.size, 0, none⟩)) _ (HZ.out.later E5.out)).mono ?_
  rintro e w6 ⟨rfl, rfl⟩
  go_wp2_with (go_at_call 33; fail)
  refine (Bad_no (.pointer none) i _ (HX.out _)).mono ?_
  rintro e w7 ⟨rfl, hb7⟩
  have E7 := Lib.hid (bnext E5.out hb7)
  clear hb7
  go_wp2_with (go_at_call 11; refine (awake15_any _).mono ?_; rintro e w8 ⟨rfl, hb8⟩)
  go_ret
  exact ⟨rfl, bnext (bnext B1.out E7.out) hb8⟩
theorem BankNobody_law (W : World) (v0 v1 : Value) (a0 : Arg W (.str) v0) (a1 : Arg W (.int .i64) v1) :
    Calls Tryz.prog 8 #[v0, v1] W fun e w' => e = .returned (.bool true) ∧ Below W.heap.size W w' := by
  obtain ⟨nm, ha, _⟩ := a0
  obtain rfl : v0 = .string nm := by simpa using ha
  obtain ⟨i, hb, _, _⟩ := a1
  obtain rfl : v1 = .int .i64 i := by simpa using hb
  exact BankNobody_walk nm i W
end Go.Proofs.YtoagdidkadfekaaGreatDoor
