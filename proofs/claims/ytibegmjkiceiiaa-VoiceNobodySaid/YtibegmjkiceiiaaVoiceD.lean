/- The law VoiceNobody; no condition. -/
import Derived.Test.YtibegmjkiceiiaaVoiceA
import Derived.Test.YtibegmjkiceiiaaHeaps
namespace Go.Proofs.Ytibegmjkiceiiaa
open Go.RowKit

def zeroMeta : Array Value := #[.string ⟨#[]⟩, .int .i64 0, .int .i64 0, .int .i64 0, .bool false, .int .i64 0, .int .i64 0, .int .i64 0, .int .i64 0]
def zeroVoice : Array Value := #[.string ⟨#[]⟩, .int .i64 0, .int .i64 0, .int .i64 0, .bool false, .int .i64 0, .int .i64 0, .int .i64 0, .int .i64 0, .slice none 0 0, .int .i64 0, .int .i64 0, .bool false]
theorem inf_meta : (Try.prog.info? 63).map (·.size) = some 9 := by kernel_rfl
theorem inf_stereo : (Try.prog.info? 92).map (·.size) = some 2 := by kernel_rfl
theorem res_cell_tmp {P : Program} {fn : Func} {p q : Tmp} {ty : TypeId} (h : fn.results = #[.cell p ty, .tmp q]) (tmps : Array Value) (w : World) (g : Nat) (t : TypeId) (cs : Array Value) (fr : Nat × Nat) (d : TypeDesc) (v : Value)
    (hp : tmps.getD p undef = .pointer (some ⟨g, 0, none⟩)) (hq : tmps.getD q undef = v) (hg : w.heap[g]? = some (.cells cs t fr))
    (hu : P.underlying ty = some d) (hd : (match d with | .struct _ | .array _ _ => true | _ => false) = true) (hi : (P.info? ty).map (·.size) = some cs.size) :
    (results fn tmps).run P w = .ok (.tuple #[.agg cs, v]) w := by
  have hp' : tmps[p]?.getD undef = .pointer (some ⟨g, 0, none⟩) := by simpa using hp
  have hq' : tmps[q]?.getD undef = v := by simpa using hq
  simp [results, h, hp', hq', asAddr, run_loadVar_row w g t ty cs fr d hg hu hd hi]
theorem fnone_nil (w : World) : Calls Try.prog 165 #[.pointer none] w fun e w' => e = .returned (.bool true) ∧ w = w' := by
  go_enter Try.func165, Try.ntmps165
  go_wp2
  go_ret
  exact ⟨rfl, rfl⟩
theorem fbank_nil (w : World) : Calls Try.prog 108 #[.pointer none] w fun e w' => e = .returned (.pointer none) ∧ w = w' := by
  go_enter Try.func108, Try.ntmps108
  go_wp2_with (go_at_call 165; refine (fnone_nil _).mono ?_; rintro e w' ⟨rfl, rfl⟩)
  go_ret
  exact ⟨rfl, rfl⟩
theorem bnone_nil (w : World) : Calls Try.prog 166 #[.pointer none] w fun e w' => e = .returned (.bool true) ∧ w = w' := by
  go_enter Try.func166, Try.ntmps166
  go_wp2
  go_ret
  exact ⟨rfl, rfl⟩
theorem bmeta_nil (i : Int) (w : World) : Calls Try.prog 109 #[.pointer none, .int .i64 i] w fun e w' => e = .returned (.tuple #[.agg zeroMeta, .int .i64 16]) ∧ Below w.heap.size w w' := by
  go_enter Try.func109, Try.ntmps109
  go_wp2_with (go_at_call 166; refine (bnone_nil _).mono ?_; rintro e w' ⟨rfl, rfl⟩)
  refine bodyPost_ret (v := .tuple #[.agg zeroMeta, .int .i64 16]) (res_cell_tmp Try.results109 _ _ w.heap.size 63 zeroMeta (0, 0) _ _ rfl rfl (heap_alloc_new w _) Try.underlying63 rfl inf_meta) rfl ?_
  exact ⟨rfl, bnew _ _⟩
theorem vnone_nil (w : World) : Calls Try.prog 111 #[.pointer none] w fun e w' => e = .returned (.bool true) ∧ w = w' := by
  go_enter Try.func111, Try.ntmps111
  go_wp2
  go_ret
  exact ⟨rfl, rfl⟩
theorem vnone_zero (g : Nat) (w : World) (h : w.heap[g]? = some (.cells zeroVoice 88 (0, 0))) : Calls Try.prog 111 #[.pointer (some ⟨g, 0, none⟩)] w fun e w' => e = .returned (.bool true) ∧ w = w' := by
  have c := cell_of_row w g 9 _ _ _ h
  have c9 : w.cell? ⟨g, 9, none⟩ = some (.slice none 0 0) := c
  clear c h
  go_enter Try.func111, Try.ntmps111
  go_wp2
  go_ret
  exact ⟨rfl, rfl⟩
theorem vdone_nil (w : World) : Calls Try.prog 48 #[.pointer none] w fun e w' => e = .returned (.bool true) ∧ w = w' := by
  go_enter Try.func48, Try.ntmps48
  go_wp2_with (go_at_call 111; refine (vnone_nil _).mono ?_; rintro e w' ⟨rfl, rfl⟩)
  go_ret
  exact ⟨rfl, rfl⟩
theorem vdone_zero (g : Nat) (w : World) (h : w.heap[g]? = some (.cells zeroVoice 88 (0, 0))) : Calls Try.prog 48 #[.pointer (some ⟨g, 0, none⟩)] w fun e w' => e = .returned (.bool true) ∧ w = w' := by
  have H := Lib.hid (vnone_zero g w h)
  clear h
  go_enter Try.func48, Try.ntmps48
  go_wp2_with (go_at_call 111; refine H.out.mono ?_; rintro e w' ⟨rfl, rfl⟩)
  go_ret
  exact ⟨rfl, rfl⟩
theorem vseek_zero (g : Nat) (at_ : Int) (w : World) (h : w.heap[g]? = some (.cells zeroVoice 88 (0, 0))) : Calls Try.prog 50 #[.pointer (some ⟨g, 0, none⟩), .int .i64 at_] w fun e w' => e = .returned (.int .i64 16) ∧ w = w' := by
  have H := Lib.hid (vnone_zero g w h)
  clear h
  go_enter Try.func50, Try.ntmps50
  go_wp2_with (go_at_call 111; refine H.out.mono ?_; rintro e w' ⟨rfl, rfl⟩)
  go_ret
  exact ⟨rfl, rfl⟩
theorem vtune_nil (p : Int) (w : World) : Calls Try.prog 51 #[.pointer none, .int .i64 p] w fun e w' => e = .returned (.int .i64 16) ∧ w = w' := by
  go_enter Try.func51, Try.ntmps51
  go_wp2_with (go_at_call 111; refine (vnone_nil _).mono ?_; rintro e w' ⟨rfl, rfl⟩)
  go_ret
  exact ⟨rfl, rfl⟩
theorem vplace_zero (g : Nat) (w : World) (h : w.heap[g]? = some (.cells zeroVoice 88 (0, 0))) : Calls Try.prog 52 #[.pointer (some ⟨g, 0, none⟩)] w fun e w' => e = .returned (.int .i64 0) ∧ w = w' := by
  have H := Lib.hid (vnone_zero g w h)
  clear h
  go_enter Try.func52, Try.ntmps52
  go_wp2_with (go_at_call 111; refine H.out.mono ?_; rintro e w' ⟨rfl, rfl⟩)
  go_ret
  exact ⟨rfl, rfl⟩
theorem vpitch_nil (w : World) : Calls Try.prog 53 #[.pointer none] w fun e w' => e = .returned (.int .i64 0) ∧ w = w' := by
  go_enter Try.func53, Try.ntmps53
  go_wp2_with (go_at_call 111; refine (vnone_nil _).mono ?_; rintro e w' ⟨rfl, rfl⟩)
  go_ret
  exact ⟨rfl, rfl⟩
theorem vlost_zero (g : Nat) (i : Int) (w : World) (h : w.heap[g]? = some (.cells zeroVoice 88 (0, 0))) : Calls Try.prog 54 #[.pointer (some ⟨g, 0, none⟩), .int .i64 i] w fun e w' => e = .returned (.slice none 0 0) ∧ w = w' := by
  have H := Lib.hid (vnone_zero g w h)
  clear h
  go_enter Try.func54, Try.ntmps54
  go_wp2_with (go_at_call 111; refine H.out.mono ?_; rintro e w' ⟨rfl, rfl⟩)
  go_ret
  exact ⟨rfl, rfl⟩
theorem vframes_nil (w : World) : Calls Try.prog 55 #[.pointer none] w fun e w' => e = .returned (.int .i64 0) ∧ w = w' := by
  go_enter Try.func55, Try.ntmps55
  go_wp2_with (go_at_call 111; refine (vnone_nil _).mono ?_; rintro e w' ⟨rfl, rfl⟩)
  go_ret
  exact ⟨rfl, rfl⟩
theorem vnext_nil (w : World) : Calls Try.prog 49 #[.pointer none] w fun e w' => e = .returned (.agg #[.int .i64 0, .int .i64 0]) ∧ Below w.heap.size w w' := by
  go_enter Try.func49, Try.ntmps49
  go_wp2_with (go_at_call 48; refine (vdone_nil _).mono ?_; rintro e w' ⟨rfl, rfl⟩)
  refine bodyPost_ret (v := .agg #[.int .i64 0, .int .i64 0]) (results_cell_row Try.results49 _ _ w.heap.size 92 _ (0, 0) _ rfl (heap_alloc_new w _) Try.underlying92 rfl inf_stereo) rfl ?_
  exact ⟨rfl, bnew _ _⟩
theorem vmeta_nil (w : World) : Calls Try.prog 56 #[.pointer none] w fun e w' => e = .returned (.agg zeroMeta) ∧ Below w.heap.size w w' := by
  go_enter Try.func56, Try.ntmps56
  go_wp2_with (go_at_call 111; refine (vnone_nil _).mono ?_; rintro e w' ⟨rfl, rfl⟩)
  refine bodyPost_ret (v := .agg zeroMeta) (results_cell_row Try.results56 _ _ w.heap.size 63 zeroMeta (0, 0) _ rfl (heap_alloc_new w _) Try.underlying63 rfl inf_meta) rfl ?_
  exact ⟨rfl, bnew _ _⟩
set_option maxRecDepth 100000 in
theorem vnew_nil (w : World) : Calls Try.prog 47 #[.pointer none, .int .i64 0] w fun e w' => e = .returned (.tuple #[.pointer none, .int .i64 1]) ∧ Below w.heap.size w w' := by
  have HB := Lib.hid fbank_nil
  go_enter Try.func47, Try.ntmps47
  go_wp2_with (first | (go_at_call 108; refine (HB.out _).mono ?_; rintro e w' ⟨rfl, rfl⟩) | (go_at_call 109; fail))
  refine (bmeta_nil 0 _).mono ?_
  rintro e w1 ⟨rfl, hb1⟩
  unfold zeroMeta
  go_wp2_with (first | (go_at_call 108; refine (HB.out _).mono ?_; rintro e w' ⟨rfl, rfl⟩))
  refine bodyPost_ret (results_tmp2 Try.results47 _ _ _) rfl ?_
  exact ⟨rfl, bnext hb1 (bnew _ _)⟩

set_option maxRecDepth 100000 in
set_option maxHeartbeats 4000000 in
theorem VoiceNobody_walk (at_ : Int) (w : World) :
    Calls Try.prog 8 #[.int .i64 at_] w fun e w' => e = .returned (.bool true) ∧ Below w.heap.size w w' := by
  have HM := Lib.hid (show (w.alloc (.cells zeroVoice 88)).heap[w.heap.size]? = some (.cells zeroVoice 88 (0, 0)) from heap_alloc_new w _)
  go_enter Try.func8, Try.ntmps8
  go_wp2_with (go_at_call 47; fail)
  refine (vnew_nil _).mono ?_
  rintro e w1 ⟨rfl, hb1⟩
  have HZ := Lib.hid (hkeep HM.out hb1)
  have HB1 := Lib.hid (bnext (bnew w _) hb1)
  clear hb1 HM
  go_wp2_with (go_at_call 48; fail)
  refine (vdone_nil _).mono ?_
  rintro e w' ⟨rfl, rfl⟩
  go_wp2_with (go_at_call 48; fail)
  refine (vdone_zero _ _ HZ.out).mono ?_
  rintro e w' ⟨rfl, rfl⟩
  go_wp2_with (go_at_call 49; fail)
  refine (vnext_nil _).mono ?_
  rintro e w2 ⟨rfl, hb2⟩
  have HZ2 := Lib.hid (hkeep HZ.out hb2)
  have HB2 := Lib.hid (bnext HB1.out hb2)
  clear hb2 HZ HB1
  go_wp2_with (go_at_call 50; fail)
  refine (vseek_zero _ _ _ HZ2.out).mono ?_
  rintro e w' ⟨rfl, rfl⟩
  go_wp2_with (go_at_call 51; fail)
  refine (vtune_nil _ _).mono ?_
  rintro e w' ⟨rfl, rfl⟩
  go_wp2_with (go_at_call 52; fail)
  refine (vplace_zero _ _ HZ2.out).mono ?_
  rintro e w' ⟨rfl, rfl⟩
  go_wp2_with (go_at_call 53; fail)
  refine (vpitch_nil _).mono ?_
  rintro e w' ⟨rfl, rfl⟩
  go_wp2_with (go_at_call 54; fail)
  refine (vlost_zero _ _ _ HZ2.out).mono ?_
  rintro e w' ⟨rfl, rfl⟩
  go_wp2_with (go_at_call 55; fail)
  refine (vframes_nil _).mono ?_
  rintro e w' ⟨rfl, rfl⟩
  go_wp2_with (go_at_call 56; fail)
  refine (vmeta_nil _).mono ?_
  rintro e w3 ⟨rfl, hb3⟩
  have HB3 := Lib.hid (bnext HB2.out hb3)
  unfold zeroMeta
  clear hb3 HZ2 HB2
  go_wp2_with (go_at_call 57; refine (awake21_any _).mono ?_; rintro e w4 ⟨rfl, hb4⟩)
  go_ret
  exact ⟨rfl, bnext HB3.out hb4⟩
theorem VoiceNobody_law (W : World) (v0 : Value) (a0 : Arg W (.int .i64) v0) :
    Calls Try.prog 8 #[v0] W fun e w' => e = .returned (.bool true) ∧ Below W.heap.size W w' := by
  obtain ⟨i, ha, _, _⟩ := a0
  obtain rfl : v0 = .int .i64 i := by simpa using ha
  exact VoiceNobody_walk i W
end Go.Proofs.Ytibegmjkiceiiaa
