/- CodeY. Conditions: as each theorem states. -/
import Derived.Test.YthmgjielcmjenaaGreatZc40
import Derived.Test.YthmgjielcmjenaaGreatZc45

namespace Go.Proofs.YthmgjielcmjenaaGreat
open Go.RowKit

theorem row_of_list {W : World} {g : Nat} {t : TypeId} {l : List Int} (h : Blk W g t (l.map (.int .i64))) : Row W W.heap.size (some ⟨g, 0, none⟩) (l.map (.int .i64)) := fun i v hv => ⟨g, 0, rfl, h.lt, by rw [h.cell, Nat.zero_add]; exact hv⟩
set_option maxRecDepth 100000 in
set_option maxHeartbeats 4000000 in
theorem awake13_any (w : World) : Calls Tryz.prog 11 #[] w fun e w' => e = .returned (.bool true) ∧ Below w.heap.size w w' := by
  have HN := Lib.hid (fun W => codeNew_any 60 W (by omega) (by omega))
  have h16 : Samp16 [100, -100] := fun x hx => by
    simp only [List.mem_cons, List.not_mem_nil, or_false] at hx
    omega
  have HF := Lib.hid (fun g B k W (hg : CoderAt W g 60) r => Frames_any g 60 [100, -100] B k W hg (by omega) (by omega) (by decide) r h16)
  have hsf : sampsZ (framesZ [100, -100] 60) 2 = [100, -100] := samps_frames (l := [100, -100]) h16 (size := 60) (by omega) (by omega)
  have hfr := framesZ_right h16 (size := 60) (by omega) (by omega)
  have hfl : (framesZ [100, -100] 60).length = 1 := by rw [framesZ_len]; rfl
  have HR := Lib.hid (fun f hf => (hfr f hf).1)
  have HS := Lib.hid (fun g (L : List (FrH × FrameV)) B k W (hg : CoderAt W g 60) (hm : L.map Prod.snd = framesZ [100, -100] 60) (hA : FramesAt W B L) => (show L.length = 1 ∧ Calls Tryz.prog 10 #[.pointer (some ⟨g, 0, none⟩), .slice B 1 k, .int .i64 2] W (GapPost W [100, -100]) from by
    have hl : L.length = 1 := by rw [← hfl, ← hm, List.length_map]
    refine ⟨hl, ?_⟩
    have := Samples_any g 60 L B k 2 W hg (by omega) hA (fun p hp => HR.out _ (by rw [← hm]; exact List.mem_map.2 ⟨p, hp, rfl⟩))
    rw [hm, hsf, hl] at this
    exact this))
  clear hsf hfr hfl HR h16
  generalize framesZ [100, -100] 60 = FZ at *
  go_enter Tryz.func11, Tryz.ntmps11
  go_wp2_with (go_at_call 5; fail)
  refine (HN.out _).mono ?_
  rintro e w1 ⟨g, rfl, _, hg, hb1⟩
  have hrow := row_of_list (Blk.new w1 3 ([100, -100].map (Value.int .i64)))
  have HR1 := Lib.hid hrow
  have Hg1 := Lib.hid (show CoderAt (w1.alloc (.cells #[.int .i64 100, .int .i64 (-100)] 3)) g 60 from hkeep hg (bnew w1 _))
  have B1 := Lib.hid (bnext hb1 (bnew w1 (.cells #[.int .i64 100, .int .i64 (-100)] 3)))
  have HF2 := Lib.hid (HF.out g (some ⟨w1.heap.size, 0, none⟩) 2 _ Hg1.out HR1.out)
  clear hrow hg hb1 HF HN
  go_wp2_with (go_at_call 6; fail)
  refine HF2.out.mono ?_
  rintro e w2 ⟨A2, c2, L, rfl, hm, hc2, hc63, hA2, hb2⟩
  have Hg2 := Lib.hid (hkeep Hg1.out hb2)
  obtain ⟨hl1, hS2⟩ := HS.out g L A2 c2 w2 Hg2.out hm hA2
  have HS2 := Lib.hid hS2
  have B2 := Lib.hid (bnext B1.out hb2)
  rw [hl1]
  clear hS2 hm hA2 hb2 HS Hg1 HF2 HR1 B1 hc2 hl1
  go_wp2_with (go_at_call 10; fail)
  refine HS2.out.mono ?_
  rintro e w3 ⟨A3, c3, rfl, h1, h2, h3, h4⟩
  obtain ⟨b, off, rfl, hb, k0⟩ := h3 0 (.int .i64 100) rfl
  obtain ⟨b', off', hA', _, k1⟩ := h3 1 (.int .i64 (-100)) rfl
  injection hA' with hA'
  injection hA' with e1 e2
  subst e1 e2
  rw [Nat.add_zero] at k0
  have B3 := Lib.hid (bnext B2.out h4)
  simp only [List.length_cons, List.length_nil, Nat.reduceAdd]
  clear h1 h2 h3 h4 HS2 B2
  go_wp2
  go_ret
  exact ⟨rfl, B3.out⟩
end Go.Proofs.YthmgjielcmjenaaGreat
