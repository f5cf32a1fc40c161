/- RtC. Conditions: as each theorem states. -/
import Derived.Test.YthmgjielcmjenaaMcxRtB
import Derived.Test.YthmgjielcmjenaaMc37

namespace Go.Proofs.Ythmgjielcmjenaa
open Go.RowKit

abbrev toneTy : Ty := .pair (.int .i64) 1 (.pair (.int .i64) 1 .unit)
abbrev frTy : Ty := .pair (tyRep (.int .i64) 1 4) 4 (.pair (.slice 2 toneTy) 1 (.pair (tyRep (.int .i64) 1 4) 4 (.pair (tyRep (.int .i64) 1 4) 4 (.pair (tyRep (.int .i64) 1 16) 16 .unit))))
theorem tones_of {w : World} : ∀ (css : List (List Value)), (∀ cs ∈ css, Shape w toneTy cs) → ∃ L : List ToneV, css = L.map ToneV.cells
  | [], _ => ⟨[], rfl⟩
  | cs :: r, h => by
    obtain ⟨c1, r1, e, ⟨x, rfl, _, _⟩, c2, r2, rfl, ⟨y, rfl, _, _⟩, rfl⟩ := h cs (by simp)
    obtain ⟨L, rfl⟩ := tones_of r (fun c hc => h c (by simp [hc]))
    exact ⟨⟨x, y⟩ :: L, by rw [e]; rfl⟩
/-- nil tones have no room -/
def NilTight (p : FrH × FrameV) : Prop := p.1.a = none → p.1.c = 0
theorem frame_shape {w : World} {cs : List Value} (h : Shape w frTy cs) : ∃ p : FrH × FrameV, cs = frC p ∧ p.2.Len ∧ Tones w p ∧ NilTight p := by
  obtain ⟨c1, r1, rfl, h1, c2, r2, rfl, h2, c3, r3, rfl, h3, c4, r4, rfl, h4, c5, r5, rfl, h5, rfl⟩ := h
  obtain ⟨gs, hg, rfl, _⟩ := rep_ints 4 c1 h1
  obtain ⟨sc, hs, rfl, _⟩ := rep_ints 4 c3 h3
  obtain ⟨wd, hw, rfl, _⟩ := rep_ints 4 c4 h4
  obtain ⟨q, hq, rfl, _⟩ := rep_ints 16 c5 h5
  obtain ⟨a, len, cap, rfl, hl, hc, hnil, hel⟩ := h2
  obtain ⟨css, hcl, _, hsh, hrow⟩ := rows_of_shape hel
  obtain ⟨ts, rfl⟩ := tones_of css hsh
  rw [List.length_map] at hcl
  subst hcl
  exact ⟨(⟨a, cap⟩, ⟨gs, ts, sc, wd, q⟩), by simp [frC, FrameV.cells], ⟨hg, hs, hw, hq⟩, ⟨hl, hc, hrow⟩, fun h => (hnil h).2⟩
theorem frames_of {w : World} : ∀ (css : List (List Value)), (∀ cs ∈ css, Shape w frTy cs) → ∃ L : List (FrH × FrameV), css = L.map frC ∧ (∀ p ∈ L, p.2.Len) ∧ (∀ p ∈ L, Tones w p) ∧ ∀ p ∈ L, NilTight p
  | [], _ => ⟨[], rfl, nofun, nofun, nofun⟩
  | cs :: r, h => by
    obtain ⟨p, rfl, h1, h2, h5⟩ := frame_shape (h cs (by simp))
    obtain ⟨L, rfl, h3, h4, h6⟩ := frames_of r (fun c hc => h c (by simp [hc]))
    refine ⟨p :: L, rfl, fun q hq => ?_, fun q hq => ?_, fun q hq => ?_⟩
    · rcases List.mem_cons.1 hq with rfl | hq
      · exact h1
      · exact h3 q hq
    · rcases List.mem_cons.1 hq with rfl | hq
      · exact h2
      · exact h4 q hq
    · rcases List.mem_cons.1 hq with rfl | hq
      · exact h5
      · exact h6 q hq
/-- a slice of frames that came in -/
theorem frames_arg {w : World} {v : Value} (h : Arg w (.slice 29 frTy) v) : ∃ (L : List (FrH × FrameV)) (A : Option Addr) (cap : Nat), v = .slice A L.length cap ∧ L.length ≤ 9223372036854775807 ∧ FramesAt w A L ∧ ∀ p ∈ L, NilTight p := by
  obtain ⟨a, len, cap, hv, h1, h2, _, h4⟩ := h
  obtain ⟨css, hl, _, hs, hrow⟩ := rows_of_shape h4
  obtain ⟨L, rfl, hf, hn, ht⟩ := frames_of css hs
  rw [List.length_map] at hl
  injection hv with hv
  subst hv hl
  exact ⟨L, a, cap, rfl, by omega, ⟨hrow, hf, hn⟩, ht⟩
/-- a frame of at most five tones -/
def fewF (f : FrameV) : FrameV := ⟨f.gains, f.tones.take 5, f.scale, f.width, f.q⟩
theorem fewF_A {f : FrameV} (h : f.Len) (tv tv' : Value) : (frameA f tv).setIfInBounds 4 tv' = frameA (fewF f) tv' := by
  obtain ⟨gg, ts, sc, wd, q⟩ := f
  have hg := h.g
  simp only at hg
  match gg, hg with
  | [a, b, c, d], _ => rfl
theorem frameA_same (f : FrameV) (tv : Value) (ts : List ToneV) : frameA ⟨f.gains, ts, f.scale, f.width, f.q⟩ tv = frameA f tv := rfl

set_option maxRecDepth 100000 in
set_option maxHeartbeats 2000000 in
theorem Few10_any (f : FrameV) (A : Option Addr) (c : Nat) (w : World) (h : f.Len) (hlen : f.tones.length ≤ c) (hc63 : c ≤ 9223372036854775807) (hA : A = none → c = 0) :
    Calls Try.prog 44 #[.agg (frameA f (.slice A f.tones.length c))] w fun e w' => e = .returned (.agg (frameA (fewF f) (.slice A (fewF f).tones.length c))) ∧ Below w.heap.size w w' := by
  have hfl : (fewF f).tones.length = min 5 f.tones.length := by show (f.tones.take 5).length = _; rw [List.length_take]
  have hzz := frameA_size h (.slice A f.tones.length c)
  have hof := frameA_one f (tv := .slice A f.tones.length c) rfl
  have htv := frameA_tones h (.slice A f.tones.length c)
  have hset := fewF_A h (.slice A f.tones.length c) (.slice A (fewF f).tones.length c)
  have hofw := frameA_one (fewF f) (tv := .slice A (fewF f).tones.length c) rfl
  have hzw : (frameA (fewF f) (.slice A (fewF f).tones.length c)).size = 29 := frameA_size (f := fewF f) ⟨h.g, h.s, h.w, h.q⟩ _
  obtain ⟨n, hn⟩ : ∃ n, f.tones.length = n := ⟨_, rfl⟩
  have hsame : n ≤ 5 → frameA (fewF f) (.slice A (fewF f).tones.length c) = frameA f (.slice A n c) := fun h5 => by
    rw [hfl, hn, show min 5 n = n by omega]; rfl
  rw [hn] at hfl hzz hof htv hset hlen ⊢
  obtain ⟨k, hk⟩ : ∃ k, (fewF f).tones.length = k := ⟨_, rfl⟩
  rw [hk] at hfl hset hofw hzw hsame ⊢
  obtain ⟨fc, hfc⟩ : ∃ fc, frameA f (.slice A n c) = fc := ⟨_, rfl⟩
  rw [hfc] at hzz hof htv hset hsame ⊢
  obtain ⟨fk, hfk⟩ : ∃ fk, frameA (fewF f) (.slice A k c) = fk := ⟨_, rfl⟩
  rw [hfk] at hset hofw hzw hsame ⊢
  have H2 := Lib.hid (heap2 w (.cells fc 96) (.cells #[Value.int .i64 0, Value.int .i64 0, Value.int .i64 0, Value.int .i64 0, Value.slice none 0 0, Value.int .i64 0, Value.int .i64 0, Value.int .i64 0, Value.int .i64 0, Value.int .i64 0, Value.int .i64 0, Value.int .i64 0, Value.int .i64 0, Value.int .i64 0, Value.int .i64 0, Value.int .i64 0, Value.int .i64 0, Value.int .i64 0, Value.int .i64 0, Value.int .i64 0, Value.int .i64 0, Value.int .i64 0, Value.int .i64 0, Value.int .i64 0, Value.int .i64 0, Value.int .i64 0, Value.int .i64 0, Value.int .i64 0, Value.int .i64 0] 96))
  have HFf := Lib.hid (show (Try.prog.info? 96).map (·.size) = some fc.size by rw [hzz]; exact inf_frame)
  have HFk := Lib.hid (show (Try.prog.info? 96).map (·.size) = some fk.size by rw [hzw]; exact inf_frame)
  have c4 : ((w.alloc (.cells fc 96)).alloc (.cells #[Value.int .i64 0, Value.int .i64 0, Value.int .i64 0, Value.int .i64 0, Value.slice none 0 0, Value.int .i64 0, Value.int .i64 0, Value.int .i64 0, Value.int .i64 0, Value.int .i64 0, Value.int .i64 0, Value.int .i64 0, Value.int .i64 0, Value.int .i64 0, Value.int .i64 0, Value.int .i64 0, Value.int .i64 0, Value.int .i64 0, Value.int .i64 0, Value.int .i64 0, Value.int .i64 0, Value.int .i64 0, Value.int .i64 0, Value.int .i64 0, Value.int .i64 0, Value.int .i64 0, Value.int .i64 0, Value.int .i64 0, Value.int .i64 0] 96)).cell? ⟨w.heap.size, 4, none⟩ = some (.slice A n c) := (cell_of_row _ _ 4 _ _ _ H2.out.1).trans htv
  have z4 : ((w.alloc (.cells fc 96)).alloc (.cells #[Value.int .i64 0, Value.int .i64 0, Value.int .i64 0, Value.int .i64 0, Value.slice none 0 0, Value.int .i64 0, Value.int .i64 0, Value.int .i64 0, Value.int .i64 0, Value.int .i64 0, Value.int .i64 0, Value.int .i64 0, Value.int .i64 0, Value.int .i64 0, Value.int .i64 0, Value.int .i64 0, Value.int .i64 0, Value.int .i64 0, Value.int .i64 0, Value.int .i64 0, Value.int .i64 0, Value.int .i64 0, Value.int .i64 0, Value.int .i64 0, Value.int .i64 0, Value.int .i64 0, Value.int .i64 0, Value.int .i64 0, Value.int .i64 0] 96)).frozen? ⟨w.heap.size, 4, none⟩ = false := frozen_of_row _ _ 4 _ _ H2.out.1
  have Hzz := Lib.hid hzz
  have Hzw := Lib.hid hzw
  have Hof := Lib.hid hof
  have Hofw := Lib.hid hofw
  clear hzz hzw hof hofw htv hfc hfk hn hk
  by_cases h5 : 5 < n
  · have t1 : (5 : Int) < (n : Int) := by omega
    have t2 : (5 : Int) ≤ (c : Int) := by omega
    have hk5 : k = 5 := by omega
    subst hk5
    obtain ⟨ad, rfl⟩ : ∃ ad, A = some ad := by
      cases A with
      | none => have := hA rfl; omega
      | some ad => exact ⟨ad, rfl⟩
    have HS := Lib.hid (heap2 w (.cells fk 96) (.cells #[Value.int .i64 0, Value.int .i64 0, Value.int .i64 0, Value.int .i64 0, Value.slice none 0 0, Value.int .i64 0, Value.int .i64 0, Value.int .i64 0, Value.int .i64 0, Value.int .i64 0, Value.int .i64 0, Value.int .i64 0, Value.int .i64 0, Value.int .i64 0, Value.int .i64 0, Value.int .i64 0, Value.int .i64 0, Value.int .i64 0, Value.int .i64 0, Value.int .i64 0, Value.int .i64 0, Value.int .i64 0, Value.int .i64 0, Value.int .i64 0, Value.int .i64 0, Value.int .i64 0, Value.int .i64 0, Value.int .i64 0, Value.int .i64 0] 96))
    clear hsame hA hfl
    go_enter Try.func44, Try.ntmps44
    go_wp2_with (first | (refine wpList_load_row_w rfl 96 (.tmp 1) rfl w.heap.size rfl _ fk _ _ HS.out.1 Try.underlying96 rfl HFk.out ?_) | (refine wpList_store_row_w rfl 96 (.tmp 2) (.tmp 11) rfl (w.heap.size + 1) rfl _ _ fk rfl HS.out.2.1 HFk.out (by rw [Hzw.out]; rfl) Hofw.out ?_))
    refine bodyPost_ret (v := .agg fk) (results_cell_row Try.results44 _ _ (w.heap.size + 1) 96 fk (0, 0) _ rfl (setRow_heap _ _ _ _ _ _ HS.out.2.1) Try.underlying96 rfl HFk.out) rfl ?_
    exact ⟨rfl, setRow_below HS.out.2.2.2 _ (by omega) _⟩
  · have t1 : ¬ ((5 : Int) < (n : Int)) := by omega
    have hk5 : fk = fc := hsame (by omega)
    subst hk5
    clear hset hsame hA hfl
    go_enter Try.func44, Try.ntmps44
    go_wp2_with (first | (refine wpList_load_row_w rfl 96 (.tmp 1) rfl w.heap.size rfl _ fk _ _ H2.out.1 Try.underlying96 rfl HFk.out ?_) | (refine wpList_store_row_w rfl 96 (.tmp 2) (.tmp 11) rfl (w.heap.size + 1) rfl _ _ fk rfl H2.out.2.1 HFk.out (by rw [Hzw.out]; rfl) Hofw.out ?_))
    refine bodyPost_ret (v := .agg fk) (results_cell_row Try.results44 _ _ (w.heap.size + 1) 96 fk (0, 0) _ rfl (setRow_heap _ _ _ _ _ _ H2.out.2.1) Try.underlying96 rfl HFk.out) rfl ?_
    exact ⟨rfl, setRow_below H2.out.2.2.2 _ (by omega) _⟩
end Go.Proofs.Ythmgjielcmjenaa
