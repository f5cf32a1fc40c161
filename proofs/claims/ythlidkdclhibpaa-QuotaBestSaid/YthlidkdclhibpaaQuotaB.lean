/- Samples that came in; one sample that was made; the law QuotaBest; conditions: as each theorem states. -/
import Derived.Test.YthlidkdclhibpaaQuotaA
namespace Go.Proofs.Ythlidkdclhibpaa
open Go.RowKit

abbrev sampTy : Ty := .pair (.str) 1 (.pair (.int .i64) 1 (.pair (.bool) 1 (.pair (.int .i64) 1 (.pair (.int .i64) 1 (.pair (.slice 1 (.slice 1 (.int .i64))) 1 (.unit))))))
def NameFits (p : HSamp × SampV) : Prop := p.2.name.size ≤ 9223372036854775807
theorem samp_shape {w : World} {cs : List Value} (h : Shape w sampTy cs) : ∃ p : HSamp × SampV, cs = p.1.cells ∧ p.1.fits w w.heap.size p.2 ∧ NameFits p := by
  obtain ⟨c1, r1, rfl, ⟨nm, rfl, hnm⟩, c2, r2, rfl, ⟨rate, rfl, _, _⟩, c3, r3, rfl, ⟨lp, rfl⟩, c4, r4, rfl, ⟨f, rfl, _, _⟩, c5, r5, rfl, ⟨t, rfl, _, _⟩, c6, r6, rfl, hd, rfl⟩ := h
  obtain ⟨a, cap, vs, rows, rfl, h1, h2, h3, h4, _⟩ := mat_of_shape hd
  exact ⟨(⟨nm, rate, lp, f, t, a, rows.length, cap⟩, ⟨nm, rate, lp, f, t, rows⟩), rfl, ⟨⟨rfl, rfl, rfl, rfl, rfl, rfl⟩, h1, h2, vs, h3, h4⟩, hnm⟩
theorem samps_of {w : World} : ∀ (css : List (List Value)), (∀ cs ∈ css, Shape w sampTy cs) → ∃ L : List (HSamp × SampV), css = L.map (fun p => p.1.cells) ∧ (∀ p ∈ L, p.1.fits w w.heap.size p.2) ∧ ∀ p ∈ L, NameFits p
  | [], _ => ⟨[], rfl, nofun, nofun⟩
  | cs :: r, h => by
    obtain ⟨p, rfl, h1, h2⟩ := samp_shape (h cs (by simp))
    obtain ⟨L, rfl, h3, h4⟩ := samps_of r (fun c hc => h c (by simp [hc]))
    refine ⟨p :: L, rfl, fun q hq => ?_, fun q hq => ?_⟩
    · rcases List.mem_cons.1 hq with rfl | hq
      · exact h1
      · exact h3 q hq
    · rcases List.mem_cons.1 hq with rfl | hq
      · exact h2
      · exact h4 q hq
/-- a slice of samples that came in -/
theorem samps_arg {w : World} {v : Value} (h : Arg w (.slice 6 sampTy) v) :
    ∃ (L : List (HSamp × SampV)) (A : Option Addr) (cap : Nat), v = .slice A L.length cap ∧ L.length ≤ cap ∧ cap ≤ 9223372036854775807 ∧ (A = none → cap = 0) ∧ SampsAt w w.heap.size A L ∧ ∀ p ∈ L, NameFits p := by
  obtain ⟨a, len, cap, hv, h1, h2, h3, h4⟩ := h
  obtain ⟨css, hl, _, hs, hrow⟩ := rows_of_shape h4
  obtain ⟨L, rfl, hf, hn⟩ := samps_of css hs
  rw [List.length_map] at hl
  injection hv with hv
  subst hv hl
  exact ⟨L, a, cap, rfl, h1, h2, fun ha => (h3 ha).2, ⟨hrow, hf⟩, hn⟩

/-! One sample of one channel. -/
def oneH (nm : ByteArray) (g : Nat) : HSamp := ⟨nm, 1, false, 0, 0, some ⟨g, 0, none⟩, 1, 1⟩
def oneS (nm : ByteArray) (xs : List Int) : SampV := ⟨nm, 1, false, 0, 0, [xs]⟩
theorem one_at (w : World) (nm : ByteArray) (xs : List Int) (n : Nat) (hn : xs.length = n) (h63 : n ≤ 9223372036854775807) (t1 t2 t3 : TypeId) :
    SampsAt (((w.alloc (.cells (xs.map (Value.int .i64)).toArray t1)).alloc (.cells #[.slice (some ⟨w.heap.size, 0, none⟩) n n] t2)).alloc (.cells (oneH nm (w.heap.size + 1)).cells.toArray t3)) (w.heap.size + 3) (some ⟨w.heap.size + 2, 0, none⟩) [(oneH nm (w.heap.size + 1), oneS nm xs)] := by
  have h1 := Row.new w t1 (xs.map (Value.int .i64))
  have h2 := Row.new (w.alloc (.cells (xs.map (Value.int .i64)).toArray t1)) t2 [.slice (some ⟨w.heap.size, 0, none⟩) n n]
  have h3 := Row.new ((w.alloc (.cells (xs.map (Value.int .i64)).toArray t1)).alloc (.cells #[.slice (some ⟨w.heap.size, 0, none⟩) n n] t2)) t3 (oneH nm (w.heap.size + 1)).cells
  simp only [World.size_alloc] at h2 h3
  refine ⟨by simpa [headCells] using h3, fun p hp => ?_⟩
  rw [List.mem_singleton] at hp
  subst hp
  have hb2 : Below (w.heap.size + 1) (w.alloc (.cells (xs.map (Value.int .i64)).toArray t1)) (((w.alloc (.cells (xs.map (Value.int .i64)).toArray t1)).alloc (.cells #[.slice (some ⟨w.heap.size, 0, none⟩) n n] t2)).alloc (.cells (oneH nm (w.heap.size + 1)).cells.toArray t3)) :=
    ((Below.refl _ _).alloc (by simp) _).alloc (by simp) _
  have hb3 : Below (w.heap.size + 2) ((w.alloc (.cells (xs.map (Value.int .i64)).toArray t1)).alloc (.cells #[.slice (some ⟨w.heap.size, 0, none⟩) n n] t2)) (((w.alloc (.cells (xs.map (Value.int .i64)).toArray t1)).alloc (.cells #[.slice (some ⟨w.heap.size, 0, none⟩) n n] t2)).alloc (.cells (oneH nm (w.heap.size + 1)).cells.toArray t3)) :=
    (Below.refl _ _).alloc (by simp) _
  refine ⟨⟨rfl, rfl, rfl, rfl, rfl, rfl⟩, Nat.le_refl _, by show (1 : Nat) ≤ _; omega, [.slice (some ⟨w.heap.size, 0, none⟩) n n], (h2.below hb3).more (by omega), rfl, fun i v ys hv hy => ?_⟩
  cases i with
  | zero =>
    simp [oneS] at hv hy
    subst hv hy
    exact ⟨_, n, by rw [hn], by omega, h63, (h1.below hb2).more (by omega)⟩
  | succ i => simp at hv
theorem one_check (nm : ByteArray) (xs : List Int) (h : (oneS nm xs).check = 0) : checkAllZ [oneS nm xs] = 0 := by
  unfold checkAllZ firstBad firstBad dupZ adjTo
  simp [h]
theorem one_sort (s : SampV) : sortS [s] = [s] := List.perm_singleton.1 (sortS_perm [s])
theorem one_image : imageZ 24 [oneS ⟨#[97]⟩ [5]] = 128 := by
  unfold imageZ
  rw [one_check _ _ (by decide +kernel), one_sort]
  decide +kernel

set_option maxRecDepth 100000 in
set_option maxHeartbeats 2000000 in
theorem awake43_any (w : World) : Calls Try.prog 60 #[] w fun e w' => e = .returned (.bool true) ∧ Below w.heap.size w w' := by
  have HI := Lib.hid (Image_any 24 [(oneH ⟨#[97]⟩ (w.heap.size + 1), oneS ⟨#[97]⟩ [5])] (some ⟨w.heap.size + 2, 0, none⟩) 1 _ (by simp) nofun ((one_at w ⟨#[97]⟩ [5] 1 rfl (by omega) 3 39 34).more (by simp)))
  rw [show [(oneH ⟨#[97]⟩ (w.heap.size + 1), oneS ⟨#[97]⟩ [5])].map (·.2) = [oneS ⟨#[97]⟩ [5]] from rfl, one_image] at HI
  go_enter Try.func60, Try.ntmps60
  go_wp2_with fail
  refine HI.out.mono ?_
  rintro e w1 ⟨rfl, hb1⟩
  go_wp2_with fail
  go_ret
  exact ⟨rfl, (((bnew w _).alloc (by simp) _).alloc (by simp; omega) _).trans (hb1.mono (by simp; omega))⟩

set_option maxRecDepth 100000 in
set_option maxHeartbeats 4000000 in
theorem QuotaBest_walk (room : Int) (L : List (HSamp × SampV)) (A : Option Addr) (cap : Nat) (w : World) (hs : SampsAt w w.heap.size A L) (hnm : ∀ p ∈ L, NameFits p) :
    Calls Try.prog 14 #[.int .i64 room, .slice A L.length cap] w fun e w' => e = .returned (.bool true) ∧ Below w.heap.size w w' := by
  have HF := Lib.hid (Few15_any L A cap w hs hnm)
  go_enter Try.func14, Try.ntmps14
  go_wp2_with fail
  refine HF.out.mono ?_
  rintro e w1 ⟨A1, c1, M, rfl, hM8, _, _, hn1, hs1, _, hb1⟩
  have HB := Lib.hid (Best_any room M A1 c1 w1 (by omega) hn1 hs1)
  have HQ := Lib.hid (fun size W (hW : Below w1.heap.size w1 W) => Image_any size M A1 c1 W (by omega) hn1 (hs1.later hW))
  have HI := Lib.hid (fun size => imageZ_bd size (M.map (·.2)) (by rw [List.length_map]; omega))
  have Hb1 := Lib.hid hb1
  generalize M.map (·.2) = ss at *
  generalize M.length = n at *
  obtain ⟨Z, hZ⟩ : ∃ Z, bestTo room ss 73 = Z := ⟨_, rfl⟩
  rw [hZ] at HB
  have HZ := Lib.hid hZ
  clear hZ hs1 hn1 hb1 HF hs hnm
  go_wp2_with fail
  refine HB.out.mono ?_
  rintro e w2 ⟨rfl, hb2⟩
  have Hb2 := Lib.hid hb2
  clear hb2
  go_wp2_with fail
  go_loopw [6, 7, 8] (fun z i u wr => ∃ m : Nat, m ≤ 73 ∧ i = .int .i64 (24 + (m : Int)) ∧ z = .int .i64 (bestTo room ss m) ∧ Below w1.heap.size w1 wr) (fun _ i _ _ => (97 - intOf i).toNat)
  case atStart => exact ⟨0, by omega, by first | rfl | go_num, rfl, Hb2.out⟩
  case round =>
    obtain ⟨m, hm, rfl, rfl, hbel⟩ := hrel
    have Hbel := Lib.hid hbel
    clear hbel
    by_cases hlt : m < 73
    · have t1 : 24 + (m : Int) ≤ 96 := by omega
      have hbd := HI.out (24 + (m : Int))
      obtain ⟨I, hI⟩ : ∃ I, imageZ (24 + (m : Int)) ss = I := ⟨_, rfl⟩
      have HQ1 := Lib.hid (HQ.out (24 + (m : Int)) wr Hbel.out)
      rw [hI] at HQ1 hbd
      have HG := Lib.hid (show goodB room ss (24 + (m : Int)) = (decide (0 < I) && decide (I ≤ room)) by unfold goodB; rw [hI])
      clear hI
      obtain ⟨hI0, hI1⟩ := hbd
      have HS := Lib.hid (show bestTo room ss (m + 1) = if goodB room ss (24 + (m : Int)) = true then 24 + (m : Int) else bestTo room ss m from rfl)
      generalize bestTo room ss m = b0 at *
      by_cases h1 : 0 < I
      · by_cases h2 : I ≤ room
        · go_wp2_with fail
          refine HQ1.out.mono ?_
          rintro e w3 ⟨rfl, hb3⟩
          go_wp2
          go_roundw
          case rel => exact ⟨m + 1, by omega, val_int (by omega), by rw [HS.out, HG.out, if_pos (by simp [h1, h2])], bnext Hbel.out hb3⟩
          case measure => simp [intOf]; omega
        · go_wp2_with fail
          refine HQ1.out.mono ?_
          rintro e w3 ⟨rfl, hb3⟩
          go_wp2
          go_roundw
          case rel => exact ⟨m + 1, by omega, val_int (by omega), by rw [HS.out, HG.out, if_neg (by simp; omega)], bnext Hbel.out hb3⟩
          case measure => simp [intOf]; omega
      · go_wp2_with fail
        refine HQ1.out.mono ?_
        rintro e w3 ⟨rfl, hb3⟩
        go_wp2
        go_roundw
        case rel => exact ⟨m + 1, by omega, val_int (by omega), by rw [HS.out, HG.out, if_neg (by simp; omega)], bnext Hbel.out hb3⟩
        case measure => simp [intOf]; omega
    · have hm73 : m = 73 := by omega
      subst hm73
      rw [HZ.out]
      have t1 : ¬ (24 + ((73 : Nat) : Int) ≤ 96) := by omega
      go_wp2_with (go_at_call 60; refine (awake43_any _).mono ?_; rintro e w5 ⟨rfl, hb5⟩)
      go_ret
      exact ⟨rfl, bnext Hb1.out (bnext Hbel.out hb5)⟩
theorem QuotaBest_law (W : World) (v0 v1 : Value) (a0 : Arg W (.int .i64) v0) (a1 : Arg W (.slice 6 sampTy) v1) :
    Calls Try.prog 14 #[v0, v1] W fun e w' => e = .returned (.bool true) ∧ Below W.heap.size W w' := by
  obtain ⟨room, ha, _, _⟩ := a0
  obtain rfl : v0 = .int .i64 room := by simpa using ha
  obtain ⟨L, A, cap, rfl, _, _, _, hs, hn⟩ := samps_arg a1
  exact QuotaBest_walk room L A cap W hs hn
end Go.Proofs.Ythlidkdclhibpaa
