/- SampF. Conditions: as each theorem states. -/
import Derived.Test.YtbgkoopfdfnmcaaQc38
import Derived.Test.YtbgkoopfdfnmcaaQc40

namespace Go.Proofs.Ytbgkoopfdfnmcaa
open Go.RowKit

def countZ (n : Int) : Int := if n < 1 then 0 else (n - 1) / 16 + 1
def upZ (n b : Int) : Int := (n + b - 1) / b * b
theorem Count_any (n : Int) (w : World) (h : n ≤ 1000000000000) : Calls Try.prog 60 #[.int .i64 n] w fun e w' => e = .returned (.int .i64 (countZ n)) ∧ w = w' := by
  go_enter Try.func60, Try.ntmps60
  go_wp2
  all_goals
    go_ret
    exact ⟨ret_int (by unfold countZ; split <;> omega), rfl⟩
theorem bankDir_any (n : Int) (w : World) (h0 : 0 ≤ n) (h : n ≤ 1000000000000) : Calls Try.prog 59 #[.int .i64 n] w fun e w' => e = .returned (.int .i64 (16 + n * 64 + 4)) ∧ w = w' := by
  go_enter Try.func59, Try.ntmps59
  go_wp2
  go_ret
  exact ⟨rfl, rfl⟩
theorem up16_any (n : Int) (w : World) (h0 : 0 ≤ n) (h : n ≤ 1000000000000) : Calls Try.prog 61 #[.int .i64 n, .int .i64 16] w fun e w' => e = .returned (.int .i64 (upZ n 16)) ∧ w = w' := by
  go_enter Try.func61, Try.ntmps61
  go_wp2
  go_ret
  exact ⟨ret_int (by unfold upZ; omega), rfl⟩
theorem up64_any (n : Int) (w : World) (h0 : 0 ≤ n) (h : n ≤ 1000000000000) : Calls Try.prog 61 #[.int .i64 n, .int .i64 64] w fun e w' => e = .returned (.int .i64 (upZ n 64)) ∧ w = w' := by
  go_enter Try.func61, Try.ntmps61
  go_wp2
  go_ret
  exact ⟨ret_int (by unfold upZ; omega), rfl⟩
/-- how many frames a sample has -/
def SampV.frames (s : SampV) : Int := countZ (len0 s.rows) * s.rows.length
def imgStep (size at_ : Int) (s : SampV) : Int := upZ (at_ + 4 * s.frames) 16 + size * s.frames
def imgTo (size : Int) (at_ : Int) (ss : List SampV) : Int := ss.foldl (imgStep size) at_
/-- how many bytes the image of samples has; 0: there is none -/
def imageZ (size : Int) (ss : List SampV) : Int := if size < 24 ∨ 96 < size ∨ checkAllZ ss ≠ 0 then 0 else upZ (imgTo size (16 + ss.length * 64 + 4) (sortS ss)) 64
theorem imgTo_succ (size a : Int) {ss : List SampV} {k : Nat} {s : SampV} (h : ss[k]? = some s) : imgTo size a (ss.take (k + 1)) = imgStep size (imgTo size a (ss.take k)) s := by
  obtain ⟨hk, rfl⟩ := List.getElem?_eq_some_iff.1 h
  unfold imgTo
  rw [List.take_succ_eq_append_getElem hk, List.foldl_append]
  rfl
theorem check_all {ss : List SampV} (h : checkAllZ ss = 0) : ∀ s ∈ ss, s.check = 0 := by
  unfold checkAllZ at h
  split at h
  · cases h
  · split at h
    · rename_i h1; exact absurd h h1
    · rename_i h1
      have hf : firstBad ss = 0 := by simpa using h1
      clear h h1
      induction ss with
      | nil => nofun
      | cons x r ih =>
        unfold firstBad at hf
        split at hf
        · rename_i h2; exact absurd hf h2
        · rename_i h2
          intro s hs
          rcases List.mem_cons.1 hs with rfl | hs
          · simpa using h2
          · exact ih (by rename_i h64 _; simp at h64 ⊢; omega) hf s hs
theorem frames_bd {s : SampV} (h : s.check = 0) : 0 ≤ s.frames ∧ s.frames ≤ 131072 := by
  have hr := right_of_check h
  unfold MetaV.right at hr
  simp only [Bool.and_eq_true, Bool.or_eq_true, decide_eq_true_eq] at hr
  obtain ⟨⟨⟨⟨⟨⟨_, h1⟩, h2⟩, _⟩, _⟩, h3⟩, _⟩ := hr
  have hc : 0 ≤ countZ (len0 s.rows) ∧ countZ (len0 s.rows) ≤ 65536 := by unfold countZ; split <;> omega
  unfold SampV.frames
  rcases h3 with h3 | h3 <;> rw [h3] <;> omega
theorem mul_bd2 (a b : Int) (ha : 0 ≤ a) (ha2 : a ≤ 96) (hb : 0 ≤ b) (hb2 : b ≤ 131072) : 0 ≤ a * b ∧ a * b ≤ 12582912 :=
  ⟨Int.mul_nonneg ha hb, Int.le_trans (Int.mul_le_mul ha2 hb2 hb (by omega)) (by omega)⟩
theorem imgStep_bd (size a : Int) (s : SampV) (h1 : 24 ≤ size) (h2 : size ≤ 96) (ha : 0 ≤ a) (hs : s.check = 0) : 0 ≤ imgStep size a s ∧ imgStep size a s ≤ a + 14000000 := by
  have hf := frames_bd hs
  have hm := mul_bd2 size s.frames (by omega) h2 hf.1 hf.2
  unfold imgStep upZ
  omega
theorem imgTo_bd (size a : Int) (h1 : 24 ≤ size) (h2 : size ≤ 96) (ha : 0 ≤ a) : ∀ (ss : List SampV), (∀ s ∈ ss, s.check = 0) → 0 ≤ imgTo size a ss ∧ imgTo size a ss ≤ a + 14000000 * ss.length := by
  intro ss
  induction ss generalizing a with
  | nil => intro _; unfold imgTo; simp; exact ha
  | cons x r ih =>
    intro h
    have hx := imgStep_bd size a x h1 h2 ha (h x (by simp))
    have := ih (imgStep size a x) hx.1 (fun s hs => h s (by simp [hs]))
    have e : imgTo size a (x :: r) = imgTo size (imgStep size a x) r := rfl
    rw [e, List.length_cons]
    omega

set_option maxRecDepth 100000 in
set_option maxHeartbeats 4000000 in
theorem Image_any (size : Int) (L : List (HSamp × SampV)) (A : Option Addr) (cap : Nat) (w : World) (hl : L.length ≤ 19) (hn : A = none → cap = 0) (hs : SampsAt w w.heap.size A L) :
    Calls Try.prog 45 #[.int .i64 size, .slice A L.length cap] w fun e w' => e = .returned (.int .i64 (imageZ size (L.map (·.2)))) ∧ Below w.heap.size w w' := by
  obtain ⟨n, hn'⟩ : ∃ n, L.length = n := ⟨_, rfl⟩
  obtain ⟨Z, hZ⟩ : ∃ Z, imageZ size (L.map (·.2)) = Z := ⟨_, rfl⟩
  obtain ⟨E, hE⟩ : ∃ E, checkAllZ (L.map (·.2)) = E := ⟨_, rfl⟩
  rw [hZ]
  have HQ := CheckAll_any L A cap w (by omega) hs
  rw [hE, hn'] at HQ
  have HQ := Lib.hid HQ
  have HS := Lib.hid (fun W (hW : Below w.heap.size w W) => waveSort_any L A cap W hl hn (hs.later hW))
  rw [hn'] at HS
  have Hs := Lib.hid hs
  have Hsl := Lib.hid (show (L.map (·.2)).length = n by rw [List.length_map]; exact hn')
  have HCA := Lib.hid (fun (h : checkAllZ (L.map (·.2)) = 0) => check_all h)
  unfold imageZ at hZ
  rw [hE, Hsl.out] at hZ
  rw [hE] at HCA
  have HZ := Lib.hid hZ
  rw [hn'] at hl ⊢
  clear hn' hs hZ hE hn
  by_cases h1 : size < 24
  · have HF := Lib.hid (show Z = 0 by rw [← HZ.out, if_pos (.inl h1)])
    have t1 : decide (size < 24) = true := decide_eq_true h1
    go_enter Try.func45, Try.ntmps45
    go_wp2_with fail
    go_ret
    exact ⟨ret_int HF.out.symm, Below.refl _ _⟩
  · have t1 : decide (size < 24) = false := decide_eq_false h1
    by_cases h2 : 96 < size
    · have HF := Lib.hid (show Z = 0 by rw [← HZ.out, if_pos (.inr (.inl h2))])
      have t2 : decide (96 < size) = true := decide_eq_true h2
      go_enter Try.func45, Try.ntmps45
      go_wp2_with fail
      go_ret
      exact ⟨ret_int HF.out.symm, Below.refl _ _⟩
    · have t2 : decide (96 < size) = false := decide_eq_false h2
      by_cases h3 : E = 0
      · subst h3
        have HF := Lib.hid (show Z = upZ (imgTo size (16 + n * 64 + 4) (sortS (L.map (·.2)))) 64 by rw [← HZ.out, if_neg (by simp; omega)])
        have hchk := HCA.out rfl
        have hchk2 : ∀ s ∈ sortS (L.map (·.2)), s.check = 0 := fun s hs => hchk s ((sortS_perm _).subset hs)
        have hsl2 : (sortS (L.map (·.2))).length = n := by rw [(sortS_perm _).length_eq]; exact Hsl.out
        have HB := Lib.hid (fun k => imgTo_bd size (16 + n * 64 + 4) (by omega) (by omega) (by omega) ((sortS (L.map (·.2))).take k) (fun s hs => hchk2 s (List.mem_of_mem_take hs)))
        clear hchk HCA HZ
        generalize sortS (L.map (·.2)) = SS at *
        have Hchk2 := Lib.hid hchk2
        have Hsl2 := Lib.hid hsl2
        clear hchk2 hsl2
        go_enter Try.func45, Try.ntmps45
        go_wp2_with fail
        refine HQ.out.mono ?_
        rintro e w1 ⟨rfl, hb1⟩
        have Hb1 := Lib.hid hb1
        have HS1 := Lib.hid (HS.out w1 hb1)
        clear hb1 HS HQ
        go_wp2_with (first | (go_at_call 59; refine (bankDir_any _ _ (by omega) (by omega)).mono ?_; rintro e w' ⟨rfl, rfl⟩) | (go_at_call 17; fail))
        refine HS1.out.mono ?_
        rintro e w2 ⟨A2, c2, M, rfl, hM, hle, hc63, hn2, hs2, hb2⟩
        have hMl : M.length = n := by rw [← Hsl2.out, ← hM, List.length_map]
        rw [hMl] at hle ⊢
        have HM := Lib.hid hM
        have HMl := Lib.hid hMl
        have Hs2 := Lib.hid hs2
        have Hb2 := Lib.hid (bnext Hb1.out hb2)
        clear hM hMl hs2 hb2 hn2 HS1
        go_wp2_with fail
        go_loopw [5, 26] (fun a i wr => ∃ (k : Nat) (z : Int), k ≤ n ∧ i = .int .i64 k ∧ z = imgTo size (16 + n * 64 + 4) (SS.take k) ∧ a = .int .i64 z ∧ Below w2.heap.size w2 wr) (fun _ i _ => n - (intOf i).toNat)
        case atStart => exact ⟨0, _, Nat.zero_le _, rfl, rfl, by show Value.int .i64 _ = .int .i64 (16 + (n : Int) * 64 + 4); first | rfl | go_num, Below.refl _ _⟩
        case round =>
          obtain ⟨k, z, hk, rfl, hz, rfl, hbel⟩ := hrel
          have hzb := HB.out k
          rw [← hz] at hzb
          have hlk : ((SS.take k).length : Int) ≤ 19 := by rw [List.length_take]; omega
          have hz0 : 0 ≤ z := hzb.1
          have hz1 : z ≤ 500000000 := by omega
          have Hz := Lib.hid hz
          have Hbel := Lib.hid hbel
          clear hz hbel hzb hlk
          by_cases hlt : k < n
          · have t3 : (k : Int) < (n : Int) := by omega
            obtain ⟨p, hp⟩ := list_get (k := k) HMl.out hlt
            have hmem := List.mem_of_getElem? hp
            have hp2 : SS[k]? = some p.2 := by rw [← HM.out, List.getElem?_map, hp]; rfl
            have hck := Hchk2.out p.2 (List.mem_of_getElem? hp2)
            have hfb := frames_bd hck
            have HI := Lib.hid (imgTo_succ size (16 + n * 64 + 4) hp2)
            obtain ⟨b, off, rfl, hb, hc⟩ := samp_at Hs2.out.row hp
            have hft := (Hs2.out.fits p hmem).below Hbel.out
            obtain ⟨⟨nm, rate, lp, f, t, a, len, cp⟩, s⟩ := p
            obtain ⟨⟨e1, e2, e3, e4, e5, e6⟩, h2', h3', vs, h4, h5⟩ := hft
            simp only [HSamp.cells] at hc h2' h3' h4 h5 e1 e2 e3 e4 e5 e6 hp2 hfb HI
            have c0 := (Hbel.out.cell (p := ⟨b, off + k * 6 + 0, none⟩) hb).trans (hc 0 _ rfl)
            have c1 := (Hbel.out.cell (p := ⟨b, off + k * 6 + 1, none⟩) hb).trans (hc 1 _ rfl)
            have c2' := (Hbel.out.cell (p := ⟨b, off + k * 6 + 2, none⟩) hb).trans (hc 2 _ rfl)
            have c3 := (Hbel.out.cell (p := ⟨b, off + k * 6 + 3, none⟩) hb).trans (hc 3 _ rfl)
            have c4 := (Hbel.out.cell (p := ⟨b, off + k * 6 + 4, none⟩) hb).trans (hc 4 _ rfl)
            have c5 := (Hbel.out.cell (p := ⟨b, off + k * 6 + 5, none⟩) hb).trans (hc 5 _ rfl)
            rw [Nat.add_zero] at c0
            have HL := Lib.hid (fun W (hW : Below wr.heap.size wr W) => show Calls Try.prog 19 #[.agg #[.string nm, .int .i64 rate, .bool lp, .int .i64 f, .int .i64 t, .slice a len cp]] W (fun e w' => e = .returned (.int .i64 (len0 s.rows)) ∧ Below W.heap.size W w') by
              have hWB := Hbel.out.trans (hW.mono Hbel.out.size)
              have h4' : Row wr w2.heap.size a vs := h4
              have h5' : RowsAt wr w2.heap.size vs s.rows := h5
              exact Length_any nm rate lp f t a cp vs s.rows W len e6.symm ((h4'.below (hW.mono Hbel.out.size)).more hWB.size) ((h5'.below (hW.mono Hbel.out.size)).more hWB.size))
            have hfr : s.frames = countZ (len0 s.rows) * (len : Int) := by unfold SampV.frames; rw [e6]
            unfold imgStep at HI
            obtain ⟨fr, hfr2⟩ : ∃ fr, s.frames = fr := ⟨_, rfl⟩
            rw [hfr2] at hfb HI
            have HFR := Lib.hid (show countZ (len0 s.rows) * (len : Int) = fr by rw [← hfr, hfr2])
            have hwr : IntKind.i64.wrap (countZ (len0 s.rows) * (len : Int)) = fr := by rw [HFR.out]; exact IntWalk.i64_in _ (by omega)
            have HCt := Lib.hid (fun W => Count_any (len0 s.rows) W (by
              have := right_of_check hck
              unfold MetaV.right at this
              simp only [Bool.and_eq_true, decide_eq_true_eq] at this
              omega))
            generalize countZ (len0 s.rows) = ct at *
            generalize len0 s.rows = l0 at *
            have hmb := mul_bd2 size fr (by omega) (by omega) hfb.1 hfb.2
            obtain ⟨hm0, hm1⟩ := hmb
            obtain ⟨hf0, hf1⟩ := hfb
            have hup : 0 ≤ upZ (z + 4 * fr) 16 ∧ upZ (z + 4 * fr) 16 ≤ 600000000 := by unfold upZ; omega
            obtain ⟨hup0, hup1⟩ := hup
            have hN1 := Blk.new wr 51 [.string nm, .int .i64 rate, .bool lp, .int .i64 f, .int .i64 t, .slice a len cp]
            have hy5 := gw_blk hN1
            clear hc hp hmem h4 h5 h2' h3' e1 e2 e3 e4 e5 e6 hp2 hck hfr hfr2 hN1
            go_wp2_with fail
            refine wp_region_calm (by kernel_rfl) (by kernel_rfl) ?_
            repeat (go_big_quiet_step ((first | (go_at_call 19; rename_i x; exact calm_call (HL.out _ ((bnew wr _).trans (x.2.mono (by simp))))) | (go_at_call 60; exact calm_same (HCt.out _)))))
            refine wpQuiet_nil ?_
            intro w5 hw'
            have hb5 := gw_below hw'
            have HW5 := Lib.hid (bnext Hbel.out ((bnew wr _).trans (hb5.mono (by simp))))
            clear hw' hb5 hy5 c0 c1 c2' c3 c4 c5 hwr
            go_wp2_with (go_at_call 61; refine (up16_any _ _ (by omega) (by omega)).mono ?_; rintro e w' ⟨rfl, rfl⟩)
            go_roundw
            case rel => exact ⟨k + 1, _, by omega, by go_num, by rw [HI.out, ← Hz.out], rfl, HW5.out⟩
            case measure => simp [intOf]; omega
          · have t3 : ¬ ((k : Int) < (n : Int)) := by omega
            have HF2 := Lib.hid (show Z = upZ z 64 by rw [HF.out, Hz.out, List.take_of_length_le (by rw [Hsl2.out]; omega)])
            go_wp2_with (go_at_call 61; refine (up64_any _ _ (by omega) (by omega)).mono ?_; rintro e w' ⟨rfl, rfl⟩)
            go_ret
            exact ⟨ret_int HF2.out.symm, bnext Hb2.out Hbel.out⟩
      · have HF := Lib.hid (show Z = 0 by rw [← HZ.out, if_pos (.inr (.inr h3))])
        have t3 : (E != 0) = true := by rw [bne_iff_ne]; exact h3
        have t4 : (E == 0) = false := beq_eq_false_iff_ne.2 h3
        clear h3
        go_enter Try.func45, Try.ntmps45
        go_wp2_with fail
        refine HQ.out.mono ?_
        rintro e w1 ⟨rfl, hb1⟩
        go_wp2_with fail
        go_ret
        exact ⟨ret_int HF.out.symm, hb1⟩
end Go.Proofs.Ytbgkoopfdfnmcaa
