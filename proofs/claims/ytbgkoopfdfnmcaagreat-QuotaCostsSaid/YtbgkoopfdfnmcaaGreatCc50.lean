/- CostA, LawCosts. Conditions: as each theorem states. -/
import Derived.WalkSpells
import Derived.Handy
import Derived.Test.YtbgkoopfdfnmcaaGreatCc48
import Derived.Test.YtbgkoopfdfnmcaaGreatCc49
import Derived.Test.YtbgkoopfdfnmcaaGreatCc47

namespace Go.Proofs.YtbgkoopfdfnmcaaGreat
open Go.RowKit

def measErr (size : Int) (ss : List SampV) : Int := if size < 24 ∨ 96 < size then 12 else firstBad ss
def measV (size : Int) (ss : List SampV) : CostV := if size < 24 ∨ 96 < size then ⟨0, 0, 0⟩ else if firstBad ss ≠ 0 then ⟨0, 0, 0⟩ else lossTo size ss ss.length
theorem good_of_take {ss : List SampV} {m : Nat} (h : (ss.take m).all (fun s => decide (s.check = 0)) = true) (hs : ∀ s ∈ ss, s.small) : ∀ j s, j < m → ss[j]? = some s → GoodS s := fun j s hj hjs => by
  rw [List.all_eq_true] at h
  have hm : s ∈ ss.take m := List.mem_of_getElem? (by rw [List.getElem?_take_of_lt hj]; exact hjs)
  exact good_of_check (by simpa using h s hm) (hs s (List.mem_of_getElem? hjs))
theorem blk3 {w : World} {g : Nat} {t : TypeId} {c : CostV} {a b d : Int} (h : Blk w g t c.cells) :
    Blk (((w.setCell ⟨g, 0, none⟩ (.int .i64 a)).setCell ⟨g, 1, none⟩ (.int .i64 b)).setCell ⟨g, 2, none⟩ (.int .i64 d)) g t (CostV.mk a b d).cells := ((h.set_ 0 _).set_ 1 _).set_ 2 _
theorem below3 {B : Nat} {w0 w : World} {g : Nat} (h : Below B w0 w) (hg : B ≤ g) (a b d : Value) :
    Below B w0 (((w.setCell ⟨g, 0, none⟩ a).setCell ⟨g, 1, none⟩ b).setCell ⟨g, 2, none⟩ d) := by
  repeat (refine Below.setCell ?_ hg _)
  exact h

set_option maxRecDepth 100000 in
set_option maxHeartbeats 16000000 in
theorem Measure_any (size : Int) (L : List (HSamp × SampV)) (A : Option Addr) (cap : Nat) (w : World) (hl : L.length ≤ 8) (hs : SampsAt w w.heap.size A L) (hsm : ∀ p ∈ L, p.2.small) :
    Calls Tryz.prog 6 #[.int .i64 size, .slice A L.length cap] w fun e w' => e = .returned (.tuple #[.agg #[.int .i64 (measV size (L.map (·.2))).far, .int .i64 (measV size (L.map (·.2))).off, .int .i64 (measV size (L.map (·.2))).all], .int .i64 (measErr size (L.map (·.2)))]) ∧ Below w.heap.size w w' := by
  obtain ⟨n, hn'⟩ : ∃ n, L.length = n := ⟨_, rfl⟩
  rw [hn'] at hl ⊢
  have Hn := Lib.hid hn'
  have Hs := Lib.hid hs
  have Hsl := Lib.hid (show (L.map (·.2)).length = n by rw [List.length_map]; exact hn')
  have Hsm := Lib.hid (show ∀ s ∈ L.map (·.2), s.small from fun s h => by
    obtain ⟨p, hp, rfl⟩ := List.mem_map.1 h
    exact hsm p hp)
  have HV := Lib.hid (show measV size (L.map (·.2)) = if size < 24 ∨ 96 < size then ⟨0, 0, 0⟩ else if firstBad (L.map (·.2)) ≠ 0 then ⟨0, 0, 0⟩ else lossTo size (L.map (·.2)) (L.map (·.2)).length from rfl)
  have HE := Lib.hid (show measErr size (L.map (·.2)) = if size < 24 ∨ 96 < size then 12 else firstBad (L.map (·.2)) from rfl)
  generalize measV size (L.map (·.2)) = V at *
  generalize measErr size (L.map (·.2)) = E at *
  clear hn' hs hsm
  by_cases hsz : size < 24 ∨ 96 < size
  · have hV := HV.out
    have hE := HE.out
    rw [if_pos hsz] at hV hE
    subst hV hE
    have HNo := Lib.hid (fun W => codeNew_no size W hsz)
    clear hsz HV HE
    go_enter Tryz.func6, Tryz.ntmps6
    go_wp2_with (go_at_call 8; refine (HNo.out _).mono ?_; rintro e w2 ⟨rfl, rfl⟩)
    go_returns
    exact ⟨rfl, by repeat (refine Below.setCell ?_ (Nat.le_refl _) _)
                   exact bnew _ _⟩
  have HNew := Lib.hid (fun W => codeNew_any size W (by omega) (by omega))
  have HV2 := Lib.hid (show V = if firstBad (L.map (·.2)) ≠ 0 then ⟨0, 0, 0⟩ else lossTo size (L.map (·.2)) (L.map (·.2)).length by rw [HV.out, if_neg hsz])
  have HE2 := Lib.hid (show E = firstBad (L.map (·.2)) by rw [HE.out, if_neg hsz])
  have hs1 : 24 ≤ size := by omega
  have hs2 : size ≤ 96 := by omega
  have HFr := Lib.hid (fun (d : List Int) g B k W (hg : CoderAt W g size) (h : GoodR d) (r : Row W W.heap.size B (d.map (.int .i64))) => Frames_any g size d B k W hg hs1 hs2 (by have := h.1; omega) r h.2)
  have HSm := Lib.hid (fun (d : List Int) g (M : List (FrH × FrameV)) B k W (hg : CoderAt W g size) (h : GoodR d) (hM : M.map Prod.snd = framesZ d size) (hA : FramesAt W B M) => (show Calls Tryz.prog 12 #[.pointer (some ⟨g, 0, none⟩), .slice B M.length k, .int .i64 d.length] W (fun e w' => ∃ A c, e = .returned (.slice A d.length c) ∧ Row w' w'.heap.size A ((sampsZ (framesZ d size) d.length).map (.int .i64)) ∧ Below W.heap.size W w') from by
    have hfr := framesZ_right h.2 (size := size) hs1 hs2
    have hML : M.length ≤ 100000 := by
      have : (M.map Prod.snd).length = (framesZ d size).length := by rw [hM]
      rw [List.length_map, framesZ_len] at this
      have := h.1
      unfold countN at *
      omega
    have := Samples_any g size M B k d.length W hg hML hA (fun (p : FrH × FrameV) hp => (hfr p.2 (by rw [← hM]; exact List.mem_map.2 ⟨p, hp, rfl⟩)).1)
    rw [hM] at this
    refine this.mono ?_
    rintro e w' ⟨A, c, he, _, _, hr, hb⟩
    rw [samps_len2] at he
    exact ⟨A, c, he, hr, hb⟩))
  have HFar := Lib.hid (fun (d : List Int) B1 B2 k1 k2 W (h : GoodR d) (r1 : Row W W.heap.size B1 (d.map (.int .i64))) (r2 : Row W W.heap.size B2 ((sampsZ (framesZ d size) d.length).map (.int .i64))) => (show Calls Tryz.prog 11 #[.slice B1 d.length k1, .slice B2 d.length k2] W (fun e w' => e = .returned (.tuple #[.int .i64 (lostF size d), .int .i64 (lostN size d)]) ∧ Below W.heap.size W w') from by
    have := Far_any d (sampsZ (framesZ d size) d.length) B1 B2 k1 k2 d.length W (by rw [samps_len2]; omega) (by have := h.1; omega) (samp16_small h.2) (samp16_small (samps_16 _ _)) r1 r2
    rw [samps_len2] at this
    exact this))
  have HLb := Lib.hid (fun (d : List Int) (h : GoodR d) => lost_bd (size := size) h)
  clear hsz HV HE hs1 hs2
  have HFc := Lib.hid (show (Tryz.prog.info? 25).map (·.size) = some 3 by kernel_rfl)
  go_enter Tryz.func6, Tryz.ntmps6
  go_wp2_with (go_at_call 8; fail)
  refine (HNew.out _).mono ?_
  rintro e w7 ⟨g, rfl, hg1, hg2, hb7⟩
  go_wp2_with fail
  obtain ⟨w8, hw8⟩ : ∃ w8, w7.alloc (.cells #[.int .i64 0, .int .i64 0, .int .i64 0] 25) = w8 := ⟨_, rfl⟩
  rw [hw8]
  have Bw := Lib.hid (show Below w.heap.size w w8 by rw [← hw8]; exact bnext (bnext (bnew w _) hb7) (bnew w7 _))
  have Hg := Lib.hid (show CoderAt w8 g size by
    rw [← hw8]
    exact (Below.heap_alloc w7 _ g (by
      rcases Nat.lt_or_ge g w7.heap.size with h | h
      · exact h
      · unfold CoderAt at hg2
        rw [Array.getElem?_eq_none h] at hg2
        cases hg2)).trans hg2)
  have Hg7 := Lib.hid (show g < w7.heap.size by
      rcases Nat.lt_or_ge g w7.heap.size with h | h
      · exact h
      · unfold CoderAt at hg2
        rw [Array.getElem?_eq_none h] at hg2
        cases hg2)
  have Hg4 := Lib.hid (show Blk w8 w.heap.size 25 (CostV.mk 0 0 0).cells by
    rw [← hw8]
    exact ((Blk.new w 25 (CostV.mk 0 0 0).cells).below hb7 (by simp)).alloc _)
  have Hg8 := Lib.hid (show Blk w8 w7.heap.size 25 (CostV.mk 0 0 0).cells by
    rw [← hw8]
    exact Blk.new w7 _ (CostV.mk 0 0 0).cells)
  have H78 := Lib.hid (show w8.heap.size = w7.heap.size + 1 by rw [← hw8]; simp)
  obtain ⟨g8, hg8⟩ : ∃ g8, w7.heap.size = g8 := ⟨_, rfl⟩
  have H47 := Lib.hid (show w.heap.size < g8 by rw [← hg8]; have := hb7.size; simp at this; omega)
  rw [hg8] at Hg7 Hg8 H78
  rw [hg8]
  obtain ⟨g4, hg4⟩ : ∃ g4, w.heap.size = g4 := ⟨_, rfl⟩
  have HG4 := Lib.hid hg4
  rw [hg4] at Hg4
  rw [hg4]
  clear hw8 hb7 hg1 hg2 hg8 hg4 HNew
  obtain ⟨ss, hss⟩ : ∃ ss, L.map (·.2) = ss := ⟨_, rfl⟩
  have Hss := Lib.hid (fun (k : Nat) (p : HSamp × SampV) (h : L[k]? = some p) => (show ss[k]? = some p.2 from by rw [← hss, List.getElem?_map, h]; rfl))
  rw [hss] at HV2 HE2 Hsl Hsm
  clear hss
  go_loopw [29] (fun i wr => ∃ m : Nat, m ≤ n ∧ i = .int .i64 m ∧ (ss.take m).all (fun s => decide (s.check = 0)) = true ∧ Blk wr g8 25 (lossTo size ss m).cells ∧ Below g8 w8 wr) (fun i _ => n - (intOf i).toNat)
  case atStart => exact ⟨0, by omega, rfl, rfl, Hg8.out, Below.refl _ _⟩
  case round =>
    obtain ⟨m, hm, rfl, hall, hblk, hbel⟩ := hrel
    have Hall := Lib.hid hall
    have Hblk := Lib.hid hblk
    have Hbel := Lib.hid hbel
    have Hwr := Lib.hid (show Below w.heap.size w wr from Bw.out.trans (hbel.mono (by have := H47.out; omega)))
    have Hgr := Lib.hid (show g8 < wr.heap.size from hblk.lt)
    have Hb4 := Lib.hid (show Blk wr g4 25 (CostV.mk 0 0 0).cells from Hg4.out.below hbel (by have := H47.out; have := HG4.out; omega))
    have HLo := Lib.hid (lossTo_bd (size := size) (ss := ss) m (good_of_take hall Hsm.out))
    clear hall hblk hbel
    by_cases hlt : m < n
    · have t1 : (m : Int) < (n : Int) := by omega
      have t2 : (0 : Int) ≤ (m : Int) := by omega
      obtain ⟨p, hp⟩ := list_get (k := m) Hn.out hlt
      have hmem := List.mem_of_getElem? hp
      have hp2 := Hss.out m p hp
      obtain ⟨b, off, rfl, hb, hc⟩ := samp_at Hs.out.row hp
      have hft := (Hs.out.fits p hmem)
      have HSs := Lib.hid (Hsm.out p.2 (List.mem_of_getElem? hp2))
      obtain ⟨⟨nm, rate, lp, f, t, a, len, cp⟩, s⟩ := p
      obtain ⟨⟨e1, e2, e3, e4, e5, e6⟩, h2, h3, vs, h4, h5⟩ := hft
      simp only [HSamp.cells] at hc h2 h3 h4 h5 e1 e2 e3 e4 e5 e6 hp2 HSs
      have c0 := (Hwr.out.cell (p := ⟨b, off + m * 6 + 0, none⟩) hb).trans (hc 0 _ rfl)
      have c1 := (Hwr.out.cell (p := ⟨b, off + m * 6 + 1, none⟩) hb).trans (hc 1 _ rfl)
      have c2 := (Hwr.out.cell (p := ⟨b, off + m * 6 + 2, none⟩) hb).trans (hc 2 _ rfl)
      have c3 := (Hwr.out.cell (p := ⟨b, off + m * 6 + 3, none⟩) hb).trans (hc 3 _ rfl)
      have c4 := (Hwr.out.cell (p := ⟨b, off + m * 6 + 4, none⟩) hb).trans (hc 4 _ rfl)
      have c5 := (Hwr.out.cell (p := ⟨b, off + m * 6 + 5, none⟩) hb).trans (hc 5 _ rfl)
      rw [Nat.add_zero] at c0
      have HQ := Lib.hid (fun W (hW : Below wr.heap.size wr W) => show Calls Tryz.prog 9 #[.agg #[.string nm, .int .i64 rate, .bool lp, .int .i64 f, .int .i64 t, .slice a len cp]] W (fun e w' => e = .returned (.int .i64 s.check) ∧ Below W.heap.size W w') by
        have hWB := bnext Hwr.out hW
        have h4' : Row w w.heap.size a vs := h4
        have h5' : RowsAt w w.heap.size vs s.rows := h5
        have := Check_any nm rate lp f t a cp vs s.rows W (h4'.later hWB) (h5'.later hWB) (by omega)
        rw [← e6] at this
        have ez : s.check = checkZ nm rate lp f t s.rows := by unfold SampV.check; rw [e1, e2, e3, e4, e5]
        rw [ez]; exact this)
      have HRow := Lib.hid (fun (k : Nat) (d : List Int) (hd : s.rows[k]? = some d) => (show ∃ b off a' c', a = some ⟨b, off, none⟩ ∧ b < w.heap.size ∧ w.cell? ⟨b, off + k, none⟩ = some (.slice a' d.length c') ∧ d.length ≤ c' ∧ c' ≤ 9223372036854775807 ∧ Row w w.heap.size a' (d.map (.int .i64)) from first_row h4 h5 hd))
      have Hp2 := Lib.hid hp2
      have He6 := Lib.hid e6
      obtain ⟨z, hz⟩ : ∃ z, s.check = z := ⟨_, rfl⟩
      rw [hz] at HQ
      have Hz := Lib.hid hz
      clear hc hp hmem h4 h5 h2 h3 e1 e2 e3 e4 e5 e6 hp2 hz
      by_cases hz0' : z = 0
      · subst hz0'
        have Hgs := Lib.hid (good_of_check Hz.out HSs.out)
        go_wp2_with (go_at_call 9; fail)
        refine (HQ.out _ (bnew _ _)).mono ?_
        rintro e w1 ⟨rfl, hb1⟩
        have cc5 := hb1.cell (p := ⟨wr.heap.size, 5, none⟩) (by simp)
        have E1 := Lib.hid (bnext (bnew wr _) hb1)
        have Hb1 := Lib.hid (Hblk.out.below E1.out Hgr.out)
        clear c0 c1 c2 c3 c4 c5 hb1
        obtain ⟨R, hR⟩ : ∃ R, s.rows.length = R := ⟨_, rfl⟩
        have e6 := He6.out
        rw [hR] at e6
        subst e6
        have HR := Lib.hid hR
        have hR2 : len ≤ 2 := by have := Hgs.out.1; omega
        clear hR
        go_wp2_with (go_at_call 18; refine (isErr_any _ _).mono ?_; rintro e w2 ⟨rfl, rfl⟩)
        have HCh := Lib.hid (fun k => chanTo_bd (size := size) (rows := s.rows) HLo.out Hgs.out.2 k)
        have HCs := Lib.hid (fun k d (h : s.rows[k]? = some d) => chanTo_succ (size := size) (c := lossTo size ss m) h)
        clear cc5
        go_loopw [45] (fun i wx => ∃ k : Nat, k ≤ len ∧ i = .int .i64 k ∧ Blk wx g8 25 (chanTo size s.rows (lossTo size ss m) k).cells ∧ Below g8 w8 wx) (fun i _ => len - (intOf i).toNat)
        case atStart => exact ⟨0, by omega, rfl, Hb1.out, Hbel.out.trans (E1.out.mono (by have := Hgr.out; omega))⟩
        case round =>
          obtain ⟨k, hk, rfl, hblk, hbel⟩ := hrel
          have Hbk := Lib.hid hblk
          have Hx := Lib.hid hbel
          have Hgx := Lib.hid (show g8 < wr.heap.size from hblk.lt)
          have Hwx := Lib.hid (show Below w.heap.size w wr from Bw.out.trans (hbel.mono (by have := H47.out; omega)))
          have HCc := Lib.hid (show CoderAt wr g size from (hbel.block g Hg7.out).trans Hg.out)
          clear hblk hbel
          by_cases hlk : k < len
          · have t3 : (k : Int) < (len : Int) := by omega
            have t4 : (0 : Int) ≤ (k : Int) := by omega
            obtain ⟨d, hd⟩ := list_get (k := k) HR.out hlk
            have Hgd := Lib.hid (Hgs.out.2 d (List.mem_of_getElem? hd))
            obtain ⟨b5, o5, a5, k5, rfl, hb5, hc5, _, _, hr5⟩ := HRow.out k d hd
            have z5 := (Hwx.out.cell (p := ⟨b5, o5 + k, none⟩) hb5).trans hc5
            have Hr5 := Lib.hid hr5
            have HCn := Lib.hid (HCs.out k d hd)
            have hbd := HCh.out k
            have hlb := HLb.out d Hgd.out
            have hd1 := Hgd.out.1
            have HFr2 := Lib.hid (HFr.out d g a5 k5 wr HCc.out Hgd.out (Hr5.out.later Hwx.out))
            have HSm2 := Lib.hid (fun M B c W (hW : Below wr.heap.size wr W) => HSm.out d g M B c W ((hW.block g (Nat.lt_trans Hg7.out Hgx.out)).trans HCc.out) Hgd.out)
            have HFa2 := Lib.hid (fun B2 c2 W (hW : Below wr.heap.size wr W) => HFar.out d a5 B2 k5 c2 W Hgd.out (Hr5.out.later (bnext Hwx.out hW)))
            obtain ⟨⟨f0, o0, l0⟩, hC⟩ : ∃ C, chanTo size s.rows (lossTo size ss m) k = C := ⟨_, rfl⟩
            rw [hC] at Hbk HCn hbd
            have HCn2 := Lib.hid (show chanTo size s.rows (lossTo size ss m) (k + 1) = ⟨max f0 (lostF size d), o0 + lostN size d, l0 + d.length⟩ from HCn.out)
            generalize lostF size d = F at *
            generalize lostN size d = N at *
            obtain ⟨nd, hnd⟩ : ∃ nd, d.length = nd := ⟨_, rfl⟩
            rw [hnd] at z5 HFr2 HSm2 HFa2 HCn2 hd1
            obtain ⟨bd1, bd2, bd3⟩ := hbd
            simp only at bd1 bd2 bd3
            obtain ⟨X, hX⟩ : ∃ X, max f0 F = X := ⟨_, rfl⟩
            have hmax : ∀ W, (Builtin.max_ #[3, 3] 3 #[.int .i64 f0, .int .i64 F]).run Tryz.prog W = .ok (.int .i64 X) W := fun W => by
              have e : (if f0 < F then F else f0) = X := by rw [← hX]; split <;> omega
              simp [Builtin.max_, Builtin.max2, e]
            have hwo : IntKind.i64.wrap (o0 + N) = o0 + N := IntWalk.i64_in _ (by omega)
            have hwl : IntKind.i64.wrap (l0 + (nd : Int)) = l0 + (nd : Int) := IntWalk.i64_in _ (by omega)
            rw [hX] at HCn2
            clear hC HCn hd hb5 hc5 hr5 hnd hlb bd1 bd2 bd3 hX hd1
            go_wp2_with (go_at_call 10; fail)
            refine HFr2.out.mono ?_
            rintro e w2 ⟨Af, cf, M, rfl, hM, _, _, hfa, hb2⟩
            have HM := Lib.hid hM
            have Hfa := Lib.hid hfa
            have E2 := Lib.hid hb2
            clear hM hfa hb2 HFr2
            go_wp2_with (go_at_call 12; fail)
            refine (HSm2.out M _ _ w2 E2.out HM.out Hfa.out).mono ?_
            rintro e w3 ⟨As, cs, rfl, hr3, hb3⟩
            have R3 := Lib.hid hr3
            have E3 := Lib.hid (bnext E2.out hb3)
            clear hr3 hb3 HSm2
            go_wp2_with (go_at_call 11; fail)
            refine (HFa2.out _ _ w3 E3.out R3.out).mono ?_
            rintro e w4 ⟨rfl, hb4⟩
            have E4 := Lib.hid (bnext E3.out hb4)
            have B8 := Hbk.out.below E4.out Hgx.out
            have x8 : ∀ i, w4.cell? ⟨g8, i, none⟩ = ([.int .i64 f0, .int .i64 o0, .int .i64 l0] : List Value)[i]? := blk_cells B8
            have y8 := blk_free B8
            have HB8 := Lib.hid B8
            clear hb4 B8 HFa2
            go_wp2
            go_roundw
            case rel => exact ⟨k + 1, by omega, by go_num, by rw [HCn2.out]; exact blk3 HB8.out, below3 (Hx.out.trans (E4.out.mono (by have := Hgx.out; omega))) (Nat.le_refl _) _ _ _⟩
            case measure => simp [intOf]; omega
          · obtain rfl : k = len := by omega
            have t3 : ¬ ((k : Int) < (k : Int)) := by omega
            have HN := Lib.hid (lossTo_succ (size := size) Hp2.out)
            go_wp2
            go_roundw
            case rel => exact ⟨m + 1, by omega, by go_num, by rw [all_take_succ _ Hp2.out, Hall.out, Hz.out]; rfl, by rw [HN.out, HR.out]; exact Hbk.out, Hx.out⟩
            case measure => simp [intOf]; omega
      · have t3 : (z == 0) = false := beq_eq_false_iff_ne.2 hz0'
        have HF := Lib.hid (firstBad_at Hp2.out Hall.out (by rw [Hz.out]; exact hz0'))
        have hE := HE2.out
        have hV := HV2.out
        rw [HF.out, Hz.out] at hE hV
        rw [if_pos hz0'] at hV
        subst hE hV
        clear hz0' HE2 HV2
        go_wp2_with (go_at_call 9; fail)
        refine (HQ.out _ (bnew _ _)).mono ?_
        rintro e w1 ⟨rfl, hb1⟩
        have B4 := Hb4.out.below (bnext (bnew wr _) hb1) (by have := H47.out; have := HG4.out; have := Hgr.out; omega)
        have x4 : ∀ i, w1.cell? ⟨g4, i, none⟩ = ([.int .i64 0, .int .i64 0, .int .i64 0] : List Value)[i]? := blk_cells B4
        have y4 := blk_free B4
        have E1 := Lib.hid (bnext Hwr.out (bnext (bnew wr _) hb1))
        have H4 := Lib.hid B4
        clear c0 c1 c2 c3 c4 c5 hb1 B4
        go_wp2_with (go_at_call 18; refine (isErr_any _ _).mono ?_; rintro e w2 ⟨rfl, rfl⟩; rw [t3])
        obtain ⟨w9, hw9⟩ : ∃ w9, ((w1.setCell ⟨g4, 0, none⟩ (.int .i64 0)).setCell ⟨g4, 1, none⟩ (.int .i64 0)).setCell ⟨g4, 2, none⟩ (.int .i64 0) = w9 := ⟨_, rfl⟩
        have H9 := Lib.hid (show Blk w9 g4 25 (CostV.mk 0 0 0).cells by rw [← hw9]; exact blk3 H4.out)
        have E9 := Lib.hid (show Below w.heap.size w w9 by rw [← hw9]; exact below3 E1.out (by have := HG4.out; omega) _ _ _)
        rw [hw9]
        clear hw9 x4 y4
        refine bodyPost_ret (v := .tuple #[.agg #[.int .i64 0, .int .i64 0, .int .i64 0], .int .i64 E]) (results_cell_tmp Tryz.results6 _ _ g4 25 #[.int .i64 0, .int .i64 0, .int .i64 0] (0, 0) _ _ rfl rfl H9.out Tryz.underlying25 rfl HFc.out) rfl ?_
        exact ⟨rfl, E9.out⟩
    · obtain rfl : m = n := by omega
      have t1 : ¬ ((m : Int) < (m : Int)) := by omega
      have hall := all_take_all (fun s : SampV => decide (s.check = 0)) (by rw [Hsl.out]; omega) Hall.out
      have hE := HE2.out
      have hV := HV2.out
      rw [firstBad_none hall] at hE hV
      rw [if_neg (by simp), Hsl.out] at hV
      subst hE hV
      obtain ⟨⟨c0, c1, c2⟩, hC⟩ : ∃ C, lossTo size ss m = C := ⟨_, rfl⟩
      rw [hC] at Hblk
      have HC := Lib.hid hC
      have x8 : ∀ i, wr.cell? ⟨g8, i, none⟩ = ([.int .i64 c0, .int .i64 c1, .int .i64 c2] : List Value)[i]? := blk_cells Hblk.out
      have x4 : ∀ i, wr.cell? ⟨g4, i, none⟩ = ([.int .i64 0, .int .i64 0, .int .i64 0] : List Value)[i]? := blk_cells Hb4.out
      have y4 := blk_free Hb4.out
      clear hall HE2 HV2 hC
      go_wp2
      obtain ⟨w9, hw9⟩ : ∃ w9, ((wr.setCell ⟨g4, 0, none⟩ (.int .i64 c0)).setCell ⟨g4, 1, none⟩ (.int .i64 c1)).setCell ⟨g4, 2, none⟩ (.int .i64 c2) = w9 := ⟨_, rfl⟩
      have H9 := Lib.hid (show Blk w9 g4 25 (CostV.mk c0 c1 c2).cells by rw [← hw9]; exact blk3 Hb4.out)
      have E9 := Lib.hid (show Below w.heap.size w w9 by rw [← hw9]; exact below3 Hwr.out (by have := HG4.out; omega) _ _ _)
      rw [hw9]
      clear hw9 x4 y4 x8
      refine bodyPost_ret (v := .tuple #[.agg #[.int .i64 c0, .int .i64 c1, .int .i64 c2], .int .i64 0]) (results_cell_tmp Tryz.results6 _ _ g4 25 #[.int .i64 c0, .int .i64 c1, .int .i64 c2] (0, 0) _ _ rfl rfl H9.out Tryz.underlying25 rfl HFc.out) rfl ?_
      exact ⟨by rw [HC.out], E9.out⟩
end Go.Proofs.YtbgkoopfdfnmcaaGreat

namespace Go.Proofs.YtbgkoopfdfnmcaaGreat
open Go.RowKit

theorem blk2 {w : World} {g : Nat} {t : TypeId} {a b d b' d' : Int} (h : Blk w g t (CostV.mk a b d).cells) :
    Blk ((w.setCell ⟨g, 1, none⟩ (.int .i64 b')).setCell ⟨g, 2, none⟩ (.int .i64 d')) g t (CostV.mk a b' d').cells := (h.set_ 1 _).set_ 2 _
theorem below2 {B : Nat} {w0 w : World} {g : Nat} (h : Below B w0 w) (hg : B ≤ g) (b d : Value) :
    Below B w0 ((w.setCell ⟨g, 1, none⟩ b).setCell ⟨g, 2, none⟩ d) := by
  repeat (refine Below.setCell ?_ hg _)
  exact h

set_option maxRecDepth 100000 in
set_option maxHeartbeats 16000000 in
theorem QuotaCosts_walk (size : Int) (L0 : List (HSamp × SampV)) (A0 : Option Addr) (cap0 : Nat) (w : World) (hs0 : SampsAt w w.heap.size A0 L0) (hnm : ∀ p ∈ L0, NameFits p) :
    Calls Tryz.prog 3 #[.int .i64 size, .slice A0 L0.length cap0] w fun e w' => e = .returned (.bool true) ∧ Below w.heap.size w w' := by
  have HF := Lib.hid (Few15_any L0 A0 cap0 w hs0 hnm)
  have HAw := Lib.hid (fun W => awake43_any W)
  generalize L0.length = n0 at *
  clear hs0 hnm
  go_enter Tryz.func3, Tryz.ntmps3
  go_wp2_with (go_at_call 5; fail)
  refine HF.out.mono ?_
  rintro e w1 ⟨A, cap, L, rfl, hl8, _, _, _, hs, hsm, hb1⟩
  have HMe := Lib.hid (Measure_any size L A cap w1 hl8 hs hsm)
  obtain ⟨n, hn'⟩ : ∃ n, L.length = n := ⟨_, rfl⟩
  rw [hn'] at hl8 HMe ⊢
  have Hn := Lib.hid hn'
  have Hs := Lib.hid hs
  have Hsl := Lib.hid (show (L.map (·.2)).length = n by rw [List.length_map]; exact hn')
  have Hsm := Lib.hid (show ∀ s ∈ L.map (·.2), s.small from fun s h => by
    obtain ⟨p, hp, rfl⟩ := List.mem_map.1 h
    exact hsm p hp)
  have HV := Lib.hid (show measV size (L.map (·.2)) = if size < 24 ∨ 96 < size then ⟨0, 0, 0⟩ else if firstBad (L.map (·.2)) ≠ 0 then ⟨0, 0, 0⟩ else lossTo size (L.map (·.2)) (L.map (·.2)).length from rfl)
  have HE := Lib.hid (show measErr size (L.map (·.2)) = if size < 24 ∨ 96 < size then 12 else firstBad (L.map (·.2)) from rfl)
  generalize measV size (L.map (·.2)) = V at *
  generalize measErr size (L.map (·.2)) = E at *
  have B1 := Lib.hid hb1
  clear hn' hs hsm hb1 HF
  obtain ⟨v0, v1, v2⟩ := V
  simp only at HMe
  by_cases hsz : size < 24 ∨ 96 < size
  · have hV := HV.out
    have hE := HE.out
    rw [if_pos hsz] at hV hE
    injection hV with q0 q1 q2
    subst q0 q1 q2 hE
    have hsd : decide (size < 24) = true ∨ (decide (size < 24) = false ∧ decide (96 < size) = true) := by
      by_cases h : size < 24
      · exact .inl (decide_eq_true h)
      · exact .inr ⟨decide_eq_false h, decide_eq_true (by omega)⟩
    clear hsz HV HE
    go_wp2_with (go_at_call 6; fail)
    refine HMe.out.mono ?_
    rintro e w2 ⟨rfl, hb2⟩
    have B2 := Lib.hid (bnext (bnext B1.out hb2) (bnew w2 (.cells #[.int .i64 0, .int .i64 0, .int .i64 0] 25)))
    clear hb2
    rcases hsd with e1 | ⟨e1, e2⟩
    all_goals
      go_wp2_with (go_at_call 7; refine (HAw.out _).mono ?_; rintro e w9 ⟨rfl, hb9⟩)
      go_ret
      exact ⟨rfl, bnext (B2.out) hb9⟩
  have HNew := Lib.hid (fun W => codeNew_any size W (by omega) (by omega))
  have HV2 := Lib.hid (show CostV.mk v0 v1 v2 = if firstBad (L.map (·.2)) ≠ 0 then ⟨0, 0, 0⟩ else lossTo size (L.map (·.2)) (L.map (·.2)).length by rw [HV.out, if_neg hsz])
  have HE2 := Lib.hid (show E = firstBad (L.map (·.2)) by rw [HE.out, if_neg hsz])
  have hs1 : 24 ≤ size := by omega
  have hs2 : size ≤ 96 := by omega
  have HFr := Lib.hid (fun (d : List Int) g B k W (hg : CoderAt W g size) (h : GoodR d) (r : Row W W.heap.size B (d.map (.int .i64))) => Frames_any g size d B k W hg hs1 hs2 (by have := h.1; omega) r h.2)
  have HSm := Lib.hid (fun (d : List Int) g (M : List (FrH × FrameV)) B k W (hg : CoderAt W g size) (h : GoodR d) (hM : M.map Prod.snd = framesZ d size) (hA : FramesAt W B M) => (show Calls Tryz.prog 12 #[.pointer (some ⟨g, 0, none⟩), .slice B M.length k, .int .i64 d.length] W (fun e w' => ∃ A c, e = .returned (.slice A d.length c) ∧ Row w' w'.heap.size A ((sampsZ (framesZ d size) d.length).map (.int .i64)) ∧ Below W.heap.size W w') from by
    have hfr := framesZ_right h.2 (size := size) hs1 hs2
    have hML : M.length ≤ 100000 := by
      have : (M.map Prod.snd).length = (framesZ d size).length := by rw [hM]
      rw [List.length_map, framesZ_len] at this
      have := h.1
      unfold countN at *
      omega
    have := Samples_any g size M B k d.length W hg hML hA (fun (p : FrH × FrameV) hp => (hfr p.2 (by rw [← hM]; exact List.mem_map.2 ⟨p, hp, rfl⟩)).1)
    rw [hM] at this
    refine this.mono ?_
    rintro e w' ⟨A, c, he, _, _, hr, hb⟩
    rw [samps_len2] at he
    exact ⟨A, c, he, hr, hb⟩))
  have HFar := Lib.hid (fun (d : List Int) B1 B2 k1 k2 W (h : GoodR d) (r1 : Row W W.heap.size B1 (d.map (.int .i64))) (r2 : Row W W.heap.size B2 ((sampsZ (framesZ d size) d.length).map (.int .i64))) => (show Calls Tryz.prog 11 #[.slice B1 d.length k1, .slice B2 d.length k2] W (fun e w' => e = .returned (.tuple #[.int .i64 (lostF size d), .int .i64 (lostN size d)]) ∧ Below W.heap.size W w') from by
    have := Far_any d (sampsZ (framesZ d size) d.length) B1 B2 k1 k2 d.length W (by rw [samps_len2]; omega) (by have := h.1; omega) (samp16_small h.2) (samp16_small (samps_16 _ _)) r1 r2
    rw [samps_len2] at this
    exact this))
  have HLb := Lib.hid (fun (d : List Int) (h : GoodR d) => lost_bd (size := size) h)
  have HZe := Lib.hid (fun (h : 55 ≤ size) ss m (h2 : ∀ j s, j < m → ss[j]? = some s → GoodS s) => lossTo_zero (size := size) (ss := ss) h hs2 m h2)
  have e1 : decide (size < 24) = false := decide_eq_false (by omega)
  have e2 : decide (96 < size) = false := decide_eq_false (by omega)
  clear hsz HV HE hs1 hs2
  go_wp2_with (go_at_call 6; fail)
  refine HMe.out.mono ?_
  rintro e w2 ⟨rfl, hb2⟩
  obtain ⟨w3, hw3⟩ : ∃ w3, w2.alloc (.cells #[.int .i64 v0, .int .i64 v1, .int .i64 v2] 25) = w3 := ⟨_, rfl⟩
  have Hg5 := Lib.hid (show Blk w3 w2.heap.size 25 (CostV.mk v0 v1 v2).cells by rw [← hw3]; exact Blk.new w2 _ (CostV.mk v0 v1 v2).cells)
  have B3 := Lib.hid (show Below w1.heap.size w1 w3 by rw [← hw3]; exact bnext hb2 (bnew w2 _))
  go_wp2_with (go_at_call 8; fail)
  obtain ⟨g5, hg5⟩ : ∃ g5, w2.heap.size = g5 := ⟨_, rfl⟩
  rw [hg5] at Hg5 ⊢
  have H15 := Lib.hid (show w1.heap.size ≤ g5 by rw [← hg5]; exact hb2.size)
  clear hw3 hg5 hb2 HMe
  refine (HNew.out _).mono ?_
  rintro e w7 ⟨g, rfl, hg1, hg2, hb7⟩
  go_wp2_with fail
  obtain ⟨w8, hw8⟩ : ∃ w8, w7.alloc (.cells #[.int .i64 0, .int .i64 0, .int .i64 0] 25) = w8 := ⟨_, rfl⟩
  rw [hw8]
  have Bw := Lib.hid (show Below w1.heap.size w1 w8 by rw [← hw8]; exact bnext (bnext B3.out hb7) (bnew w7 _))
  have hgl : g < w7.heap.size := by
    rcases Nat.lt_or_ge g w7.heap.size with h | h
    · exact h
    · unfold CoderAt at hg2
      rw [Array.getElem?_eq_none h] at hg2
      cases hg2
  have Hg := Lib.hid (show CoderAt w8 g size by
    rw [← hw8]
    exact (Below.heap_alloc w7 _ g hgl).trans hg2)
  have Hg7 := Lib.hid hgl
  have Hg6 := Lib.hid (show Blk w8 g5 25 (CostV.mk v0 v1 v2).cells by
    rw [← hw8]
    exact (Hg5.out.below hb7 Hg5.out.lt).alloc _)
  have Hg8 := Lib.hid (show Blk w8 w7.heap.size 25 (CostV.mk 0 0 0).cells by
    rw [← hw8]
    exact Blk.new w7 _ (CostV.mk 0 0 0).cells)
  have H78 := Lib.hid (show w8.heap.size = w7.heap.size + 1 by rw [← hw8]; simp)
  have H17 := Lib.hid (show w1.heap.size ≤ w7.heap.size from (bnext B3.out hb7).size)
  have H57 := Lib.hid (show g5 < w7.heap.size from Nat.lt_of_lt_of_le Hg5.out.lt hb7.size)
  obtain ⟨g9, hg9⟩ : ∃ g9, w7.heap.size = g9 := ⟨_, rfl⟩
  rw [hg9] at Hg7 Hg8 H78 H17 H57
  rw [hg9]
  clear hw8 hb7 hg1 hg2 hg9 HNew hgl Hg5
  obtain ⟨ss, hss⟩ : ∃ ss, L.map (·.2) = ss := ⟨_, rfl⟩
  have Hss := Lib.hid (fun (k : Nat) (p : HSamp × SampV) (h : L[k]? = some p) => (show ss[k]? = some p.2 from by rw [← hss, List.getElem?_map, h]; rfl))
  rw [hss] at HV2 HE2 Hsl Hsm
  clear hss
  go_loopw [10] (fun i wr => ∃ m : Nat, m ≤ n ∧ i = .int .i64 m ∧ (ss.take m).all (fun s => decide (s.check = 0)) = true ∧ Blk wr g9 25 (lossTo size ss m).cells ∧ Below g9 w8 wr) (fun i _ => n - (intOf i).toNat)
  case atStart => exact ⟨0, by omega, rfl, rfl, Hg8.out, Below.refl _ _⟩
  case round =>
    obtain ⟨m, hm, rfl, hall, hblk, hbel⟩ := hrel
    have Hall := Lib.hid hall
    have Hblk := Lib.hid hblk
    have Hbel := Lib.hid hbel
    have Hwr := Lib.hid (show Below w1.heap.size w1 wr from Bw.out.trans (hbel.mono H17.out))
    have Hgr := Lib.hid (show g9 < wr.heap.size from hblk.lt)
    have Hb5 := Lib.hid (show Blk wr g5 25 (CostV.mk v0 v1 v2).cells from Hg6.out.below hbel H57.out)
    have Hgd := Lib.hid (good_of_take hall Hsm.out)
    have HLo := Lib.hid (lossTo_bd (size := size) (ss := ss) m (good_of_take hall Hsm.out))
    clear hall hblk hbel
    by_cases hlt : m < n
    · have t1 : (m : Int) < (n : Int) := by omega
      have t2 : (0 : Int) ≤ (m : Int) := by omega
      obtain ⟨p, hp⟩ := list_get (k := m) Hn.out hlt
      have hmem := List.mem_of_getElem? hp
      have hp2 := Hss.out m p hp
      obtain ⟨b, off, rfl, hb, hc⟩ := samp_at Hs.out.row hp
      have hft := (Hs.out.fits p hmem)
      have HSs := Lib.hid (Hsm.out p.2 (List.mem_of_getElem? hp2))
      obtain ⟨⟨nm, rate, lp, f, t, a, len, cp⟩, s⟩ := p
      obtain ⟨⟨e1, e2, e3, e4, e5, e6⟩, h2, h3, vs, h4, h5⟩ := hft
      simp only [HSamp.cells] at hc h2 h3 h4 h5 e1 e2 e3 e4 e5 e6 hp2 HSs
      have HC := Lib.hid (fun W (hW : Below w1.heap.size w1 W) j v (hv : ([.string nm, .int .i64 rate, .bool lp, .int .i64 f, .int .i64 t, .slice a len cp] : List Value)[j]? = some v) => (show W.cell? ⟨b, off + m * 6 + j, none⟩ = some v from (hW.cell (p := ⟨b, off + m * 6 + j, none⟩) hb).trans (hc j v hv)))
      have c0 := HC.out wr Hwr.out 0 _ rfl
      have c1 := HC.out wr Hwr.out 1 _ rfl
      have c2 := HC.out wr Hwr.out 2 _ rfl
      have c3 := HC.out wr Hwr.out 3 _ rfl
      have c4 := HC.out wr Hwr.out 4 _ rfl
      have c5 := HC.out wr Hwr.out 5 _ rfl
      rw [Nat.add_zero] at c0
      have HQ := Lib.hid (fun W (hW : Below wr.heap.size wr W) => show Calls Tryz.prog 9 #[.agg #[.string nm, .int .i64 rate, .bool lp, .int .i64 f, .int .i64 t, .slice a len cp]] W (fun e w' => e = .returned (.int .i64 s.check) ∧ Below W.heap.size W w') by
        have hWB := bnext Hwr.out hW
        have h4' : Row w1 w1.heap.size a vs := h4
        have h5' : RowsAt w1 w1.heap.size vs s.rows := h5
        have := Check_any nm rate lp f t a cp vs s.rows W (h4'.later hWB) (h5'.later hWB) (by omega)
        rw [← e6] at this
        have ez : s.check = checkZ nm rate lp f t s.rows := by unfold SampV.check; rw [e1, e2, e3, e4, e5]
        rw [ez]; exact this)
      have HRow := Lib.hid (fun (k : Nat) (d : List Int) (hd : s.rows[k]? = some d) => (show ∃ b off a' c', a = some ⟨b, off, none⟩ ∧ b < w1.heap.size ∧ w1.cell? ⟨b, off + k, none⟩ = some (.slice a' d.length c') ∧ d.length ≤ c' ∧ c' ≤ 9223372036854775807 ∧ Row w1 w1.heap.size a' (d.map (.int .i64)) from first_row h4 h5 hd))
      have Hp2 := Lib.hid hp2
      have He6 := Lib.hid e6
      obtain ⟨z, hz⟩ : ∃ z, s.check = z := ⟨_, rfl⟩
      rw [hz] at HQ
      have Hz := Lib.hid hz
      clear hc hp hmem h4 h5 h2 h3 e1 e2 e3 e4 e5 e6 hp2 hz
      by_cases hz0' : z = 0
      · subst hz0'
        have Hgs := Lib.hid (good_of_check Hz.out HSs.out)
        obtain ⟨R, hR⟩ : ∃ R, s.rows.length = R := ⟨_, rfl⟩
        have e6 := He6.out
        rw [hR] at e6
        subst e6
        have HR := Lib.hid hR
        have hR2 : len ≤ 2 := by have := Hgs.out.1; omega
        clear hR
        go_wp2_with (go_at_call 9; fail)
        refine (HQ.out _ (Below.refl _ _)).mono ?_
        rintro e w4 ⟨rfl, hb4⟩
        have E1 := Lib.hid hb4
        have Hb1 := Lib.hid (Hblk.out.below E1.out Hgr.out)
        have HCh := Lib.hid (fun k => chanTo_bd (size := size) (rows := s.rows) HLo.out Hgs.out.2 k)
        have HCs := Lib.hid (fun k d (h : s.rows[k]? = some d) => chanTo_succ (size := size) (c := lossTo size ss m) h)
        clear c0 c1 c2 c3 c4 c5 hb4
        go_wp2_with fail
        go_loopw [11] (fun i wx => ∃ k : Nat, k ≤ len ∧ i = .int .i64 k ∧ Blk wx g9 25 (chanTo size s.rows (lossTo size ss m) k).cells ∧ Below g9 w8 wx) (fun i _ => len - (intOf i).toNat)
        case atStart => exact ⟨0, by omega, rfl, Hb1.out, Hbel.out.trans (E1.out.mono (by have := Hgr.out; omega))⟩
        case round =>
          obtain ⟨k, hk, rfl, hblk, hbel⟩ := hrel
          have Hbk := Lib.hid hblk
          have Hx := Lib.hid hbel
          have Hgx := Lib.hid (show g9 < wr.heap.size from hblk.lt)
          have Hwx := Lib.hid (show Below w1.heap.size w1 wr from Bw.out.trans (hbel.mono H17.out))
          have HCc := Lib.hid (show CoderAt wr g size from (hbel.block g Hg7.out).trans Hg.out)
          have z6 := HC.out wr Hwx.out 5 _ rfl
          clear hblk hbel
          by_cases hlk : k < len
          · have t3 : (k : Int) < (len : Int) := by omega
            have t4 : (0 : Int) ≤ (k : Int) := by omega
            obtain ⟨d, hd⟩ := list_get (k := k) HR.out hlk
            have Hgd := Lib.hid (Hgs.out.2 d (List.mem_of_getElem? hd))
            obtain ⟨b5, o5, a5, k5, rfl, hb5, hc5, _, _, hr5⟩ := HRow.out k d hd
            have z5 := (Hwx.out.cell (p := ⟨b5, o5 + k, none⟩) hb5).trans hc5
            have Hr5 := Lib.hid hr5
            have HCn := Lib.hid (HCs.out k d hd)
            have hbd := HCh.out k
            have hlb := HLb.out d Hgd.out
            have hd1 := Hgd.out.1
            have HFr2 := Lib.hid (HFr.out d g a5 k5 wr HCc.out Hgd.out (Hr5.out.later Hwx.out))
            have HSm2 := Lib.hid (fun M B c W (hW : Below wr.heap.size wr W) => HSm.out d g M B c W ((hW.block g (Nat.lt_trans Hg7.out Hgx.out)).trans HCc.out) Hgd.out)
            have HFa2 := Lib.hid (fun B2 c2 W (hW : Below wr.heap.size wr W) => HFar.out d a5 B2 k5 c2 W Hgd.out (Hr5.out.later (bnext Hwx.out hW)))
            obtain ⟨⟨f0, o0, l0⟩, hC⟩ : ∃ C, chanTo size s.rows (lossTo size ss m) k = C := ⟨_, rfl⟩
            rw [hC] at Hbk HCn hbd
            have HCn2 := Lib.hid (show chanTo size s.rows (lossTo size ss m) (k + 1) = ⟨max f0 (lostF size d), o0 + lostN size d, l0 + d.length⟩ from HCn.out)
            generalize lostF size d = F at *
            generalize lostN size d = N at *
            obtain ⟨nd, hnd⟩ : ∃ nd, d.length = nd := ⟨_, rfl⟩
            rw [hnd] at z5 HFr2 HSm2 HFa2 HCn2 hd1
            obtain ⟨bd1, bd2, bd3⟩ := hbd
            simp only at bd1 bd2 bd3
            have hwo : IntKind.i64.wrap (o0 + N) = o0 + N := IntWalk.i64_in _ (by omega)
            have hwl : IntKind.i64.wrap (l0 + (nd : Int)) = l0 + (nd : Int) := IntWalk.i64_in _ (by omega)
            clear hC HCn hd hb5 hc5 hr5 hnd hlb bd1 bd2 bd3 hd1
            go_wp2_with (go_at_call 10; fail)
            refine HFr2.out.mono ?_
            rintro e w2 ⟨Af, cf, M, rfl, hM, _, _, hfa, hb2⟩
            have HM := Lib.hid hM
            have Hfa := Lib.hid hfa
            have E2 := Lib.hid hb2
            clear hM hfa hb2 HFr2
            go_wp2_with (go_at_call 12; fail)
            refine (HSm2.out M _ _ w2 E2.out HM.out Hfa.out).mono ?_
            rintro e w3 ⟨As, cs, rfl, hr3, hb3⟩
            have R3 := Lib.hid hr3
            have E3 := Lib.hid (bnext E2.out hb3)
            clear hr3 hb3 HSm2
            by_cases hfF : f0 < F
            · have t5 : decide (f0 < F) = true := decide_eq_true hfF
              have hX : max f0 F = F := by omega
              rw [hX] at HCn2
              clear hfF hX
              go_wp2_with (go_at_call 11; fail)
              refine (HFa2.out _ _ w3 E3.out R3.out).mono ?_
              rintro e w4 ⟨rfl, hb4⟩
              have E4 := Lib.hid (bnext E3.out hb4)
              have B8 := Hbk.out.below E4.out Hgx.out
              have x8 : ∀ i, w4.cell? ⟨g9, i, none⟩ = ([.int .i64 f0, .int .i64 o0, .int .i64 l0] : List Value)[i]? := blk_cells B8
              have y8 := blk_free B8
              have HB8 := Lib.hid B8
              clear hb4 B8 HFa2
              go_wp2
              go_roundw
              case rel => exact ⟨k + 1, by omega, by go_num, by rw [HCn2.out]; exact blk3 HB8.out, below3 (Hx.out.trans (E4.out.mono (by have := Hgx.out; omega))) (Nat.le_refl _) _ _ _⟩
              case measure => simp [intOf]; omega
            · have t5 : decide (f0 < F) = false := decide_eq_false hfF
              have hX : max f0 F = f0 := by omega
              rw [hX] at HCn2
              clear hfF hX
              go_wp2_with (go_at_call 11; fail)
              refine (HFa2.out _ _ w3 E3.out R3.out).mono ?_
              rintro e w4 ⟨rfl, hb4⟩
              have E4 := Lib.hid (bnext E3.out hb4)
              have B8 := Hbk.out.below E4.out Hgx.out
              have x8 : ∀ i, w4.cell? ⟨g9, i, none⟩ = ([.int .i64 f0, .int .i64 o0, .int .i64 l0] : List Value)[i]? := blk_cells B8
              have y8 := blk_free B8
              have HB8 := Lib.hid B8
              clear hb4 B8 HFa2
              go_wp2
              go_roundw
              case rel => exact ⟨k + 1, by omega, by go_num, by rw [HCn2.out]; exact blk2 HB8.out, below2 (Hx.out.trans (E4.out.mono (by have := Hgx.out; omega))) (Nat.le_refl _) _ _⟩
              case measure => simp [intOf]; omega
          · obtain rfl : k = len := by omega
            have t3 : ¬ ((k : Int) < (k : Int)) := by omega
            have HN := Lib.hid (lossTo_succ (size := size) Hp2.out)
            go_wp2
            go_roundw
            case rel => exact ⟨m + 1, by omega, by go_num, by rw [all_take_succ _ Hp2.out, Hall.out, Hz.out]; rfl, by rw [HN.out, HR.out]; exact Hbk.out, Hx.out⟩
            case measure => simp [intOf]; omega
      · have t3 : (z == 0) = false := beq_eq_false_iff_ne.2 hz0'
        have t4 : (z != 0) = true := by rw [bne_iff_ne]; exact hz0'
        have HF := Lib.hid (firstBad_at Hp2.out Hall.out (by rw [Hz.out]; exact hz0'))
        have hE := HE2.out
        have hV := HV2.out
        rw [HF.out, Hz.out] at hE hV
        rw [if_pos hz0'] at hV
        injection hV with q0 q1 q2
        subst q0 q1 q2 hE
        clear hz0' HE2 HV2
        go_wp2_with (go_at_call 9; fail)
        refine (HQ.out _ (Below.refl _ _)).mono ?_
        rintro e w4 ⟨rfl, hb4⟩
        have E1 := Lib.hid hb4
        have B5 := Hb5.out.below hb4 (Nat.lt_trans H57.out Hgr.out)
        have x5 : ∀ i, w4.cell? ⟨g5, i, none⟩ = ([.int .i64 0, .int .i64 0, .int .i64 0] : List Value)[i]? := blk_cells B5
        have k0 := HC.out w4 (bnext Hwr.out hb4) 0 _ rfl
        have k1 := HC.out w4 (bnext Hwr.out hb4) 1 _ rfl
        have k2 := HC.out w4 (bnext Hwr.out hb4) 2 _ rfl
        have k3 := HC.out w4 (bnext Hwr.out hb4) 3 _ rfl
        have k4 := HC.out w4 (bnext Hwr.out hb4) 4 _ rfl
        have k5 := HC.out w4 (bnext Hwr.out hb4) 5 _ rfl
        rw [Nat.add_zero] at k0
        clear c0 c1 c2 c3 c4 c5 hb4 B5
        go_wp2_with (go_at_call 9; fail)
        refine (HQ.out _ E1.out).mono ?_
        rintro e w5 ⟨rfl, hb5⟩
        have E5 := Lib.hid (bnext (bnext Hwr.out E1.out) hb5)
        clear k0 k1 k2 k3 k4 k5 hb5 x5
        go_wp2_with (go_at_call 7; refine (HAw.out _).mono ?_; rintro e w9 ⟨rfl, hb9⟩)
        go_ret
        exact ⟨rfl, bnext B1.out (bnext E5.out hb9)⟩
    · obtain rfl : m = n := by omega
      have t1 : ¬ ((m : Int) < (m : Int)) := by omega
      have hall := all_take_all (fun s : SampV => decide (s.check = 0)) (by rw [Hsl.out]; omega) Hall.out
      have hE := HE2.out
      have hV := HV2.out
      rw [firstBad_none hall] at hE hV
      rw [if_neg (by simp), Hsl.out] at hV
      have HZ2 := Lib.hid (fun h : 55 ≤ size => HZe.out h ss m Hgd.out)
      rw [← hV] at Hblk HZ2
      subst hE
      have x8 : ∀ i, wr.cell? ⟨g9, i, none⟩ = ([.int .i64 v0, .int .i64 v1, .int .i64 v2] : List Value)[i]? := blk_cells Hblk.out
      have x5 : ∀ i, wr.cell? ⟨g5, i, none⟩ = ([.int .i64 v0, .int .i64 v1, .int .i64 v2] : List Value)[i]? := blk_cells Hb5.out
      clear hall HE2 HV2 hV
      by_cases h55 : size < 55
      · have t55 : decide (size < 55) = true := decide_eq_true h55
        clear h55
        go_wp2_with (go_at_call 7; refine (HAw.out _).mono ?_; rintro e w9 ⟨rfl, hb9⟩)
        go_ret
        exact ⟨rfl, bnext B1.out (bnext Hwr.out hb9)⟩
      · have t55 : decide (size < 55) = false := decide_eq_false h55
        have hz := HZ2.out (by omega)
        simp only at hz
        obtain ⟨hza, hzb⟩ := hz
        subst hza hzb
        clear h55
        go_wp2_with (go_at_call 7; refine (HAw.out _).mono ?_; rintro e w9 ⟨rfl, hb9⟩)
        go_ret
        exact ⟨rfl, bnext B1.out (bnext Hwr.out hb9)⟩
theorem QuotaCosts_law (W : World) (v0 v1 : Value) (a0 : Arg W (.int .i64) v0) (a1 : Arg W (.slice 6 sampTy) v1) :
    Calls Tryz.prog 3 #[v0, v1] W fun e w' => e = .returned (.bool true) ∧ Below W.heap.size W w' := by
  obtain ⟨size, ha, _, _⟩ := a0
  obtain rfl : v0 = .int .i64 size := by simpa using ha
  obtain ⟨L, A, cap, rfl, _, _, _, hs, hn⟩ := samps_arg a1
  exact QuotaCosts_walk size L A cap W hs hn
end Go.Proofs.YtbgkoopfdfnmcaaGreat
