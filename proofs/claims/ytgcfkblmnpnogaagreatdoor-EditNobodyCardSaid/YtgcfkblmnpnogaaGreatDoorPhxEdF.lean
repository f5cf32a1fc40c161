/- EdF. Conditions: as each theorem states. -/
import Derived.Test.YtgcfkblmnpnogaaGreatDoorPh32

namespace Go.Proofs.YtgcfkblmnpnogaaGreatDoor
open Go.RowKit

def FewPostX (W : World) (B : Nat) (nm : ByteArray) (rate : Int) (lp : Bool) (f t : Int) (rows : List (List Int)) (e : Ending) (w' : World) : Prop :=
  ∃ (a : Option Addr) (cap : Nat) (vs : List Value), e = .returned (.agg #[.string nm, .int .i64 rate, .bool lp, .int .i64 f, .int .i64 t, .slice a rows.length cap]) ∧
    rows.length ≤ cap ∧ cap ≤ 9223372036854775807 ∧ Row w' w'.heap.size a vs ∧ (∀ ad, a = some ad → W.heap.size ≤ ad.block) ∧ RowsAt w' B vs rows ∧ Below W.heap.size W w'
set_option maxRecDepth 100000 in
set_option maxHeartbeats 2000000 in
theorem Few_ex (nm : ByteArray) (rate : Int) (lp : Bool) (f t : Int) (a : Option Addr) (cap : Nat) (vs : List Value) (rows : List (List Int)) (w : World) (h100 : nm.size ≤ 100) (h4 : rows.length ≤ 4) (h150 : ∀ r ∈ rows, r.length ≤ 150) (B : Nat) (hB : B ≤ w.heap.size) (hr : Row w B a vs) (hm : RowsAt w B vs rows) :
    Calls Tryz.prog 59 #[.agg #[.string nm, .int .i64 rate, .bool lp, .int .i64 f, .int .i64 t, .slice a rows.length cap]] w (FewPostX w B nm rate lp f t rows) := by
  obtain ⟨i0, hi, hz0, hz1, hz2⟩ := info_parts inf_rows
  obtain ⟨R, hR⟩ : ∃ R, rows.length = R := ⟨_, rfl⟩
  have HTk := Lib.hid (fun (k : Nat) xs (h : rows[k]? = some xs) => (show rows.take (k + 1) = rows.take k ++ [xs] from by rw [List.take_add_one, h]; rfl))
  have HTn := Lib.hid (show rows.take R = rows from List.take_of_length_le (by omega))
  have HTl := Lib.hid (fun k (hk : k ≤ R) => (show (rows.take k).length = k by rw [List.length_take]; omega))
  have H150 := Lib.hid (fun (k : Nat) xs (h : rows[k]? = some xs) => h150 xs (List.mem_of_getElem? h))
  have hd : decide ((100 : Int) < (nm.size : Int)) = false := decide_eq_false (by omega)
  rw [hR] at h4 ⊢
  have HR := Lib.hid hR
  have Hr := Lib.hid hr
  have Hm := Lib.hid hm
  have Hnm := Lib.hid h100
  clear hR hr hm h100 h150
  go_enter Tryz.func59, Tryz.ntmps59
  go_wp2
  go_loopw [3, 4] (fun d i wr => ∃ (k : Nat) (vsk : List Value) (A : Option Addr) (c : Nat), k ≤ R ∧ i = .int .i64 k ∧ d = .slice A k c ∧ k ≤ c ∧ c ≤ 9223372036854775807 ∧ wr.ownsRow (w.heap.size + 2) 94 1 (.slice A k c) k vsk ∧
      RowsAt w B vsk (rows.take k) ∧
      Blk wr w.heap.size 92 [.string nm, .int .i64 rate, .bool lp, .int .i64 f, .int .i64 t, .slice a R cap] ∧
      Blk wr (w.heap.size + 1) 92 [.string ⟨#[]⟩, .int .i64 0, .bool false, .int .i64 0, .int .i64 0, .slice none 0 0] ∧ Below w.heap.size w wr ∧ w.heap.size + 2 ≤ wr.heap.size)
    (fun _ i _ => 4 - (intOf i).toNat)
  case atStart => exact ⟨0, [], none, 0, Nat.zero_le _, rfl, rfl, Nat.le_refl _, by omega, World.ownsRow_nil _ _ _ _, ⟨rfl, fun i v xs h => by simp at h⟩, (Blk.new w _ _).alloc _, Blk.new2 w _ _ _, (bnew _ _).alloc (by simp) _, by simp⟩
  case round =>
    obtain ⟨k, vsk, A, c, hkR, rfl, rfl, hkc, hc63, hown, hrows, hbox, hres, hbel, hsz⟩ := hrel
    have c0 := hbox.cell 0
    have c1 := hbox.cell 1
    have c2 := hbox.cell 2
    have c3 := hbox.cell 3
    have c4 := hbox.cell 4
    have c5 := hbox.cell 5
    have f5 := hbox.frozen 5
    have hge := own_block_ge hown
    by_cases hlt : k < R
    · have hlt4 : k < 4 := by omega
      obtain ⟨xs, hxs⟩ : ∃ xs, rows[k]? = some xs := ⟨_, List.getElem?_eq_getElem (by rw [HR.out]; exact hlt)⟩
      obtain ⟨b, off, a', c', rfl, hb, hc, hl1, hl2, hrow⟩ := first_row Hr.out Hm.out hxs
      have hcr := (hbel.cell (p := ⟨b, off + k, none⟩) (Nat.lt_of_lt_of_le hb hB)).trans hc
      have Hrow := Lib.hid (show IntsAt w B (.slice a' xs.length c') xs from ⟨a', c', rfl, hl1, hl2, hrow⟩)
      have Hown := Lib.hid hown
      have Hge := Lib.hid hge
      have Hrows := Lib.hid hrows
      have Hbox := Lib.hid hbox
      have Hres := Lib.hid hres
      have Hbel := Lib.hid hbel
      have HT := Lib.hid (HTk.out k xs hxs)
      have hl : ¬ 150 < xs.length := by have := H150.out k xs hxs; omega
      clear hown hge hrows hbox hres hbel hxs hc hrow
      go_wp2_with (at_builtin; refine wpList_app _ rfl (.tmp 35) (.tmp 37) 90 rfl (w.heap.size + 2) 94 i0 (.slice none 0 0) 1 24 Tryz.underlying90 hi hz0 hz1 hz2 rfl (by omega) _ k vsk rfl (Hown.out.alloc _) (wr.heap.size + 1) (some ⟨wr.heap.size, 0, none⟩) 1 1 [.slice a' xs.length c'] rfl rfl (Row.new wr _ _) (fun u hu => by simp at hu; subst hu; rfl) (by omega) (by omega) (by simp; omega) ?_; intro A' cc w1 hown1 hgrow hat hcc)
      go_roundw
      case rel =>
        have hne : ∀ g, g < w.heap.size + 2 → some g ≠ (Value.slice A k c).ownBlock := fun g hg h => by have := Hge.out g h.symm; omega
        have hb2 : Below w.heap.size w w1 := (Hbel.out.alloc (by omega) _).grown hgrow (by simp; omega) (fun g h => by have := Hge.out g h; omega)
        have hsz2 : w.heap.size + 2 ≤ w1.heap.size := by have := hgrow.size; simp at this; omega
        have hcm : cc ≤ 9223372036854775807 := own_cap hown1
        exact ⟨k + 1, _, A', cc, by omega, by go_num, rfl, hcc, hcm, hown1, by rw [HT.out]; exact RowsAt.snoc Hrows.out Hrow.out, (Hbox.out.alloc _).grown hgrow (hne _ (by omega)), (Hres.out.alloc _).grown hgrow (hne _ (by omega)), hb2, hsz2⟩
      case measure => simp [intOf]; omega
    · have hkr : k = R := by omega
      subst hkr
      have Hown := Lib.hid hown
      have hrows2 := hrows
      rw [HTn.out] at hrows2
      have Hrows := Lib.hid hrows2
      have Hbel := Lib.hid hbel
      have r0 := hres.frozen 0
      have r1 := hres.frozen 1
      have r2 := hres.frozen 2
      have r3 := hres.frozen 3
      have r4 := hres.frozen 4
      have r5 := hres.frozen 5
      have e0 := hres.cell 0
      have e1 := hres.cell 1
      have e2 := hres.cell 2
      have e3 := hres.cell 3
      have e4 := hres.cell 4
      have e5 := hres.cell 5
      have t1 : ¬ ((k : Int) < (k : Int)) := by omega
      clear hown hrows hrows2 hbel hge hbox hres
      go_wp2
      all_goals
        refine bodyPost_ret (v := .agg #[.string nm, .int .i64 rate, .bool lp, .int .i64 f, .int .i64 t, .slice A k c]) (by simp [results, Tryz.results59, go_sem, e0, e1, e2, e3, e4, e5]) rfl ?_
        refine ⟨A, c, vsk, by rw [HR.out], by rw [HR.out]; exact hkc, hc63, Row.of_own (base := w.heap.size + 2) (e := 94) (size := 1) (n := k) (c := c) ?_, fun ad had => ?_, Hrows.out.below (Below.mono ?_ hB), ?_⟩
        · repeat (refine ownsRow_setCell_below ?_ (by simp) _)
          exact Hown.out
        · have := own_block_ge Hown.out ad.block (by rw [had]; rfl)
          omega
        · repeat (refine Below.setCell ?_ (by simp) _)
          exact Hbel.out
        · repeat (refine Below.setCell ?_ (by simp) _)
          exact Hbel.out
def FewsPostX (W : World) (SS : List SampV) (e : Ending) (w' : World) : Prop :=
  ∃ A c L', e = .returned (.slice A (List.length L') c) ∧ List.map Prod.snd L' = SS ∧ List.length L' ≤ c ∧ c ≤ 9223372036854775807 ∧ (A = none → c = 0) ∧ SampsAt w' w'.heap.size A L' ∧ Below W.heap.size W w'
set_option maxRecDepth 100000 in
set_option maxHeartbeats 4000000 in
theorem Few15_ex (L : List (HSamp × SampV)) (A : Option Addr) (cap : Nat) (w : World) (hs : SampsAt w w.heap.size A L) (h8 : L.length ≤ 8) (hsm : ∀ p ∈ L, p.2.name.size ≤ 100 ∧ p.2.rows.length ≤ 4 ∧ ∀ r ∈ p.2.rows, r.length ≤ 150) :
    Calls Tryz.prog 48 #[.slice A L.length cap] w (FewsPostX w (L.map Prod.snd)) := by
  obtain ⟨i0, hi, hz0, hz1, hz2⟩ := info_parts inf_samp
  have HTk := Lib.hid (fun (k : Nat) p (h : L[k]? = some p) => (show (L.map Prod.snd).take (k + 1) = (L.map Prod.snd).take k ++ [p.2] from by rw [List.take_add_one, List.getElem?_map, h]; rfl))
  have HTn := Lib.hid (show (L.map Prod.snd).take L.length = L.map Prod.snd from List.take_of_length_le (by simp))
  obtain ⟨n, hn'⟩ : ∃ n, L.length = n := ⟨_, rfl⟩
  have Hn := Lib.hid hn'
  have Hs := Lib.hid hs
  have Hsm0 := Lib.hid hsm
  rw [hn'] at h8 HTn ⊢
  clear hn' hs hsm
  go_enter Tryz.func48, Tryz.ntmps48
  go_wp2
  go_loopw [3, 4] (fun o i wr => ∃ (k : Nat) (M : List (HSamp × SampV)) (A' : Option Addr) (c : Nat), k ≤ n ∧ i = .int .i64 k ∧ M.length = k ∧ M.map Prod.snd = (L.map Prod.snd).take k ∧ o = .slice A' k c ∧
      wr.ownsRow w.heap.size 92 6 (.slice A' k c) k (headCells M) ∧ (∀ p ∈ M, Stands w.heap.size wr (Value.slice A' k c).ownBlock p) ∧ Below w.heap.size w wr) (fun _ i _ => n - (intOf i).toNat)
  case atStart => exact ⟨0, [], none, 0, Nat.zero_le _, rfl, rfl, rfl, rfl, World.ownsRow_nil _ _ _ _, nofun, Below.refl _ _⟩
  case round =>
    obtain ⟨k, M, A', c, hk, rfl, hM, hmap, rfl, hown, hfit, hbel⟩ := hrel
    have HM := Lib.hid hM
    have Hmap := Lib.hid hmap
    have Hown := Lib.hid hown
    have Hfit := Lib.hid hfit
    have Hbel := Lib.hid hbel
    have Hge := Lib.hid (own_block_ge hown)
    clear hM hmap hown hfit hbel
    by_cases hlt : k < n
    · have hlt8 : k < 8 := by omega
      have t1 : (k : Int) < (n : Int) := by omega
      have t2 : (k : Int) < 8 := by omega
      obtain ⟨p, hp⟩ := list_get (k := k) Hn.out hlt
      have hmem := List.mem_of_getElem? hp
      have HT := Lib.hid (HTk.out k p hp)
      obtain ⟨b, off, rfl, hb, hc⟩ := samp_at Hs.out.row hp
      have hft := Hs.out.fits p hmem
      obtain ⟨hq1, hq2, hq3⟩ := Hsm0.out p hmem
      obtain ⟨⟨nm, rate, lp, f, t, a, len, cp⟩, s⟩ := p
      obtain ⟨⟨e1, e2, e3, e4, e5, e6⟩, h2, h3, vs, h4, h5⟩ := hft
      simp only [HSamp.cells] at hc h2 h3 h4 h5 e1 e2 e3 e4 e5 e6 hq1 hq2 hq3
      have HB := Lib.hid (fun W (hW : Below w.heap.size w W) j v (hv : ([.string nm, .int .i64 rate, .bool lp, .int .i64 f, .int .i64 t, .slice a len cp] : List Value)[j]? = some v) => (hW.cell (p := ⟨b, off + k * 6 + j, none⟩) hb).trans (hc j v hv))
      have c0 := HB.out _ Hbel.out 0 _ rfl
      have c1 := HB.out _ Hbel.out 1 _ rfl
      have c2 := HB.out _ Hbel.out 2 _ rfl
      have c3 := HB.out _ Hbel.out 3 _ rfl
      have c4 := HB.out _ Hbel.out 4 _ rfl
      have c5 := HB.out _ Hbel.out 5 _ rfl
      rw [Nat.add_zero] at c0
      have HQ := Lib.hid (show Calls Tryz.prog 59 #[.agg #[.string nm, .int .i64 rate, .bool lp, .int .i64 f, .int .i64 t, .slice a len cp]] wr (FewPostX wr w.heap.size nm rate lp f t s.rows) by
        have := Few_ex nm rate lp f t a cp vs s.rows wr (by rw [e1]; exact hq1) hq2 hq3 w.heap.size Hbel.out.size (h4.below Hbel.out) (h5.below Hbel.out)
        rw [← e6] at this; exact this)
      have Hs2 := Lib.hid (show (⟨nm, rate, lp, f, t, s.rows⟩ : SampV) = s from by
        obtain ⟨x1, x2, x3, x4, x5, x6⟩ := s
        simp only at e1 e2 e3 e4 e5
        rw [e1, e2, e3, e4, e5])
      clear hc hp hmem h4 h5 h2 h3 e1 e2 e3 e4 e5 e6 hq1 hq2 hq3
      generalize s.rows = rows' at *
      go_wp2_with fail
      refine HQ.out.mono ?_
      rintro e w1 ⟨a', cap', vs', rfl, g3, g4, g6, g7, g8, hb1⟩
      have own1 := own_below Hown.out hb1
      have Hb1X := Lib.hid (bnext Hbel.out hb1)
      have hsz1 := Nat.le_trans Hbel.out.size hb1.size
      have Hfit1 := Lib.hid (fun p hp => (Hfit.out p hp).below Hbel.out.size hb1)
      have HG := Lib.hid (show Stands w.heap.size w1 (Value.slice A' k c).ownBlock (HSamp.mk nm rate lp f t a' rows'.length cap', SampV.mk nm rate lp f t rows') from
        ⟨⟨rfl, rfl, rfl, rfl, rfl, rfl⟩, g3, g4, ⟨vs', g6, g8⟩, fun ad had hne => ⟨fun he => by have := g7 ad had; have := own_block_lt Hown.out _ he; omega, rows_lt g6 g8.1 hne had⟩⟩)
      generalize rows'.length = R' at *
      clear c0 c1 c2 c3 c4 c5 g3 g4 g6 g8 hb1 HQ
      go_wp2_with (at_builtin; refine wpList_app _ rfl (.tmp 15) (.tmp 21) 39 rfl w.heap.size 92 i0 _ 6 72 Tryz.underlying39 hi hz0 hz1 hz2 rfl (by omega) _ k (headCells M) rfl (own1.alloc _) (w1.heap.size + 1) (some ⟨w1.heap.size, 0, none⟩) 1 1 [.string nm, .int .i64 rate, .bool lp, .int .i64 f, .int .i64 t, .slice a' R' cap'] rfl rfl (Row.new w1 _ _) (hs_one ⟨0, ⟨nm, rate, lp, f, t, a', R', cap'⟩, default⟩) (by omega) (by omega) (by simp; omega) ?_; intro A2 cc w2 hown2 hgrow hat hcc)
      go_roundw
      case rel =>
        have hb2 : Below w.heap.size w w2 := ((Hb1X.out).alloc (by omega) _).grown hgrow (by simp; omega) (fun g h => Hge.out g h)
        have hrow : (Value.slice A2 (k + 1) cc).ownBlock = (Value.slice A' k c).ownBlock ∨ (Value.slice A2 (k + 1) cc).ownBlock = some (w1.alloc (.cells #[.string nm, .int .i64 rate, .bool lp, .int .i64 f, .int .i64 t, .slice a' R' cap'] 92)).heap.size := hat
        have hst : ∀ p, Stands w.heap.size w1 (Value.slice A' k c).ownBlock p → Stands w.heap.size w2 (Value.slice A2 (k + 1) cc).ownBlock p := fun p hp => (hp.below hsz1 (bnew w1 _)).grown (by simp; omega) hgrow (fun g h => Hge.out g h) hrow
        refine ⟨k + 1, M ++ [(HSamp.mk nm rate lp f t a' R' cap', SampV.mk nm rate lp f t rows')], A2, cc, by omega, by go_num, by simp [HM.out], ?_, rfl, ?_, ?_, hb2⟩
        · rw [List.map_append, Hmap.out, HT.out]
          show _ ++ [SampV.mk nm rate lp f t rows'] = _
          rw [Hs2.out]
        · rw [headCells_snoc]; exact hown2
        · intro p hp
          rcases List.mem_append.1 hp with h | h
          · exact hst p (Hfit1.out p h)
          · rw [List.mem_singleton] at h; subst h; exact hst _ HG.out
      case measure => simp [intOf]; omega
    · have hkn : k = n := by omega
      subst hkn
      have t1 : ¬ ((k : Int) < (k : Int)) := by omega
      obtain ⟨A3, c3, he, h1, h2⟩ := own_form Hown.out
      injection he with e1 _ e3
      subst e1 e3
      have HFin := Lib.hid (show FewsPostX w (L.map Prod.snd) (.returned (.slice A' k c)) wr from ⟨A', c, M, by rw [HM.out], by rw [Hmap.out, HTn.out], by rw [HM.out]; exact h1, own_cap Hown.out, fun h => (h2 h).2, ⟨Row.of_own Hown.out, fun p hp => (Hfit.out p hp).fits Hbel.out.size⟩, Hbel.out⟩)
      clear h1 h2
      go_wp2
      go_ret
      exact HFin.out
end Go.Proofs.YtgcfkblmnpnogaaGreatDoor
